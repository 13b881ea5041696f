/- Small plain laws for the laws of layer 5; the keys' sizes. -/
import Derived.Test.YtihnldhdpiokhaaAw05
import Derived.Test.YtihnldhdpiokhaaGet05
namespace Go.Proofs.Ytihnldhdpiokhaa
open Go.RowKit
set_option linter.unusedVariables false

theorem doM_twice {m : Vals} {u : Upd} (h : u.kind = 1 ∨ u.kind = 2 ∨ u.kind = 5) : doM (doM m u) u = doM m u := by
  funext k
  unfold doM
  by_cases e : u.key = k ∧ mayU u = 0
  · simp only [if_pos e]
    unfold applyV
    rcases h with h | h | h <;> simp [h]
  · simp only [if_neg e]
theorem keys_wf {l : List Upd} (hw : ∀ u ∈ l, UpdWf u) {ks : List ByteArray} (hk : KeysOf (stOf l) ks) : ∀ k ∈ ks, k.size ≤ maxLen := fun k h => by
  have h1 := (hk.mem k).1 h
  by_cases e : ∃ u ∈ l, u.key = k
  · obtain ⟨u, hu, rfl⟩ := e
    exact (hw u hu).1
  · exact absurd (by rw [stOf_none (fun u hu e' => e ⟨u, hu, e'⟩)]; rfl) h1
theorem Stw.count1 {w0 w : World} {g r n n' : Nat} {m m' : Vals} {X : Hold} (h : Stw w0 g m n r m' n' X w) {ks : List ByteArray} (hk : KeysOf m ks) : ks.length ≤ n := by
  obtain ⟨own, hB, ⟨_, b, _, _, hm, _⟩, _⟩ := h
  exact hm.count hk
theorem Stb.count {w0 w : World} {g n : Nat} {m : Vals} {X : Hold} (h : Stb w0 g m n X w) {ks : List ByteArray} (hk : KeysOf m ks) : ks.length ≤ n := by
  obtain ⟨own, hB, ⟨_, b, _, _, hm, _⟩, _⟩ := h
  exact hm.count hk
theorem Stw.mono2 {w0 w : World} {g r n n' n2 : Nat} {m m' : Vals} {X : Hold} (h : Stw w0 g m n r m' n' X w) (hn : n' ≤ n2) : Stw w0 g m n r m' n2 X w := by
  obtain ⟨own, hB, h1, h2, hx⟩ := h
  exact ⟨own, hB, h1, h2.mono hn, hx⟩
end Go.Proofs.Ytihnldhdpiokhaa
