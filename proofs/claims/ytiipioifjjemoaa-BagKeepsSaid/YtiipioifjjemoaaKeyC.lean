/- A map of packets that the call itself has made: what is a key of it, and reads true. -/
import Derived.Test.YtiipioifjjemoaaOpenD
import Derived.Maps.Own
import Derived.Maps.OwnOps
import Derived.Maps.OwnSet
import Derived.Maps.Views
import Derived.DeepKeys4
namespace Go.Proofs.Ytiipioifjjemoaa
open Go.RowKit Go.WideMaps
open Go.Maps (Keyed)
set_option linter.unusedVariables false

theorem cells39 : Try.prog.cellsOf 39 = 3 := by kernel_rfl
theorem laidOutC : laidOutB Try.prog = true := by kernel_rfl
theorem row39 : (39 : TypeId) < Try.prog.types.size := of_decide_eq_true (by kernel_rfl)
theorem deep39 : Try.prog.keyType 39 = true := by kernel_rfl
theorem wide39 : (match Try.prog.underlying 39 with | some (.array _ _) | some (.struct _) => true | _ => false) = true := by rw [Try.underlying39]
theorem law39 : KeyLaw Try.prog 39 := deep_law_laid laidOutC (m := 2) (by omega) row39 (by kernel_rfl) wide39
theorem key39 : Keyed Try.prog 39 := Keyed.of_law law39
def pvl (p : Pkt) : Value := .agg #[.int .i64 p.src, .int .i64 p.dst, .string p.bytes]
theorem key_pkt (p : Pkt) (hw : PktWf p) : ∃ kl, keyOf Try.prog 39 (pvl p) = some kl := by
  obtain ⟨a, b, c⟩ := p
  obtain ⟨h1, h2, h3⟩ := hw
  dsimp only at h1 h2 h3
  have hf : (Value.agg #[.int .i64 a, .int .i64 b, .string c]).formed Try.prog 39 = true := by simp [Value.formed, Try.underlying39, cells39]
  obtain ⟨m, hm⟩ : ∃ m, Try.prog.types.size = m + 1 := ⟨Try.prog.types.size - 1, by have h0 : (39 : Nat) < Try.prog.types.size := row39; omega⟩
  have c3 : Try.prog.cellsOf 3 = 1 := by kernel_rfl
  have c9 : Try.prog.cellsOf 9 = 1 := by kernel_rfl
  unfold keyOf pvl
  simp only [Try.underlying39, deep39, hf, Bool.and_self, if_true, hm]
  simp [Program.keyLits, Try.underlying39, Try.underlying3, Try.underlying9, Value.cells, cells39, c3, c9, h1, h2, h3]

/-- Block b is a map of at most n entries, under which each packet of ks is a key that reads true. -/
def KnownAt (w : World) (b n : Nat) (ks : List Pkt) : Prop :=
  ∃ D : DataW Unit, w.ownsMap Try.prog 39 (plainElem Try.prog 4) b n D ∧ ∀ p ∈ ks, ∀ kl, keyOf Try.prog 39 (pvl p) = some kl → D.atKey kl (.lit (.bool false)) = .lit (.bool true)
section
variable {w w' : World} {b n : Nat} {ks : List Pkt}
theorem KnownAt.of_eq (h : KnownAt w b n ks) (e : w'.heap[b]? = w.heap[b]?) : KnownAt w' b n ks := by
  obtain ⟨D, ⟨es, clock, hb, rest⟩, hk⟩ := h
  exact ⟨D, ⟨es, clock, e.trans hb, rest⟩, hk⟩
theorem KnownAt.lt (h : KnownAt w b n ks) : b < w.heap.size := by
  obtain ⟨D, h1, _⟩ := h
  exact h1.lt
theorem KnownAt.made (w : World) : KnownAt (w.alloc (.map #[] 0)) w.heap.size 0 [] := ⟨.map [], World.ownsMap_made w _ _ _, fun p hp => by simp at hp⟩
theorem KnownAt.mono (h : KnownAt w b n ks) {ks' : List Pkt} (hs : ∀ p ∈ ks', p ∈ ks) : KnownAt w b n ks' := by
  obtain ⟨D, h1, hk⟩ := h
  exact ⟨D, h1, fun p hp => hk p (hs p hp)⟩
theorem plain_bool_inv {v : Value} {z : DataW Unit × List MemPlace} (h : plainElem Try.prog 4 v = some z) : ∃ x, v = .bool x ∧ z = (.lit (.bool x), []) := by
  unfold plainElem at h
  rw [Try.underlying4] at h
  cases v <;> simp at h
  exact ⟨_, rfl, h.symm⟩
theorem zero4 (w : World) : (zeroValue 4).run Try.prog w = .ok (.bool false) w := by kernel_rfl

theorem KnownAt.put (h : KnownAt w b n ks) (hn : n < maxLen) (p : Pkt) (hp : PktWf p) : ∃ w', (Instr.mapUpdate 43 (.map (some b)) (pvl p) (.bool true)).run Try.prog w = .ok () w' ∧ KnownAt w' b (n + 1) (p :: ks) ∧ w.grownBy w' (some b) := by
  obtain ⟨D, h1, hk⟩ := h
  obtain ⟨kl, hkl⟩ := key_pkt p hp
  obtain ⟨w', hrun, r1, r2⟩ := h1.update key39 Try.underlying43 hn hkl (plainElem_bool Try.underlying4 true)
  refine ⟨w', hrun, ⟨_, r1, fun q hq kq hkq => ?_⟩, r2⟩
  by_cases e : kq = kl
  · subst e
    exact Maps.atKey_put_same h1.isMap (key39.key hkl) _ _
  · rw [Maps.atKey_put_other e]
    rcases List.mem_cons.1 hq with rfl | hq
    · rw [hkl] at hkq
      injection hkq with hkq
      exact absurd hkq.symm e
    · exact hk q hq kq hkq
theorem KnownAt.look (h : KnownAt w b n ks) (p : Pkt) (hp : p ∈ ks) (hw : PktWf p) : (Instr.lookup 43 (.map (some b)) (pvl p) false).run Try.prog w = .ok (.bool true) w := by
  obtain ⟨D, h1, hk⟩ := h
  obtain ⟨kl, hkl⟩ := key_pkt p hw
  obtain ⟨v, ps, hrun, hv⟩ := h1.lookup key39 Try.underlying43 (zero4 w) (plainElem_bool Try.underlying4 false) hkl
  rw [hk p hp kl hkl] at hv
  obtain ⟨x, rfl, hx⟩ := plain_bool_inv hv
  injection hx with hx
  injection hx with hx
  injection hx with hx
  subst hx
  exact hrun
end
end Go.Proofs.Ytiipioifjjemoaa
