/- One text put into a rising row, in place: what it wants of memory. Plain lemmas. -/
import Derived.Test.YtihnldhdpiokhaaGre05
import Derived.Test.YtihnldhdpiokhaaPlays05
import Derived.Test.YtihnldhdpiokhaaSto3
namespace Go.Proofs.Ytihnldhdpiokhaa
open Go.RowKit
set_option linter.unusedVariables false

/-- keys of the first k updates that are meant -/
def Pk (sel : Upd → Prop) (l : List Upd) (k : Nat) (x : ByteArray) : Prop := ∃ u ∈ l.take k, sel u ∧ u.key = x
theorem Pk.zero (sel : Upd → Prop) (l : List Upd) : KSet (Pk sel l 0) [] := ⟨List.Pairwise.nil, fun k => by simp [Pk]⟩
theorem pk_succ {sel : Upd → Prop} {l : List Upd} {k : Nat} {u : Upd} (h : l[k]? = some u) (x : ByteArray) : Pk sel l (k + 1) x ↔ Pk sel l k x ∨ (sel u ∧ u.key = x) := by
  unfold Pk
  rw [List.take_add_one, h, Option.toList_some]
  constructor
  · rintro ⟨y, hy, h1, h2⟩
    rcases List.mem_append.1 hy with hy | hy
    · exact .inl ⟨y, hy, h1, h2⟩
    · rw [List.mem_singleton] at hy
      subst hy
      exact .inr ⟨h1, h2⟩
  · rintro (⟨y, hy, h1, h2⟩ | ⟨h1, h2⟩)
    · exact ⟨y, List.mem_append_left _ hy, h1, h2⟩
    · exact ⟨u, by simp, h1, h2⟩
theorem KSet.skip {sel : Upd → Prop} {l : List Upd} {k : Nat} {u : Upd} {ks : List ByteArray} (hk : KSet (Pk sel l k) ks) (h : l[k]? = some u) (hs : ¬ sel u) : KSet (Pk sel l (k + 1)) ks :=
  hk.cong fun x => by rw [pk_succ h]; exact ⟨.inl, fun h' => h'.elim id fun h2 => absurd h2.1 hs⟩
theorem KSet.there {sel : Upd → Prop} {l : List Upd} {k j : Nat} {u : Upd} {ks : List ByteArray} (hk : KSet (Pk sel l k) ks) (h : l[k]? = some u) (hj : ks[j]? = some u.key) : KSet (Pk sel l (k + 1)) ks :=
  hk.cong fun x => by
    rw [pk_succ h]
    refine ⟨.inl, fun h' => h'.elim id fun h2 => ?_⟩
    rw [← h2.2]
    exact (hk.mem _).1 (List.mem_of_getElem? hj)
theorem KSet.put_in {sel : Upd → Prop} {l : List Upd} {k : Nat} {u : Upd} {ks : List ByteArray} (hk : KSet (Pk sel l k) ks) (h : l[k]? = some u) (hs : sel u) (at_ : Nat) (hat : at_ ≤ ks.length) (hlo : ∀ (j : Nat) (x : ByteArray), ks[j]? = some x → j < at_ → ltB x u.key)
    (hhi : ∀ x, ks[at_]? = some x → ltB u.key x) : KSet (Pk sel l (k + 1)) (ks.take at_ ++ [u.key] ++ ks.drop at_) :=
  (hk.insert u.key at_ hat hlo hhi).cong fun x => by
    rw [pk_succ h]
    exact ⟨fun h' => h'.elim .inl fun e => .inr ⟨hs, e.symm⟩, fun h' => h'.elim .inl fun e => .inr e.2.symm⟩
theorem keys_pk {l : List Upd} {ks : List ByteArray} (hk : KSet (Pk (fun u => hasV (stOf l) u.key) l l.length) ks) : KeysOf (stOf l) ks :=
  hk.cong fun x => by
    unfold Pk
    rw [List.take_length]
    constructor
    · rintro ⟨u, _, h1, rfl⟩; exact h1
    · intro hx
      by_cases e : ∃ u ∈ l, u.key = x
      · obtain ⟨u, hu, rfl⟩ := e
        exact ⟨u, hu, hx, rfl⟩
      · exact absurd (by rw [stOf_none (fun u hu e' => e ⟨u, hu, e'⟩)]; rfl) hx

theorem less_yes {s k : ByteArray} (h : ltB s k) : Op.bytesLess s.toList k.toList = true := by
  rw [Go.Proofs.bytesLess_eq, ByteArray.toList_eq, ByteArray.toList_eq]
  exact decide_eq_true h
theorem less_no {s k : ByteArray} (h : ¬ ltB s k) : Op.bytesLess s.toList k.toList = false := by
  rw [Go.Proofs.bytesLess_eq, ByteArray.toList_eq, ByteArray.toList_eq]
  exact decide_eq_false h
theorem same_no {s k : ByteArray} (h : ¬ s = k) : (s.toList == k.toList) = false := by
  rw [ByteArray.toList_eq, ByteArray.toList_eq, beq_eq_false_iff_ne]
  exact fun e => h (bytes_ext e)
section
variable {w w' : World} {own own' : Nat → Nat} {i e n c : Nat} {A : Option Addr} {ks : List ByteArray}
/-- the row's beginning -/
theorem OwnS.front (h : OwnS w own i e 1 A n c (ks.map Value.string)) {j : Nat} (hj : j ≤ n) : OwnS w own i e 1 A j c ((ks.take j).map Value.string) := by
  have hl := h.1
  simp only [List.length_map, Nat.mul_one] at hl
  refine ⟨by simp; omega, ?_⟩
  rcases h.2 with ⟨h1, h2, h3⟩ | ⟨g, cur, h1, h2, h3, h4, h5, h6, h7⟩
  · exact .inl ⟨h1, by omega, h3⟩
  · refine .inr ⟨g, cur, h1, h2, h3, by omega, h5, h6, ?_⟩
    rw [Nat.mul_one] at h7 ⊢
    rw [List.map_take, ← h7, List.take_take]
    congr 1
    omega
/-- the row's rest, where it lies -/
theorem OwnS.rest (h : OwnS w own i e 1 A n c (ks.map Value.string)) {j : Nat} (hj : j < n) : ∃ g, A = some ⟨g, 0, none⟩ ∧ Rd w 1 (some ⟨g, j, none⟩) (n - j) ((ks.drop j).map Value.string) := by
  have hl := h.1
  simp only [List.length_map, Nat.mul_one] at hl
  rcases h.2 with ⟨h1, h2, h3⟩ | ⟨g, cur, h1, h2, h3, h4, h5, h6, h7⟩
  · omega
  · refine ⟨g, h1, by simp; omega, fun _ => ⟨g, j, rfl, fun q u hu => ?_⟩⟩
    rw [h3.cell]
    rw [List.map_drop, List.getElem?_drop, ← h7, Nat.mul_one, List.getElem?_take] at hu
    split at hu
    · simpa using hu
    · cases hu
theorem OwnS.some_ {size : Nat} {xs : List Value} (h : OwnS w own i e size A n c xs) (hn : 0 < n) : ∃ g, A = some ⟨g, 0, none⟩ := by
  rcases h.2 with ⟨h1, h2, h3⟩ | ⟨g, cur, h1, _⟩
  · omega
  · exact ⟨g, h1⟩
end
end Go.Proofs.Ytihnldhdpiokhaa
