/- The walks of the store's New, Get, Len and Copy. -/
import Derived.Test.YtihnldhdpiokhaaApp43
import Derived.Test.YtihnldhdpiokhaaLaid
namespace Go.Proofs.Ytihnldhdpiokhaa
open Go.RowKit
set_option linter.unusedVariables false

theorem grown_set {a b : World} (h : a.grownBy b none) {p : Addr} (hp : a.heap.size ≤ p.block) (u : Value) : a.grownBy (b.setCell p u) none :=
  ⟨h.os, h.tape, h.output, by have := h.size; simpa using this, fun k hk hn => (Below.heap_setCell _ _ _ _ (by omega)).trans (h.block k hk hn)⟩
theorem grown_drewN (w : World) (n : Nat) : w.grownBy (w.drewN n) none := ⟨rfl, rfl, rfl, Nat.le_refl _, fun _ _ _ => rfl⟩
/-- A store in new memory. -/
def StoRet (l : Nat) (own : Nat → Nat) (w : World) (g : Nat) (m : Vals) (n : Nat) (e : Ending) (w' : World) : Prop :=
  e = .returned (.pointer (some ⟨g, 0, none⟩)) ∧ ∃ own', StepG l w own w' own' ∧ StAt w' own' l g m n
theorem sto_new (l : Nat) (own : Nat → Nat) (w : World) : Calls Try.prog 24 #[] w (StoRet l own w (w.heap.size + 1) noVals 0) := by
  have hr : ∀ e w', e = .returned (.pointer (some ⟨w.heap.size + 1, 0, none⟩)) → w' = (w.alloc (.map #[] 0)).alloc (.cells #[.map (some w.heap.size)] 70) → StoRet l own w (w.heap.size + 1) noVals 0 e w' := by
    rintro e w' rfl rfl
    refine ⟨rfl, fun k => if k < w.heap.size then own k else if k = w.heap.size then 10 * l + 1 else 10 * l, ⟨rfl, rfl, rfl, by simp; omega, fun k hk hn => ?_, fun k hk => by simp [hk]⟩, by simp; omega, w.heap.size, by simp, ?_, ?_, AllOk.none⟩
    · rw [Below.heap_alloc _ _ _ (by simp; omega), Below.heap_alloc _ _ _ hk]
    · have := Blk.new (w.alloc (.map #[] 0)) 70 #[.map (some w.heap.size)]
      simpa using this
    · exact (MapAt.made w).of_eq (Below.heap_alloc _ _ _ (by simp))
  have hmm := @run_makeMap Try.prog
  have Hr := Lib.hid hr; clear hr
  generalize StoRet l own w (w.heap.size + 1) noVals 0 = R at *
  go_enter Try.func24, Try.ntmps24
  go_wp2
  exact Hr.out _ _ rfl rfl
section
variable {w : World} {own : Nat → Nat} {l g n : Nat} {m : Vals}
theorem sto_get (h : StAt w own l g m n) (k : ByteArray) (hk : k.size ≤ maxLen) : Calls Try.prog 21 #[.pointer (some ⟨g, 0, none⟩), .string k] w (NewRet w (vval (m k))) := by
  have h1 := h.alloc (.cells #[.int .i64 0, .int .i64 0, .string { data := #[] }] 29)
  obtain ⟨-, b, -, hb, hm, -⟩ := h1
  have hl := hm.look k hk
  generalize m k = v at hl ⊢
  obtain ⟨v1, v2, v3⟩ := v
  have c0 := hb.cell 0
  simp only [List.getElem?_toArray, List.getElem?_cons_zero] at c0
  have hlt := h.lt
  clear hb hm h hk
  go_enter Try.func21, Try.ntmps21
  go_wp2
  exact bodyPost_ret (v := vval ⟨v1, v2, v3⟩) (by simp [results, Try.results21, go_sem]) rfl ⟨rfl, World.grownBy_alloc _ _ _⟩
theorem sto_len (h : StAt w own l g m n) {ks : List ByteArray} (hk : KeysOf m ks) (x : Int) (hx : ((ks.length : Nat) : Int) = x) : Calls Try.prog 22 #[.pointer (some ⟨g, 0, none⟩)] w (fun e w' => e = .returned (.int .i64 x) ∧ w = w') := by
  obtain ⟨-, b, -, hb, hm, -⟩ := h
  have hl := fun ty => hm.len hk ty
  rw [hx] at hl
  have c0 := hb.cell 0
  simp only [List.getElem?_toArray, List.getElem?_cons_zero] at c0
  clear hb hm hk hx
  go_enter Try.func22, Try.ntmps22
  go_wp2
  go_ret
  exact ⟨rfl, rfl⟩
end
end Go.Proofs.Ytihnldhdpiokhaa
