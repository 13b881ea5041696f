/- Groups of owners: an object of several parts. Plain lemmas. -/
import Derived.Test.YtjloipjchcaloaaDuo10
import Derived.Test.YtjloipjchcaloaaRef11
namespace Go.Proofs.Ytjloipjchcaloaa
open Go.RowKit
set_option linter.unusedVariables false

/-- Only blocks of group l (owners 10 l .. 10 l + 9) have changed. -/
structure StepG (l : Nat) (w : World) (own : Nat → Nat) (w' : World) (own' : Nat → Nat) : Prop where
  os : w'.os = w.os
  tape : w'.tape = w.tape
  output : w'.output = w.output
  size : w.heap.size ≤ w'.heap.size
  heap : ∀ k, k < w.heap.size → own k / 10 ≠ l → w'.heap[k]? = w.heap[k]?
  own : ∀ k, k < w.heap.size → own' k = own k

section
variable {l i j : Nat} {w w' w2 : World} {own own' own2 : Nat → Nat}
theorem StepG.refl (l : Nat) (w : World) (own : Nat → Nat) : StepG l w own w own := ⟨rfl, rfl, rfl, Nat.le_refl _, fun _ _ _ => rfl, fun _ _ => rfl⟩
theorem StepG.trans (h : StepG l w own w' own') (k : StepG l w' own' w2 own2) : StepG l w own w2 own2 :=
  ⟨k.os.trans h.os, k.tape.trans h.tape, k.output.trans h.output, Nat.le_trans h.size k.size,
    fun j hj hn => (k.heap j (Nat.lt_of_lt_of_le hj h.size) (by rw [h.own j hj]; exact hn)).trans (h.heap j hj hn),
    fun j hj => (k.own j (Nat.lt_of_lt_of_le hj h.size)).trans (h.own j hj)⟩
theorem Step.toG (h : Step i w own w' own') (hl : i / 10 = l) : StepG l w own w' own' :=
  ⟨h.os, h.tape, h.output, h.size, fun k hk hn => h.heap k hk (fun e => hn (by rw [e]; exact hl)), h.own⟩
theorem StepG.step (h : StepG l w own w' own') (k : Step i w' own' w2 own2) (hl : i / 10 = l) : StepG l w own w2 own2 := h.trans (k.toG hl)
theorem StepG.other (h : StepG l w own w' own') (hj : j / 10 ≠ l) {k : Nat} (hk : k < w.heap.size) (ho : own k = j) : w'.heap[k]? = w.heap[k]? ∧ own' k = j :=
  ⟨h.heap k hk (by rw [ho]; exact hj), (h.own k hk).trans ho⟩
theorem StepG.drewN (h : StepG l w own w' own') (n : Nat) : StepG l w own (w'.drewN n) own' := ⟨h.os, h.tape, h.output, h.size, h.heap, h.own⟩
theorem StepG.grown (h : StepG l w own w' own') (hg : w'.grownBy w2 none) : StepG l w own w2 own' :=
  ⟨hg.os.trans h.os, hg.tape.trans h.tape, hg.output.trans h.output, Nat.le_trans h.size hg.size, fun k hk hn => (hg.block k (Nat.lt_of_lt_of_le hk h.size) (by simp)).trans (h.heap k hk hn), h.own⟩
theorem Base.stepG {B : Nat} {w0 : World} (h : Base B w0 w own) (s : StepG l w own w' own') (hl : l ≠ 0) : Base B w0 w' own' :=
  ⟨h.below.trans ⟨s.os, s.tape, s.output, s.size, fun k hk => s.heap k (Nat.lt_of_lt_of_le hk h.size) (by rw [h.own k hk]; exact fun e => hl e.symm)⟩,
    fun k hk => (s.own k (Nat.lt_of_lt_of_le hk h.size)).trans (h.own k hk), Nat.le_trans h.size s.size⟩
end
end Go.Proofs.Ytjloipjchcaloaa
