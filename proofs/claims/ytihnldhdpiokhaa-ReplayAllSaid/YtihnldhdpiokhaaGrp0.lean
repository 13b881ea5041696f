/- Groups of owners: an object of several parts. Plain lemmas (as Grp, for seats without the sender and the receiver). -/
import Derived.Test.YtihnldhdpiokhaaOnto
namespace Go.Proofs.Ytihnldhdpiokhaa
open Go.RowKit
set_option linter.unusedVariables false

/-- Only blocks of group l (owners 10 l .. 10 l + 9) have changed. -/
structure StepG (l : Nat) (w : World) (own : Nat → Nat) (w' : World) (own' : Nat → Nat) : Prop where
  os : w'.os = w.os
  tape : w'.tape = w.tape
  output : w'.output = w.output
  size : w.heap.size ≤ w'.heap.size
  heap : ∀ k, k < w.heap.size → own k / 10 ≠ l → w'.heap[k]? = w.heap[k]?
  own : ∀ k, k < w.heap.size → own' k = own k

section
variable {l i j : Nat} {w w' w2 : World} {own own' own2 : Nat → Nat}
theorem StepG.refl (l : Nat) (w : World) (own : Nat → Nat) : StepG l w own w own := ⟨rfl, rfl, rfl, Nat.le_refl _, fun _ _ _ => rfl, fun _ _ => rfl⟩
theorem StepG.trans (h : StepG l w own w' own') (k : StepG l w' own' w2 own2) : StepG l w own w2 own2 :=
  ⟨k.os.trans h.os, k.tape.trans h.tape, k.output.trans h.output, Nat.le_trans h.size k.size,
    fun j hj hn => (k.heap j (Nat.lt_of_lt_of_le hj h.size) (by rw [h.own j hj]; exact hn)).trans (h.heap j hj hn),
    fun j hj => (k.own j (Nat.lt_of_lt_of_le hj h.size)).trans (h.own j hj)⟩
theorem Step.toG (h : Step i w own w' own') (hl : i / 10 = l) : StepG l w own w' own' :=
  ⟨h.os, h.tape, h.output, h.size, fun k hk hn => h.heap k hk (fun e => hn (by rw [e]; exact hl)), h.own⟩
theorem StepG.step (h : StepG l w own w' own') (k : Step i w' own' w2 own2) (hl : i / 10 = l) : StepG l w own w2 own2 := h.trans (k.toG hl)
theorem StepG.other (h : StepG l w own w' own') (hj : j / 10 ≠ l) {k : Nat} (hk : k < w.heap.size) (ho : own k = j) : w'.heap[k]? = w.heap[k]? ∧ own' k = j :=
  ⟨h.heap k hk (by rw [ho]; exact hj), (h.own k hk).trans ho⟩
theorem StepG.drewN (h : StepG l w own w' own') (n : Nat) : StepG l w own (w'.drewN n) own' := ⟨h.os, h.tape, h.output, h.size, h.heap, h.own⟩
theorem StepG.grown (h : StepG l w own w' own') (hg : w'.grownBy w2 none) : StepG l w own w2 own' :=
  ⟨hg.os.trans h.os, hg.tape.trans h.tape, hg.output.trans h.output, Nat.le_trans h.size hg.size, fun k hk hn => (hg.block k (Nat.lt_of_lt_of_le hk h.size) (by simp)).trans (h.heap k hk hn), h.own⟩
theorem Base.stepG {B : Nat} {w0 : World} (h : Base B w0 w own) (s : StepG l w own w' own') (hl : l ≠ 0) : Base B w0 w' own' :=
  ⟨h.below.trans ⟨s.os, s.tape, s.output, s.size, fun k hk => s.heap k (Nat.lt_of_lt_of_le hk h.size) (by rw [h.own k hk]; exact fun e => hl e.symm)⟩,
    fun k hk => (s.own k (Nat.lt_of_lt_of_le hk h.size)).trans (h.own k hk), Nat.le_trans h.size s.size⟩
theorem StepG.of_grown (l : Nat) (own : Nat → Nat) (hg : w.grownBy w' none) (j : Nat) : StepG l w own w' (give own w.heap.size j) :=
  ⟨hg.os, hg.tape, hg.output, hg.size, fun k hk _ => hg.block k hk (by simp), fun k hk => give_old hk⟩
theorem base_end {B : Nat} {w0 : World} (h : Base B w0 w own) (hB : B = w0.heap.size) : w0.grownBy w none :=
  ⟨h.below.os, h.below.tape, h.below.output, h.below.size, fun q hq _ => h.below.block q (by omega)⟩
end
/-- What is said of blocks of group 3 alone. -/
def Kept (X : World → (Nat → Nat) → Prop) : Prop :=
  ∀ w own w' own', (∀ k, k < w.heap.size → own k / 10 = 3 → w'.heap[k]? = w.heap[k]? ∧ own' k = own k) → X w own → X w' own'
theorem Kept.none : Kept (fun _ _ => True) := fun _ _ _ _ _ _ => trivial
theorem Kept.row {X : World → (Nat → Nat) → Prop} (h : Kept X) (j : Nat) (hj : j / 10 = 3) (t size : Nat) (A : Option Addr) (n : Nat) (xs : List Value) : Kept (fun w own => X w own ∧ Row w own j t size A n xs) :=
  fun w own w' own' hk hx => ⟨h w own w' own' hk hx.1, hx.2.keep fun k hk' ho => ⟨(hk k hk' (by rw [ho]; exact hj)).1, by rw [(hk k hk' (by rw [ho]; exact hj)).2]; exact ho⟩⟩
theorem Kept.blk {X : World → (Nat → Nat) → Prop} (h : Kept X) (j : Nat) (hj : j / 10 = 3) (b t : Nat) (cs : Array Value) : Kept (fun w own => X w own ∧ own b = j ∧ Blk w b t cs) :=
  fun w own w' own' hk hx => by
    have := hk b hx.2.2.lt (by rw [hx.2.1]; exact hj)
    exact ⟨h w own w' own' hk hx.1, by rw [this.2]; exact hx.2.1, hx.2.2.of_eq this.1⟩
theorem Kept.step {X : World → (Nat → Nat) → Prop} (h : Kept X) {l : Nat} {w w' : World} {own own' : Nat → Nat} (st : StepG l w own w' own') (hl : l ≠ 3) (hx : X w own) : X w' own' :=
  h w own w' own' (fun k hk ho => ⟨st.heap k hk (by rw [ho]; exact fun e => hl e.symm), st.own k hk⟩) hx
end Go.Proofs.Ytihnldhdpiokhaa
