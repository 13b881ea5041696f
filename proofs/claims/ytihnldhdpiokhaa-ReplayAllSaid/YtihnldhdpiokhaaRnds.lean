/- Lists of rounds as they lie in memory. Plain lemmas. -/
import Derived.Test.YtihnldhdpiokhaaApart0
namespace Go.Proofs.Ytihnldhdpiokhaa
open Go.RowKit
set_option linter.unusedVariables false

structure Rnd where
  origin : Int
  number : Int
  A : Option Addr
  c : Nat
  us : List Upd
def rcells1 (r : Rnd) : List Value := [.int .i64 r.origin, .int .i64 r.number, .slice r.A r.us.length r.c]
def rcells (l : List Rnd) : List Value := l.flatMap rcells1
def flat (l : List Rnd) : List Upd := l.flatMap Rnd.us
theorem rcells_length : ∀ l : List Rnd, (rcells l).length = l.length * 3
  | [] => rfl
  | r :: l => by
    rw [show rcells (r :: l) = rcells1 r ++ rcells l from rfl, List.length_append, rcells_length l]
    simp [rcells1]; omega
theorem rcells_append (a b : List Rnd) : rcells (a ++ b) = rcells a ++ rcells b := List.flatMap_append
theorem flat_append (a b : List Rnd) : flat (a ++ b) = flat a ++ flat b := List.flatMap_append
theorem flat_take (l : List Rnd) (k : Nat) (r : Rnd) (h : l[k]? = some r) : flat (l.take (k + 1)) = flat (l.take k) ++ r.us := by
  rw [List.take_add_one, h, Option.toList_some, flat_append]
  simp [flat]
theorem rcells_get : ∀ (k : Nat) (l : List Rnd) (r : Rnd), l[k]? = some r → (rcells l)[k * 3]? = some (.int .i64 r.origin) ∧ (rcells l)[k * 3 + 1]? = some (.int .i64 r.number) ∧ (rcells l)[k * 3 + 2]? = some (.slice r.A r.us.length r.c)
  | 0, x :: l, r, h => by
    simp only [List.getElem?_cons_zero, Option.some.injEq] at h
    subst h
    exact ⟨rfl, rfl, rfl⟩
  | k + 1, x :: l, r, h => by
    have ih := rcells_get k l r (by simpa using h)
    rw [show rcells (x :: l) = .int .i64 x.origin :: .int .i64 x.number :: .slice x.A x.us.length x.c :: rcells l from rfl]
    rw [show (k + 1) * 3 = k * 3 + 1 + 1 + 1 by omega]
    simp only [List.getElem?_cons_succ]
    exact ih
  | k, [], r, h => by simp at h
/-- what is told of a round where it comes in -/
def RndWf (w : World) (r : Rnd) : Prop := r.us.length ≤ r.c ∧ r.c ≤ maxLen ∧ Rd w 4 r.A r.us.length (ucells r.us) ∧ ∀ u ∈ r.us, UpdWf u
theorem rnds_at {w : World} {A : Option Addr} {n : Nat} {l : List Rnd} (h : Rd w 3 A n (rcells l)) {k : Nat} (hk : k < n) :
    ∃ b off r, A = some ⟨b, off, none⟩ ∧ l[k]? = some r ∧ w.cell? ⟨b, off + k * 3, none⟩ = some (.int .i64 r.origin) ∧ w.cell? ⟨b, off + k * 3 + 1, none⟩ = some (.int .i64 r.number) ∧ w.cell? ⟨b, off + k * 3 + 2, none⟩ = some (.slice r.A r.us.length r.c) := by
  have hl : l.length = n := by have := h.1; rw [rcells_length] at this; omega
  subst hl
  obtain ⟨b, off, e, hc⟩ := h.2 (by omega)
  have g := rcells_get k l l[k] (by simp [hk])
  exact ⟨b, off, l[k], e, by simp [hk], hc _ _ g.1, hc _ _ g.2.1, hc _ _ g.2.2⟩
theorem RndWf.kept {w w' : World} {r : Rnd} (h : RndWf w r) (hg : w.grownBy w' none) : RndWf w' r := ⟨h.1, h.2.1, h.2.2.1.kept hg (by omega), h.2.2.2⟩
theorem flat_wf {w : World} {l : List Rnd} (h : ∀ r ∈ l, RndWf w r) : ∀ u ∈ flat l, UpdWf u := fun u hu => by
  obtain ⟨r, hr, hu⟩ := List.mem_flatMap.1 hu
  exact (h r hr).2.2.2 u hu
theorem flat_len_take (l : List Rnd) (k : Nat) : (flat (l.take k)).length ≤ (flat l).length := by
  conv => rhs; rw [← List.take_append_drop k l, flat_append, List.length_append]
  omega
/-- a store that a call has made, told for whatever owners -/
theorem Stb.toRet {w w' : World} {g n : Nat} {m : Vals} {X : Hold} (h : Stb w g m n X w') (l : Nat) (own : Nat → Nat) : ∃ own', StepG l w own w' own' ∧ StAt w' own' l g m n := by
  obtain ⟨o1, hB, ⟨h1, b, h2, h3, h4, h5⟩, _⟩ := h
  have hg : w.heap.size ≤ g := by
    rcases Nat.lt_or_ge g w.heap.size with hlt | hge
    · have := hB.own g hlt; omega
    · exact hge
  have hb : w.heap.size ≤ b := by
    rcases Nat.lt_or_ge b w.heap.size with hlt | hge
    · have := hB.own b hlt; omega
    · exact hge
  refine ⟨fun k => if k < w.heap.size then own k else if o1 k = 10 then 10 * l else if o1 k = 11 then 10 * l + 1 else 40, ⟨hB.below.os, hB.below.tape, hB.below.output, hB.below.size, fun k hk _ => hB.below.block k hk, fun k hk => by simp [hk]⟩, ?_, b, ?_, h3, h4, h5⟩
  · simp [Nat.not_lt.2 hg, h1]
  · simp [Nat.not_lt.2 hb, h2]
theorem Pre.ofRet {w0 w w' : World} {X : Hold} {g n : Nat} {m : Vals} (h : Pre w0 X w) (hX : Kept X) (hr : ∀ own, ∃ own', StepG 1 w own w' own' ∧ StAt w' own' 1 g m n) : Stb w0 g m n X w' := by
  obtain ⟨own, hB, hx⟩ := h
  obtain ⟨own', st, hs⟩ := hr own
  exact ⟨own', hB.stepG st (by omega), hs, hX.step st (by omega) hx⟩
end Go.Proofs.Ytihnldhdpiokhaa
