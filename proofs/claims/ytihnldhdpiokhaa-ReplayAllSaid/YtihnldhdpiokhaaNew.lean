/- Slices in new memory; what a call hands back; lists of acts of three fields. Plain lemmas. -/
import Derived.Test.YtihnldhdpiokhaaMem
namespace Go.Proofs.Ytihnldhdpiokhaa
open Go.RowKit
set_option linter.unusedVariables false

/-- A slice in new memory that reads as xs: nothing that was there has changed. -/
structure NewRow (e size : Nat) (xs : List Value) (w : World) (A' : Option Addr) (n cap' : Nat) (w' : World) : Prop where
  le : n ≤ cap'
  max : cap' ≤ maxLen
  grown : w.grownBy w' none
  row : ∀ (own : Nat → Nat) (b0 j : Nat), b0 ≤ w.heap.size → Row w' (give own b0 j) j e size A' n xs

theorem NewRow.of_copied {e size n cap' : Nat} {xs : List Value} {w w' : World} {A' : Option Addr} (h : Copied e size xs w A' n cap' w') (hl : xs.length = n * size) : NewRow e size xs w A' n cap' w' :=
  ⟨h.le, h.max, h.grown, fun own b0 j hb0 => ⟨hl, fun hn => by
    obtain ⟨g, cs, rfl, hb, ht, hge, hs⟩ := h.row hn
    refine ⟨g, 0, cs, rfl, give_new (by omega), hb, fun k u hu => ?_⟩
    rw [← ht, List.getElem?_take] at hu
    split at hu
    · simpa using hu
    · cases hu⟩⟩
theorem grown_tr {a b c : World} (h : a.grownBy b none) (k : b.grownBy c none) : a.grownBy c none :=
  ⟨k.os.trans h.os, k.tape.trans h.tape, k.output.trans h.output, Nat.le_trans h.size k.size, fun i hi _ => (k.block i (Nat.lt_of_lt_of_le hi h.size) (by simp)).trans (h.block i hi (by simp))⟩
theorem NewRow.behind {e size n cap' : Nat} {xs : List Value} {w w1 w' : World} {A' : Option Addr} (h : NewRow e size xs w1 A' n cap' w') (hg : w.grownBy w1 none) : NewRow e size xs w A' n cap' w' :=
  ⟨h.le, h.max, grown_tr hg h.grown, fun own b0 j hb0 => h.row own b0 j (Nat.le_trans hb0 hg.size)⟩
theorem NewRow.step {e size n cap' : Nat} {xs : List Value} {w w' : World} {A' : Option Addr} (h : NewRow e size xs w A' n cap' w') (own : Nat → Nat) (j : Nat) : Step j w own w' (give own w.heap.size j) :=
  ((Step.refl j w own).give_ j).grown h.grown (by simp)

theorem grown_of_step {i : Nat} {w w' : World} {own' : Nat → Nat} (h : Step i w (fun _ => 0) w' own') (hi : i ≠ 0) : w.grownBy w' none :=
  ⟨h.os, h.tape, h.output, h.size, fun k hk _ => h.heap k hk (fun e => hi e.symm)⟩

/-- A call hands back v, and nothing that was there has changed. -/
def NewRet (w : World) (v : Value) (e : Ending) (w' : World) : Prop := e = .returned v ∧ w.grownBy w' none

theorem run_max_mx {P : Program} (ts : Array TypeId) (t : TypeId) (k k' : IntKind) (x y : Int) (w : World) : (Builtin.max_ ts t #[.int k x, .int k' y]).run P w = .ok (.int k (max x y)) w := by
  rw [run_max_int2]
  congr 2
  split <;> omega
theorem run_min_mn {P : Program} (ts : Array TypeId) (t : TypeId) (k k' : IntKind) (x y : Int) (w : World) : (Builtin.min_ ts t #[.int k x, .int k' y]).run P w = .ok (.int k (min x y)) w := by
  rw [run_min_int2]
  congr 2
  split <;> omega

/-- What a test of a list of acts hands back. -/
def BoolRet (w : World) (b : Bool) (e : Ending) (w' : World) : Prop := e = .returned (.bool b) ∧ w.grownBy w' none

/-- The cells of acts of three fields. -/
structure Act3 where
  kind : Int
  n : Int
  text : ByteArray

def acells : List Act3 → List Value
  | [] => []
  | a :: l => .int .i64 a.kind :: .int .i64 a.n :: .string a.text :: acells l

theorem acells_length : ∀ l : List Act3, (acells l).length = l.length * 3
  | [] => rfl
  | a :: l => by simp [acells, acells_length l]; omega

theorem acells_get : ∀ (k : Nat) (l : List Act3) (h : k < l.length), (acells l)[k * 3]? = some (.int .i64 l[k].kind) ∧ (acells l)[k * 3 + 1]? = some (.int .i64 l[k].n) ∧ (acells l)[k * 3 + 2]? = some (.string l[k].text)
  | 0, a :: l, h => ⟨rfl, rfl, rfl⟩
  | k + 1, a :: l, h => by
    have ih := acells_get k l (by simpa using h)
    simp only [acells]
    rw [show (k + 1) * 3 = k * 3 + 1 + 1 + 1 by omega, show k * 3 + 1 + 1 + 1 + 1 = k * 3 + 1 + 1 + 1 + 1 from rfl]
    simp only [List.getElem?_cons_succ, List.getElem_cons_succ]
    exact ih
  | k, [], h => by simp at h

/-- an act's cells where the slice lies -/
theorem acts_at {w : World} {A : Option Addr} {l : List Act3} (h : Rd w 3 A l.length (acells l)) {k : Nat} (hk : k < l.length) :
    ∃ b off, A = some ⟨b, off, none⟩ ∧ w.cell? ⟨b, off + k * 3, none⟩ = some (.int .i64 l[k].kind) ∧ w.cell? ⟨b, off + k * 3 + 1, none⟩ = some (.int .i64 l[k].n) ∧ w.cell? ⟨b, off + k * 3 + 2, none⟩ = some (.string l[k].text) := by
  obtain ⟨b, off, e, hc⟩ := h.2 (by omega)
  have g := acells_get k l hk
  exact ⟨b, off, e, hc _ _ g.1, hc _ _ g.2.1, hc _ _ g.2.2⟩

def great3 (l : List Act3) : Bool := decide (200 < l.length) || l.any fun a => decide (100 < a.text.size)

theorem great3_hit {l : List Act3} {k : Nat} (hk : k < l.length) (h : 100 < l[k].text.size) : great3 l = true := by
  simp only [great3, Bool.or_eq_true, List.any_eq_true, decide_eq_true_eq]
  exact .inr ⟨_, List.getElem_mem hk, h⟩

theorem great3_miss {l : List Act3} (hl : l.length ≤ 200) (h : ∀ j (hj : j < l.length), l[j].text.size ≤ 100) : great3 l = false := by
  simp only [great3, Bool.or_eq_false_iff, decide_eq_false_iff_not, List.any_eq_false, decide_eq_true_eq]
  refine ⟨by omega, fun a ha => ?_⟩
  obtain ⟨j, hj, rfl⟩ := List.getElem_of_mem ha
  have := h j hj
  omega


/-- The row of a slice of the call's own, told without the owner. -/
theorem OwnS.max {w : World} {own : Nat → Nat} {i e size n c : Nat} {A : Option Addr} {xs : List Value} (h : OwnS w own i e size A n c xs) : c ≤ maxLen := by
  rcases h.2 with ⟨_, _, h0⟩ | ⟨g, cur, rfl, ho, hb, hnc, hm, hs, ht⟩
  · omega
  · exact hm
theorem NewRow.of_mine {e size n c : Nat} {xs : List Value} {w w' : World} {A : Option Addr} {own : Nat → Nat} (st : Step 1 w (fun _ => 0) w' own) (h : OwnS w' own 1 e size A n c xs) : NewRow e size xs w A n c w' :=
  ⟨h.le, h.max, grown_of_step st (by omega), fun own2 b0 j hb0 => ⟨h.1, fun hn => by
    rcases h.2 with ⟨_, h0, _⟩ | ⟨g, cur, rfl, ho, hb, hnc, hm', hs, ht⟩
    · omega
    · have hge : w.heap.size ≤ g := by
        rcases Nat.lt_or_ge g w.heap.size with hlt | hge
        · have := st.own g hlt
          rw [ho] at this; omega
        · exact hge
      refine ⟨g, 0, cur, rfl, give_new (by omega), hb, fun k u hu => ?_⟩
      rw [← ht, List.getElem?_take] at hu
      split at hu
      · simpa using hu
      · cases hu⟩⟩
end Go.Proofs.Ytihnldhdpiokhaa
