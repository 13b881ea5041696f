/- Lists of updates as they lie in memory. Plain lemmas. -/
import Derived.Test.YtihnldhdpiokhaaSto1
namespace Go.Proofs.Ytihnldhdpiokhaa
open Go.RowKit
set_option linter.unusedVariables false

def ucells1 (u : Upd) : List Value := [.string u.key, .int .i64 u.kind, .int .i64 u.n, .string u.s]
def ucells (l : List Upd) : List Value := l.flatMap ucells1
theorem ucells_length : ∀ l : List Upd, (ucells l).length = l.length * 4
  | [] => rfl
  | u :: l => by
    rw [show ucells (u :: l) = ucells1 u ++ ucells l from rfl, List.length_append, ucells_length l]
    simp [ucells1]; omega
theorem ucells_append (a b : List Upd) : ucells (a ++ b) = ucells a ++ ucells b := List.flatMap_append
theorem ucells_get : ∀ (k : Nat) (l : List Upd) (u : Upd), l[k]? = some u → (ucells l)[k * 4]? = some (.string u.key) ∧ (ucells l)[k * 4 + 1]? = some (.int .i64 u.kind) ∧ (ucells l)[k * 4 + 2]? = some (.int .i64 u.n) ∧ (ucells l)[k * 4 + 3]? = some (.string u.s)
  | 0, x :: l, u, h => by
    simp only [List.getElem?_cons_zero, Option.some.injEq] at h
    subst h
    exact ⟨rfl, rfl, rfl, rfl⟩
  | k + 1, x :: l, u, h => by
    have ih := ucells_get k l u (by simpa using h)
    rw [show ucells (x :: l) = .string x.key :: .int .i64 x.kind :: .int .i64 x.n :: .string x.s :: ucells l from rfl]
    rw [show (k + 1) * 4 = k * 4 + 1 + 1 + 1 + 1 by omega]
    simp only [List.getElem?_cons_succ]
    exact ih
  | k, [], u, h => by simp at h
/-- what is told of an update where it comes in -/
def UpdWf (u : Upd) : Prop := u.key.size ≤ maxLen ∧ u.s.size ≤ maxLen ∧ (Lit.int .i64 u.kind).wf = true ∧ (Lit.int .i64 u.n).wf = true
theorem upds_at {w : World} {A : Option Addr} {l : List Upd} (h : Rd w 4 A l.length (ucells l)) {k : Nat} (hk : k < l.length) :
    ∃ b off u, A = some ⟨b, off, none⟩ ∧ l[k]? = some u ∧ w.cell? ⟨b, off + k * 4, none⟩ = some (.string u.key) ∧ w.cell? ⟨b, off + k * 4 + 1, none⟩ = some (.int .i64 u.kind) ∧ w.cell? ⟨b, off + k * 4 + 2, none⟩ = some (.int .i64 u.n) ∧ w.cell? ⟨b, off + k * 4 + 3, none⟩ = some (.string u.s) := by
  obtain ⟨b, off, e, hc⟩ := h.2 (by omega)
  have g := ucells_get k l l[k] (by simp [hk])
  exact ⟨b, off, l[k], e, by simp [hk], hc _ _ g.1, hc _ _ g.2.1, hc _ _ g.2.2.1, hc _ _ g.2.2.2⟩
theorem Rd.kept {w w' : World} {size n : Nat} {A : Option Addr} {xs : List Value} (h : Rd w size A n xs) (hg : w.grownBy w' none) (hs : 0 < size) : Rd w' size A n xs :=
  h.keep (fun b _ _ _ hb => hg.block b hb (by simp)) hs
end Go.Proofs.Ytihnldhdpiokhaa
