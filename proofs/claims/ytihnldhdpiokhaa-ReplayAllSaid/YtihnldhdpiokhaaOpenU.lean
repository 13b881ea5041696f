/- A slice of updates, and of rounds, that comes in, opened. -/
import Derived.Test.YtihnldhdpiokhaaOpen
import Derived.Test.YtihnldhdpiokhaaUps
import Derived.Test.YtihnldhdpiokhaaRows
namespace Go.Proofs.Ytihnldhdpiokhaa
open Go.ChangeShapes Go.WideShapes Go.ChangeAt Go.RowKit Go.Deep
set_option linter.unusedVariables false

theorem list_of_four {cs : List Value} (h : cs.length = 4) : ∃ a b c d, cs = [a, b, c, d] := by
  match cs, h with
  | [a, b, c, d], _ => exact ⟨a, b, c, d, rfl⟩
section
variable {H : Type} {enc : TypeId × Value → H} {w : World} {base : Nat} {spare : Nat → Bool} {held : Bool}
theorem tr_upd_rd {P : Program} {t : TypeId} {f0 f1 f2 f3 : Field} {cs : List Value} (he : P.underlying t = some (.struct #[f0, f1, f2, f3])) (hce : P.cellsOf t = 4)
    (o0 : f0.offset = 0) (o1 : f1.offset = 1) (o2 : f2.offset = 2) (o3 : f3.offset = 3) (c0 : P.cellsOf f0.type = 1) (c1 : P.cellsOf f1.type = 1) (c2 : P.cellsOf f2.type = 1) (c3 : P.cellsOf f3.type = 1)
    (u0 : P.underlying f0.type = some .string) (u1 : P.underlying f1.type = some (.int .i64)) (u2 : P.underlying f2.type = some (.int .i64)) (u3 : P.underlying f3.type = some .string)
    (h : Tr enc P w base spare held t cs) : ∃ u : Upd, cs = ucells1 u ∧ UpdWf u := by
  have hl := h.len he
  rw [hce] at hl
  obtain ⟨x, y, z, v, rfl⟩ := list_of_four hl
  have t0 := h.field he 0 f0 rfl
  have t1 := h.field he 1 f1 rfl
  have t2 := h.field he 2 f2 rfl
  have t3 := h.field he 3 f3 rfl
  rw [o0, c0] at t0
  rw [o1, c1] at t1
  rw [o2, c2] at t2
  rw [o3, c3] at t3
  obtain ⟨n0, e0, w0⟩ := t0.str u0
  obtain ⟨n1, e1, w1⟩ := t1.int u1
  obtain ⟨n2, e2, w2⟩ := t2.int u2
  obtain ⟨n3, e3, w3⟩ := t3.str u3
  simp at e0 e1 e2 e3
  subst e0; subst e1; subst e2; subst e3
  exact ⟨⟨n0, n1, n2, n3⟩, rfl, w0, w3, w1, w2⟩
theorem tr_upd {cs : List Value} (h : Tr enc Try.prog w base spare held 38 cs) : ∃ u : Upd, cs = ucells1 u ∧ UpdWf u :=
  tr_upd_rd Try.underlying38 (by kernel_rfl) rfl rfl rfl rfl (by kernel_rfl) (by kernel_rfl) (by kernel_rfl) (by kernel_rfl) Try.underlying9 Try.underlying3 Try.underlying2 Try.underlying9 h
theorem tr_upds {cs : List Value} (h : Tr enc Try.prog w base spare held 25 cs) : ∃ A len cap, cs = [.slice A len cap] ∧ len ≤ cap ∧ cap ≤ maxLen ∧ ∃ l : List Upd, l.length = len ∧ Rd w 4 A len (ucells l) ∧ ∀ u ∈ l, UpdWf u := by
  obtain ⟨A, len, cap, h1, h2, h3, h4⟩ := h.slice Try.underlying25 (by rw [show Try.prog.cellsOf 38 = 4 by kernel_rfl]; omega)
  rw [show Try.prog.cellsOf 38 = 4 by kernel_rfl] at h4
  obtain ⟨zs, r1, r2, r3⟩ := rd_of_elems (w := w) (size := 4) (len := len) (A := A) ucells1 (fun _ => rfl) UpdWf (fun h0 => by
    obtain ⟨b, off, rfl, _, hi⟩ := h4 h0
    refine ⟨b, off, rfl, fun i hil => ?_⟩
    obtain ⟨cs', hl, ht', hc⟩ := hi i hil
    obtain ⟨a, rfl, wa⟩ := tr_upd ht'
    exact ⟨a, wa, hc⟩)
  exact ⟨A, len, cap, h1, h2, h3, zs, r1, r2, r3⟩
theorem open_upds {A : Option Addr} {len cap : Nat} {d : DataW H} {ps : List MemPlace}
    (h : DataW.Trod enc Try.prog w base spare held 25 (.slice A len cap) d ps) : len ≤ cap ∧ cap ≤ maxLen ∧ ∃ l : List Upd, l.length = len ∧ Rd w 4 A len (ucells l) ∧ ∀ u ∈ l, UpdWf u := by
  obtain ⟨A', len', cap', h1, h2⟩ := tr_upds (Tr.of h)
  simp only [Value.cells, List.cons.injEq, Value.slice.injEq, and_true] at h1
  obtain ⟨rfl, rfl, rfl⟩ := h1
  exact h2
end
end Go.Proofs.Ytihnldhdpiokhaa
