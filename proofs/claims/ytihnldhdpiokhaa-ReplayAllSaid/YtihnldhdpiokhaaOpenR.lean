/- A slice of rounds, and a round by value, that comes in, opened. -/
import Derived.Test.YtihnldhdpiokhaaOpenU
import Derived.Test.YtihnldhdpiokhaaGre08
namespace Go.Proofs.Ytihnldhdpiokhaa
open Go.ChangeShapes Go.WideShapes Go.ChangeAt Go.RowKit Go.Deep
set_option linter.unusedVariables false

theorem list_of_three {cs : List Value} (h : cs.length = 3) : ∃ a b c, cs = [a, b, c] := by
  match cs, h with
  | [a, b, c], _ => exact ⟨a, b, c, rfl⟩
section
variable {H : Type} {enc : TypeId × Value → H} {w : World} {base : Nat} {spare : Nat → Bool} {held : Bool}
theorem tr_rnd_rd {P : Program} {t : TypeId} {f0 f1 f2 : Field} {cs : List Value} (he : P.underlying t = some (.struct #[f0, f1, f2])) (hce : P.cellsOf t = 3)
    (o0 : f0.offset = 0) (o1 : f1.offset = 1) (o2 : f2.offset = 2) (c0 : P.cellsOf f0.type = 1) (c1 : P.cellsOf f1.type = 1) (c2 : P.cellsOf f2.type = 1)
    (u0 : P.underlying f0.type = some (.int .i64)) (u1 : P.underlying f1.type = some (.int .i64))
    (u2 : ∀ cs, Tr enc P w base spare held f2.type cs → ∃ A len cap, cs = [.slice A len cap] ∧ len ≤ cap ∧ cap ≤ maxLen ∧ ∃ l : List Upd, l.length = len ∧ Rd w 4 A len (ucells l) ∧ ∀ u ∈ l, UpdWf u)
    (h : Tr enc P w base spare held t cs) : ∃ r : Rnd, cs = rcells1 r ∧ RndWf w r := by
  have hl := h.len he
  rw [hce] at hl
  obtain ⟨x, y, z, rfl⟩ := list_of_three hl
  have t0 := h.field he 0 f0 rfl
  have t1 := h.field he 1 f1 rfl
  have t2 := h.field he 2 f2 rfl
  rw [o0, c0] at t0
  rw [o1, c1] at t1
  rw [o2, c2] at t2
  obtain ⟨n0, e0, w0⟩ := t0.int u0
  obtain ⟨n1, e1, w1⟩ := t1.int u1
  obtain ⟨A, len, cap, e2, w4, w5, l, w6, w7, w8⟩ := u2 _ t2
  simp at e0 e1 e2
  subst e0; subst e1; subst e2; subst w6
  exact ⟨⟨n0, n1, A, cap, l⟩, rfl, w4, w5, w7, w8⟩
theorem tr_rnd {cs : List Value} (h : Tr enc Try.prog w base spare held 27 cs) : ∃ r : Rnd, cs = rcells1 r ∧ RndWf w r :=
  tr_rnd_rd Try.underlying27 (by kernel_rfl) rfl rfl rfl (by kernel_rfl) (by kernel_rfl) (by kernel_rfl) Try.underlying3 Try.underlying3 (fun _ h => tr_upds h) h
theorem open_rnds {A : Option Addr} {len cap : Nat} {d : DataW H} {ps : List MemPlace}
    (h : DataW.Trod enc Try.prog w base spare held 22 (.slice A len cap) d ps) : len ≤ cap ∧ cap ≤ maxLen ∧ ∃ l : List Rnd, l.length = len ∧ Rd w 3 A len (rcells l) ∧ ∀ r ∈ l, RndWf w r := by
  obtain ⟨A', len', cap', h1, h2, h3, h4⟩ := (Tr.of h).slice Try.underlying22 (by rw [show Try.prog.cellsOf 27 = 3 by kernel_rfl]; omega)
  simp only [Value.cells, List.cons.injEq, Value.slice.injEq, and_true] at h1
  obtain ⟨rfl, rfl, rfl⟩ := h1
  rw [show Try.prog.cellsOf 27 = 3 by kernel_rfl] at h4
  obtain ⟨zs, r1, r2, r3⟩ := rd_of_elems (w := w) (size := 3) (len := len) (A := A) rcells1 (fun _ => rfl) (RndWf w) (fun h0 => by
    obtain ⟨b, off, rfl, _, hi⟩ := h4 h0
    refine ⟨b, off, rfl, fun i hil => ?_⟩
    obtain ⟨cs', hl, ht', hc⟩ := hi i hil
    obtain ⟨a, rfl, wa⟩ := tr_rnd ht'
    exact ⟨a, wa, hc⟩)
  exact ⟨h2, h3, zs, r1, r2, r3⟩
theorem okWide_fields {P : Program} {r : Reach} {b0 : Nat} {t : TypeId} {fs : Array Field} {v : Value} (ht : P.underlying t = some (.struct fs)) (h : Value.okWide P w r b0 t v) : ∃ cs, v = .agg cs := by
  simp only [Value.okWide, ht] at h
  obtain ⟨cs, h1, _⟩ := h
  exact ⟨cs, h1⟩
set_option maxRecDepth 100000 in
theorem open_rnd {r : Reach} {b0 : Nat} {v : Value} {d : DataW H} {ps : List MemPlace} (hv : Value.okWide Try.prog w r b0 27 v) (h : DataW.Trod enc Try.prog w base spare held 27 v d ps) :
    ∃ r : Rnd, v = .agg #[.int .i64 r.origin, .int .i64 r.number, .slice r.A r.us.length r.c] ∧ RndWf w r := by
  obtain ⟨cs, rfl⟩ := okWide_fields Try.underlying27 hv
  have hT := Tr.of h
  simp only [Value.cells] at hT
  obtain ⟨f, e, wf⟩ := tr_rnd hT
  refine ⟨f, ?_, wf⟩
  congr 1
  apply Array.ext'
  exact e
end
end Go.Proofs.Ytihnldhdpiokhaa
