/- A packet by value that comes in, opened. -/
import Derived.Test.YtiipioifjjemoaaOpen
import Derived.Test.YtiipioifjjemoaaBag1
import Derived.Test.YtiipioifjjemoaaRows
namespace Go.Proofs.Ytiipioifjjemoaa
open Go.ChangeShapes Go.WideShapes Go.ChangeAt Go.RowKit Go.Deep
set_option linter.unusedVariables false

theorem list_of_three {cs : List Value} (h : cs.length = 3) : ∃ a b c, cs = [a, b, c] := by
  match cs, h with
  | [a, b, c], _ => exact ⟨a, b, c, rfl⟩
/-- what is told of a packet -/
def PktWf (p : Pkt) : Prop := (Lit.int .i64 p.src).wf = true ∧ (Lit.int .i64 p.dst).wf = true ∧ p.bytes.size ≤ maxLen
theorem u32_wf {n : Int} (h : (Lit.int .u32 n).wf = true) : 0 ≤ n ∧ n ≤ 4294967295 := by
  simp [Lit.wf] at h
  have h1 : IntKind.u32.min = 0 := rfl
  have h2 : IntKind.u32.max = 4294967295 := rfl
  omega
section
variable {H : Type} {enc : TypeId × Value → H} {w : World} {base : Nat} {spare : Nat → Bool} {held : Bool}
theorem tr_pkt_rd {P : Program} {t : TypeId} {f0 f1 f2 : Field} {cs : List Value} (he : P.underlying t = some (.struct #[f0, f1, f2])) (hce : P.cellsOf t = 3)
    (o0 : f0.offset = 0) (o1 : f1.offset = 1) (o2 : f2.offset = 2) (c0 : P.cellsOf f0.type = 1) (c1 : P.cellsOf f1.type = 1) (c2 : P.cellsOf f2.type = 1)
    (u0 : P.underlying f0.type = some (.int .i64)) (u1 : P.underlying f1.type = some (.int .i64)) (u2 : P.underlying f2.type = some .string)
    (h : Tr enc P w base spare held t cs) : ∃ p : Pkt, cs = [.int .i64 p.src, .int .i64 p.dst, .string p.bytes] ∧ PktWf p := by
  have hl := h.len he
  rw [hce] at hl
  obtain ⟨x, y, z, rfl⟩ := list_of_three hl
  have t0 := h.field he 0 f0 rfl
  have t1 := h.field he 1 f1 rfl
  have t2 := h.field he 2 f2 rfl
  rw [o0, c0] at t0
  rw [o1, c1] at t1
  rw [o2, c2] at t2
  obtain ⟨n0, e0, w0⟩ := t0.int u0
  obtain ⟨n1, e1, w1⟩ := t1.int u1
  obtain ⟨s2, e2, w2⟩ := t2.str u2
  simp at e0 e1 e2
  subst e0; subst e1; subst e2
  exact ⟨⟨n0, n1, s2⟩, rfl, w0, w1, w2⟩
theorem tr_pkt {cs : List Value} (h : Tr enc Try.prog w base spare held 39 cs) : ∃ p : Pkt, cs = [.int .i64 p.src, .int .i64 p.dst, .string p.bytes] ∧ PktWf p :=
  tr_pkt_rd Try.underlying39 (by kernel_rfl) rfl rfl rfl (by kernel_rfl) (by kernel_rfl) (by kernel_rfl) Try.underlying3 Try.underlying3 Try.underlying9 h
theorem okWide_fields {P : Program} {r : Reach} {b0 : Nat} {t : TypeId} {fs : Array Field} {v : Value} (ht : P.underlying t = some (.struct fs)) (h : Value.okWide P w r b0 t v) : ∃ cs, v = .agg cs := by
  simp only [Value.okWide, ht] at h
  obtain ⟨cs, h1, _⟩ := h
  exact ⟨cs, h1⟩

set_option maxRecDepth 100000 in
theorem open_pkt {r : Reach} {b0 : Nat} {v : Value} {d : DataW H} {ps : List MemPlace} (hv : Value.okWide Try.prog w r b0 39 v) (h : DataW.Trod enc Try.prog w base spare held 39 v d ps) :
    ∃ p : Pkt, v = .agg #[.int .i64 p.src, .int .i64 p.dst, .string p.bytes] ∧ PktWf p := by
  obtain ⟨cs, rfl⟩ := okWide_fields Try.underlying39 hv
  have hT := Tr.of h
  simp only [Value.cells] at hT
  obtain ⟨f, e, wf⟩ := tr_pkt hT
  refine ⟨f, ?_, wf⟩
  congr 1
  apply Array.ext'
  exact e
end
end Go.Proofs.Ytiipioifjjemoaa
