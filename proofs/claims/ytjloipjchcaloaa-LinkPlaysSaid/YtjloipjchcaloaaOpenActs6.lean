/- A slice of acts with a frame each that comes in, opened; a frame by value. -/
import Derived.Test.YtjloipjchcaloaaOpenActs
import Derived.Test.YtjloipjchcaloaaGreat12
namespace Go.Proofs.Ytjloipjchcaloaa
open Go.ChangeShapes Go.WideShapes Go.ChangeAt Go.RowKit Go.Deep
set_option linter.unusedVariables false

theorem a6cells_flat : ∀ l : List Act6, l.flatMap (fun a => [Value.int .i64 a.kind, .string a.text, .int .i64 a.f.epoch, .int .i64 a.f.seq, .int .i64 a.f.ack, .string a.f.data]) = a6cells l
  | [] => rfl
  | a :: l => by rw [List.flatMap_cons, a6cells_flat l]; rfl

theorem list_of_four {cs : List Value} (h : cs.length = 4) : ∃ a b c d, cs = [a, b, c, d] := by
  match cs, h with
  | [a, b, c, d], _ => exact ⟨a, b, c, d, rfl⟩
theorem list_of_six {cs : List Value} (h : cs.length = 6) : ∃ a b c d e f, cs = [a, b, c, d, e, f] := by
  match cs, h with
  | [a, b, c, d, e, f], _ => exact ⟨a, b, c, d, e, f, rfl⟩

/-- what is told of a frame's numbers -/
def FrmWf (f : Frm) : Prop := (Lit.int .i64 f.epoch).wf = true ∧ (Lit.int .i64 f.seq).wf = true ∧ (Lit.int .i64 f.ack).wf = true ∧ f.data.size ≤ maxLen

section
variable {H : Type} {enc : TypeId × Value → H} {w : World} {base : Nat} {spare : Nat → Bool} {held : Bool}

theorem tr_frame_rd {P : Program} {t : TypeId} {f0 f1 f2 f3 : Field} {cs : List Value} (he : P.underlying t = some (.struct #[f0, f1, f2, f3])) (hce : P.cellsOf t = 4)
    (o0 : f0.offset = 0) (o1 : f1.offset = 1) (o2 : f2.offset = 2) (o3 : f3.offset = 3) (c0 : P.cellsOf f0.type = 1) (c1 : P.cellsOf f1.type = 1) (c2 : P.cellsOf f2.type = 1) (c3 : P.cellsOf f3.type = 1)
    (u0 : P.underlying f0.type = some (.int .i64)) (u1 : P.underlying f1.type = some (.int .i64)) (u2 : P.underlying f2.type = some (.int .i64)) (u3 : P.underlying f3.type = some .string)
    (h : Tr enc P w base spare held t cs) : ∃ f : Frm, cs = [.int .i64 f.epoch, .int .i64 f.seq, .int .i64 f.ack, .string f.data] ∧ FrmWf f := by
  have hl := h.len he
  rw [hce] at hl
  obtain ⟨x, y, z, u, rfl⟩ := list_of_four hl
  have t0 := h.field he 0 f0 rfl
  have t1 := h.field he 1 f1 rfl
  have t2 := h.field he 2 f2 rfl
  have t3 := h.field he 3 f3 rfl
  rw [o0, c0] at t0
  rw [o1, c1] at t1
  rw [o2, c2] at t2
  rw [o3, c3] at t3
  obtain ⟨n0, e0, w0⟩ := t0.int u0
  obtain ⟨n1, e1, w1⟩ := t1.int u1
  obtain ⟨n2, e2, w2⟩ := t2.int u2
  obtain ⟨s3, e3, w3⟩ := t3.str u3
  simp at e0 e1 e2 e3
  subst e0; subst e1; subst e2; subst e3
  exact ⟨⟨n0, n1, n2, s3⟩, rfl, w0, w1, w2, w3⟩

theorem tr_frame {cs : List Value} (h : Tr enc Try.prog w base spare held 78 cs) : ∃ f : Frm, cs = [.int .i64 f.epoch, .int .i64 f.seq, .int .i64 f.ack, .string f.data] ∧ FrmWf f :=
  tr_frame_rd Try.underlying78 (by kernel_rfl) rfl rfl rfl rfl (by kernel_rfl) (by kernel_rfl) (by kernel_rfl) (by kernel_rfl) Try.underlying3 Try.underlying3 Try.underlying3 Try.underlying9 h

theorem tr_act6_rd {P : Program} {t : TypeId} {f0 f1 f2 : Field} {cs : List Value} (he : P.underlying t = some (.struct #[f0, f1, f2])) (hce : P.cellsOf t = 6)
    (o0 : f0.offset = 0) (o1 : f1.offset = 1) (o2 : f2.offset = 2) (c0 : P.cellsOf f0.type = 1) (c1 : P.cellsOf f1.type = 1) (c2 : P.cellsOf f2.type = 4)
    (u0 : P.underlying f0.type = some (.int .i64)) (u1 : P.underlying f1.type = some .string)
    (u2 : ∀ cs, Tr enc P w base spare held f2.type cs → ∃ f : Frm, cs = [.int .i64 f.epoch, .int .i64 f.seq, .int .i64 f.ack, .string f.data] ∧ FrmWf f)
    (h : Tr enc P w base spare held t cs) : ∃ a : Act6, cs = [.int .i64 a.kind, .string a.text, .int .i64 a.f.epoch, .int .i64 a.f.seq, .int .i64 a.f.ack, .string a.f.data] ∧ (Lit.int .i64 a.kind).wf = true ∧ a.text.size ≤ maxLen ∧ FrmWf a.f := by
  have hl := h.len he
  rw [hce] at hl
  obtain ⟨x, y, z, u, v, q, rfl⟩ := list_of_six hl
  have t0 := h.field he 0 f0 rfl
  have t1 := h.field he 1 f1 rfl
  have t2 := h.field he 2 f2 rfl
  rw [o0, c0] at t0
  rw [o1, c1] at t1
  rw [o2, c2] at t2
  obtain ⟨n0, e0, w0⟩ := t0.int u0
  obtain ⟨s1, e1, w1⟩ := t1.str u1
  obtain ⟨f, e2, w2⟩ := u2 _ t2
  simp at e0 e1 e2
  obtain ⟨rfl, rfl, rfl, rfl⟩ := e2
  subst e0; subst e1
  exact ⟨⟨n0, s1, f⟩, rfl, w0, w1, w2⟩

theorem tr_act6 {cs : List Value} (h : Tr enc Try.prog w base spare held 80 cs) : ∃ a : Act6, cs = [.int .i64 a.kind, .string a.text, .int .i64 a.f.epoch, .int .i64 a.f.seq, .int .i64 a.f.ack, .string a.f.data] ∧ (Lit.int .i64 a.kind).wf = true ∧ a.text.size ≤ maxLen ∧ FrmWf a.f :=
  tr_act6_rd Try.underlying80 (by kernel_rfl) rfl rfl rfl (by kernel_rfl) (by kernel_rfl) (by kernel_rfl) Try.underlying3 Try.underlying9 (fun _ => tr_frame) h

theorem open_frames6_rd {P : Program} {t e : TypeId} {A : Option Addr} {len cap : Nat} {d : DataW H} {ps : List MemPlace} (ht : P.underlying t = some (.slice e)) (c80 : P.cellsOf e = 6)
    (hx : ∀ cs, Tr enc P w base spare held e cs → ∃ a : Act6, cs = [.int .i64 a.kind, .string a.text, .int .i64 a.f.epoch, .int .i64 a.f.seq, .int .i64 a.f.ack, .string a.f.data] ∧ (Lit.int .i64 a.kind).wf = true ∧ a.text.size ≤ maxLen ∧ FrmWf a.f)
    (h : DataW.Trod enc P w base spare held t (.slice A len cap) d ps) : len ≤ cap ∧ cap ≤ maxLen ∧ ∃ l : List Act6, l.length = len ∧ Rd w 6 A len (a6cells l) ∧ ∀ a ∈ l, FrmWf a.f := by
  obtain ⟨A', len', cap', h1, h2, h3, h4⟩ := (Tr.of h).slice ht (by omega)
  simp only [Value.cells, List.cons.injEq, Value.slice.injEq, and_true] at h1
  obtain ⟨rfl, rfl, rfl⟩ := h1
  rw [c80] at h4
  obtain ⟨zs, r1, r2, r3⟩ := rd_of_elems (w := w) (size := 6) (len := len) (A := A) (fun a : Act6 => [Value.int .i64 a.kind, .string a.text, .int .i64 a.f.epoch, .int .i64 a.f.seq, .int .i64 a.f.ack, .string a.f.data]) (fun _ => rfl)
    (fun a => FrmWf a.f) (fun h0 => by
    obtain ⟨b, off, rfl, _, hi⟩ := h4 h0
    refine ⟨b, off, rfl, fun i hil => ?_⟩
    obtain ⟨cs', hl, ht', hc⟩ := hi i hil
    obtain ⟨a, rfl, _, _, wa⟩ := hx _ ht'
    exact ⟨a, wa, hc⟩)
  rw [a6cells_flat] at r2
  exact ⟨h2, h3, zs, r1, r2, r3⟩

theorem open_acts12 {A : Option Addr} {len cap : Nat} {d : DataW H} {ps : List MemPlace}
    (h : DataW.Trod enc Try.prog w base spare held 71 (.slice A len cap) d ps) : len ≤ cap ∧ cap ≤ maxLen ∧ ∃ l : List Act6, l.length = len ∧ Rd w 6 A len (a6cells l) ∧ ∀ a ∈ l, FrmWf a.f :=
  open_frames6_rd Try.underlying71 (by kernel_rfl) (fun _ => tr_act6) h

theorem okWide_fields {P : Program} {r : Reach} {b0 : Nat} {t : TypeId} {fs : Array Field} {v : Value} (ht : P.underlying t = some (.struct fs)) (h : Value.okWide P w r b0 t v) : ∃ cs, v = .agg cs := by
  simp only [Value.okWide, ht] at h
  obtain ⟨cs, h1, _⟩ := h
  exact ⟨cs, h1⟩

set_option maxRecDepth 100000 in
theorem open_frame {r : Reach} {b0 : Nat} {v : Value} {d : DataW H} {ps : List MemPlace} (hv : Value.okWide Try.prog w r b0 78 v) (h : DataW.Trod enc Try.prog w base spare held 78 v d ps) :
    ∃ f : Frm, v = .agg #[.int .i64 f.epoch, .int .i64 f.seq, .int .i64 f.ack, .string f.data] ∧ FrmWf f := by
  obtain ⟨cs, rfl⟩ := okWide_fields Try.underlying78 hv
  have hT := Tr.of h
  simp only [Value.cells] at hT
  obtain ⟨f, e, wf⟩ := tr_frame hT
  refine ⟨f, ?_, wf⟩
  congr 1
  apply Array.ext'
  exact e
end
end Go.Proofs.Ytjloipjchcaloaa
