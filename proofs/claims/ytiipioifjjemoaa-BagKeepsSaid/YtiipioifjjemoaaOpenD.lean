/- A slice of acts with packets that comes in, opened. -/
import Derived.Test.YtiipioifjjemoaaOpenC
import Derived.Test.YtiipioifjjemoaaActsC
namespace Go.Proofs.Ytiipioifjjemoaa
open Go.ChangeShapes Go.WideShapes Go.ChangeAt Go.RowKit Go.Deep
set_option linter.unusedVariables false

theorem list_of_five {cs : List Value} (h : cs.length = 5) : ∃ a b c d e, cs = [a, b, c, d, e] := by
  match cs, h with
  | [a, b, c, d, e], _ => exact ⟨a, b, c, d, e, rfl⟩
theorem pcells_flat : ∀ l : List Pkt, l.flatMap (fun p => [Value.int .i64 p.src, .int .i64 p.dst, .string p.bytes]) = pcells l
  | [] => rfl
  | p :: l => by rw [List.flatMap_cons, pcells_flat l]; rfl
section
variable {H : Type} {enc : TypeId × Value → H} {w : World} {base : Nat} {spare : Nat → Bool} {held : Bool}
theorem tr_pkts_rd {P : Program} {t e : TypeId} {cs : List Value} (ht : P.underlying t = some (.slice e)) (hc : P.cellsOf e = 3)
    (hx : ∀ cs, Tr enc P w base spare held e cs → ∃ p : Pkt, cs = [.int .i64 p.src, .int .i64 p.dst, .string p.bytes] ∧ PktWf p)
    (h : Tr enc P w base spare held t cs) : ∃ A len cap, cs = [.slice A len cap] ∧ len ≤ cap ∧ cap ≤ maxLen ∧ ∃ l : List Pkt, l.length = len ∧ Rd w 3 A len (pcells l) := by
  obtain ⟨A, len, cap, h1, h2, h3, h4⟩ := h.slice ht (by omega)
  rw [hc] at h4
  obtain ⟨zs, r1, r2, _⟩ := rd_of_elems (w := w) (size := 3) (len := len) (A := A) (fun p : Pkt => [Value.int .i64 p.src, .int .i64 p.dst, .string p.bytes]) (fun _ => rfl)
    (fun _ => True) (fun h0 => by
    obtain ⟨b, off, rfl, _, hi⟩ := h4 h0
    refine ⟨b, off, rfl, fun i hil => ?_⟩
    obtain ⟨cs', hl, ht', hc⟩ := hi i hil
    obtain ⟨p, rfl, _⟩ := hx _ ht'
    exact ⟨p, trivial, hc⟩)
  rw [pcells_flat] at r2
  exact ⟨A, len, cap, h1, h2, h3, zs, r1, r2⟩
theorem tr_actC_rd {P : Program} {t : TypeId} {f0 f1 f2 f3 f4 : Field} {cs : List Value} (he : P.underlying t = some (.struct #[f0, f1, f2, f3, f4])) (hce : P.cellsOf t = 5)
    (o0 : f0.offset = 0) (o1 : f1.offset = 1) (o2 : f2.offset = 2) (o3 : f3.offset = 3) (o4 : f4.offset = 4) (c0 : P.cellsOf f0.type = 1) (c1 : P.cellsOf f1.type = 1) (c2 : P.cellsOf f2.type = 1) (c3 : P.cellsOf f3.type = 1) (c4 : P.cellsOf f4.type = 1)
    (u0 : P.underlying f0.type = some (.int .i64)) (u1 : P.underlying f1.type = some (.int .i64)) (u2 : P.underlying f2.type = some (.int .i64)) (u3 : P.underlying f3.type = some (.int .u32))
    (u4 : ∀ cs, Tr enc P w base spare held f4.type cs → ∃ A len cap, cs = [.slice A len cap] ∧ len ≤ cap ∧ cap ≤ maxLen ∧ ∃ l : List Pkt, l.length = len ∧ Rd w 3 A len (pcells l))
    (h : Tr enc P w base spare held t cs) : ∃ a : ActC, cs = ccells1 a ∧ ActWf w a := by
  have hl := h.len he
  rw [hce] at hl
  obtain ⟨x, y, z, u, v, rfl⟩ := list_of_five hl
  have t0 := h.field he 0 f0 rfl
  have t1 := h.field he 1 f1 rfl
  have t2 := h.field he 2 f2 rfl
  have t3 := h.field he 3 f3 rfl
  have t4 := h.field he 4 f4 rfl
  rw [o0, c0] at t0
  rw [o1, c1] at t1
  rw [o2, c2] at t2
  rw [o3, c3] at t3
  rw [o4, c4] at t4
  obtain ⟨n0, e0, w0⟩ := t0.int u0
  obtain ⟨n1, e1, w1⟩ := t1.int u1
  obtain ⟨n2, e2, w2⟩ := t2.int u2
  obtain ⟨n3, e3, w3⟩ := t3.int u3
  obtain ⟨A, len, cap, e4, w4, w5, l, w6, w7⟩ := u4 _ t4
  simp at e0 e1 e2 e3 e4
  subst e0; subst e1; subst e2; subst e3; subst e4; subst w6
  exact ⟨⟨n0, n1, n2, n3, A, cap, l⟩, rfl, w4, w5, (u32_wf w3).1, (u32_wf w3).2, w7⟩
theorem tr_actC {cs : List Value} (h : Tr enc Try.prog w base spare held 34 cs) : ∃ a : ActC, cs = ccells1 a ∧ ActWf w a :=
  tr_actC_rd Try.underlying34 (by kernel_rfl) rfl rfl rfl rfl rfl (by kernel_rfl) (by kernel_rfl) (by kernel_rfl) (by kernel_rfl) (by kernel_rfl) Try.underlying3 Try.underlying3 Try.underlying3 Try.underlying32
    (fun _ h => tr_pkts_rd Try.underlying26 (by kernel_rfl) (fun _ => tr_pkt) h) h
theorem open_actsC {A : Option Addr} {len cap : Nat} {d : DataW H} {ps : List MemPlace}
    (h : DataW.Trod enc Try.prog w base spare held 22 (.slice A len cap) d ps) : len ≤ cap ∧ cap ≤ maxLen ∧ ∃ l : List ActC, l.length = len ∧ Rd w 5 A len (ccells l) ∧ ∀ a ∈ l, ActWf w a := by
  obtain ⟨A', len', cap', h1, h2, h3, h4⟩ := (Tr.of h).slice Try.underlying22 (by rw [show Try.prog.cellsOf 34 = 5 by kernel_rfl]; omega)
  simp only [Value.cells, List.cons.injEq, Value.slice.injEq, and_true] at h1
  obtain ⟨rfl, rfl, rfl⟩ := h1
  rw [show Try.prog.cellsOf 34 = 5 by kernel_rfl] at h4
  obtain ⟨zs, r1, r2, r3⟩ := rd_of_elems (w := w) (size := 5) (len := len) (A := A) ccells1 (fun _ => rfl) (ActWf w) (fun h0 => by
    obtain ⟨b, off, rfl, _, hi⟩ := h4 h0
    refine ⟨b, off, rfl, fun i hil => ?_⟩
    obtain ⟨cs', hl, ht', hc⟩ := hi i hil
    obtain ⟨a, rfl, wa⟩ := tr_actC ht'
    exact ⟨a, wa, hc⟩)
  exact ⟨h2, h3, zs, r1, r2, r3⟩
end
end Go.Proofs.Ytiipioifjjemoaa
