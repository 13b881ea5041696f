/- A slice of acts (two numbers and a text each) that comes in, opened; arrays of numbers by value. -/
import Derived.Test.YtjloipjchcaloaaOpen
import Derived.Test.YtjloipjchcaloaaNew
import Derived.Test.YtjloipjchcaloaaRows
namespace Go.Proofs.Ytjloipjchcaloaa
open Go.ChangeShapes Go.WideShapes Go.ChangeAt Go.RowKit Go.Deep
set_option linter.unusedVariables false

theorem acells_flat : ∀ l : List Act3, l.flatMap (fun a => [Value.int .i64 a.kind, .int .i64 a.n, .string a.text]) = acells l
  | [] => rfl
  | a :: l => by rw [List.flatMap_cons, acells_flat l]; rfl

section
variable {H : Type} {enc : TypeId × Value → H} {P : Program} {w : World} {base : Nat} {spare : Nat → Bool} {held : Bool}

theorem okWide_arr {r : Reach} {b0 : Nat} {t e : TypeId} {n : Nat} {v : Value} (ht : P.underlying t = some (.array n e)) (h : Value.okWide P w r b0 t v) : ∃ cs, v = .agg cs := by
  simp only [Value.okWide, ht] at h
  obtain ⟨cs, h1, _⟩ := h
  exact ⟨cs, h1⟩

theorem list_of_three {cs : List Value} (h : cs.length = 3) : ∃ a b c, cs = [a, b, c] := by
  match cs, h with
  | [a, b, c], _ => exact ⟨a, b, c, rfl⟩

theorem open_acts_rd {t e : TypeId} {f0 f1 f2 : Field} {A : Option Addr} {len cap : Nat} {d : DataW H} {ps : List MemPlace} (ht : P.underlying t = some (.slice e)) (he : P.underlying e = some (.struct #[f0, f1, f2])) (hce : P.cellsOf e = 3)
    (o0 : f0.offset = 0) (o1 : f1.offset = 1) (o2 : f2.offset = 2) (c0 : P.cellsOf f0.type = 1) (c1 : P.cellsOf f1.type = 1) (c2 : P.cellsOf f2.type = 1)
    (u0 : P.underlying f0.type = some (.int .i64)) (u1 : P.underlying f1.type = some (.int .i64)) (u2 : P.underlying f2.type = some .string)
    (h : DataW.Trod enc P w base spare held t (.slice A len cap) d ps) : len ≤ cap ∧ cap ≤ maxLen ∧ ∃ l : List Act3, l.length = len ∧ Rd w 3 A len (acells l) ∧ ∀ a ∈ l, (Lit.int .i64 a.kind).wf = true ∧ (Lit.int .i64 a.n).wf = true ∧ a.text.size ≤ maxLen := by
  obtain ⟨A', len', cap', h1, h2, h3, h4⟩ := (Tr.of h).slice ht (by omega)
  simp only [Value.cells, List.cons.injEq, Value.slice.injEq, and_true] at h1
  obtain ⟨rfl, rfl, rfl⟩ := h1
  rw [hce] at h4
  obtain ⟨zs, r1, r2, r3⟩ := rd_of_elems (w := w) (size := 3) (len := len) (A := A) (fun a : Act3 => [Value.int .i64 a.kind, .int .i64 a.n, .string a.text]) (fun _ => rfl)
    (fun a => (Lit.int .i64 a.kind).wf = true ∧ (Lit.int .i64 a.n).wf = true ∧ a.text.size ≤ maxLen) (fun h0 => by
    obtain ⟨b, off, rfl, _, hi⟩ := h4 h0
    refine ⟨b, off, rfl, fun i hil => ?_⟩
    obtain ⟨cs', hl, ht', hx⟩ := hi i hil
    obtain ⟨x, y, z, rfl⟩ := list_of_three hl
    have t0 := ht'.field he 0 f0 rfl
    have t1 := ht'.field he 1 f1 rfl
    have t2 := ht'.field he 2 f2 rfl
    rw [o0, c0] at t0
    rw [o1, c1] at t1
    rw [o2, c2] at t2
    obtain ⟨n0, e0, w0⟩ := t0.int u0
    obtain ⟨n1, e1, w1⟩ := t1.int u1
    obtain ⟨s2, e2, w2⟩ := t2.str u2
    simp at e0 e1 e2
    subst e0; subst e1; subst e2
    exact ⟨⟨n0, n1, s2⟩, ⟨w0, w1, w2⟩, hx⟩)
  rw [acells_flat] at r2
  exact ⟨h2, h3, zs, r1, r2, r3⟩
end

theorem open_acts10 {H : Type} {enc : TypeId × Value → H} {w : World} {base : Nat} {spare : Nat → Bool} {held : Bool} {A : Option Addr} {len cap : Nat} {d : DataW H} {ps : List MemPlace}
    (h : DataW.Trod enc Try.prog w base spare held 37 (.slice A len cap) d ps) : len ≤ cap ∧ cap ≤ maxLen ∧ ∃ l : List Act3, l.length = len ∧ Rd w 3 A len (acells l) ∧ ∀ a ∈ l, (Lit.int .i64 a.kind).wf = true ∧ (Lit.int .i64 a.n).wf = true ∧ a.text.size ≤ maxLen :=
  open_acts_rd Try.underlying37 Try.underlying40 (by kernel_rfl) rfl rfl rfl (by kernel_rfl) (by kernel_rfl) (by kernel_rfl) Try.underlying3 Try.underlying3 Try.underlying9 h

theorem open_acts11 {H : Type} {enc : TypeId × Value → H} {w : World} {base : Nat} {spare : Nat → Bool} {held : Bool} {A : Option Addr} {len cap : Nat} {d : DataW H} {ps : List MemPlace}
    (h : DataW.Trod enc Try.prog w base spare held 44 (.slice A len cap) d ps) : len ≤ cap ∧ cap ≤ maxLen ∧ ∃ l : List Act3, l.length = len ∧ Rd w 3 A len (acells l) ∧ ∀ a ∈ l, (Lit.int .i64 a.kind).wf = true ∧ (Lit.int .i64 a.n).wf = true ∧ a.text.size ≤ maxLen :=
  open_acts_rd Try.underlying44 Try.underlying50 (by kernel_rfl) rfl rfl rfl (by kernel_rfl) (by kernel_rfl) (by kernel_rfl) Try.underlying3 Try.underlying3 Try.underlying9 h
end Go.Proofs.Ytjloipjchcaloaa
