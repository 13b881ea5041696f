/- How arguments that come in are opened: what a value reads as, told by its cells; a slice whose elements are read one by one. No condition: plain lemmas over any program. -/
import Derived.Test.YtihnldhdpiokhaaMem
import Derived.ProofKit
import Derived.OpenShut
import Derived.ShutString
import Derived.ChangeOld
import Derived.Deep.Slices
namespace Go.Proofs.Ytihnldhdpiokhaa
open Go.ChangeShapes Go.WideShapes Go.ChangeAt Go.RowKit Go.Deep
set_option linter.unusedVariables false

section
variable {H : Type} {enc : TypeId × Value → H} {P : Program} {w : World} {base : Nat} {spare : Nat → Bool} {held : Bool}

/-- These cells read as a value of type t. -/
def Tr (enc : TypeId × Value → H) (P : Program) (w : World) (base : Nat) (spare : Nat → Bool) (held : Bool) (t : TypeId) (cs : List Value) : Prop :=
  ∃ fuel x, DataW.trod enc P w base spare held fuel t cs = some x

theorem Tr.of {t : TypeId} {v : Value} {d : DataW H} {ps : List MemPlace} (h : DataW.Trod enc P w base spare held t v d ps) : Tr enc P w base spare held t v.cells.toList := by
  obtain ⟨fuel, hf⟩ := h
  exact ⟨fuel, _, hf⟩

theorem Tr.int {t : TypeId} {cs : List Value} {k : IntKind} (h : Tr enc P w base spare held t cs) (ht : P.underlying t = some (.int k)) : ∃ n, cs = [.int k n] ∧ (Lit.int k n).wf = true := by
  obtain ⟨fuel, x, hf⟩ := h
  obtain ⟨n, h1, _, h2⟩ := DataW.trod_int ht hf
  exact ⟨n, h1, h2⟩

theorem Tr.bool {t : TypeId} {cs : List Value} (h : Tr enc P w base spare held t cs) (ht : P.underlying t = some .bool) : ∃ b, cs = [.bool b] := by
  obtain ⟨fuel, x, hf⟩ := h
  obtain ⟨b, h1, _⟩ := DataW.trod_bool ht hf
  exact ⟨b, h1⟩

theorem Tr.str {t : TypeId} {cs : List Value} (h : Tr enc P w base spare held t cs) (ht : P.underlying t = some .string) : ∃ s : ByteArray, cs = [.string s] ∧ s.size ≤ maxLen := by
  obtain ⟨fuel, x, hf⟩ := h
  obtain ⟨s, h1, _, h2⟩ := DataW.trod_string ht hf
  exact ⟨s, h1, h2⟩

theorem Tr.field {t : TypeId} {cs : List Value} {fs : Array Field} (h : Tr enc P w base spare held t cs) (ht : P.underlying t = some (.struct fs)) (i : Nat) (f : Field) (hf : fs[i]? = some f) :
    Tr enc P w base spare held f.type ((cs.drop f.offset).take (P.cellsOf f.type)) := by
  obtain ⟨fuel, x, hx⟩ := h
  obtain ⟨xs, n, _, _, _, hl, hg⟩ := DataW.trod_struct ht hx
  have hi : i < xs.length := by rw [hl]; exact (Array.getElem?_eq_some_iff.1 hf).1
  exact ⟨n, xs[i], (hg i f hf).trans (List.getElem?_eq_getElem hi)⟩

theorem Tr.len {t : TypeId} {cs : List Value} {fs : Array Field} (h : Tr enc P w base spare held t cs) (ht : P.underlying t = some (.struct fs)) : cs.length = P.cellsOf t := by
  obtain ⟨fuel, x, hx⟩ := h
  obtain ⟨xs, n, _, _, h1, _, _⟩ := DataW.trod_struct ht hx
  exact h1

theorem Tr.elem {t e : TypeId} {n : Nat} {cs : List Value} (h : Tr enc P w base spare held t cs) (ht : P.underlying t = some (.array n e)) (i : Nat) (hi : i < n) :
    Tr enc P w base spare held e ((cs.drop (i * P.cellsOf e)).take (P.cellsOf e)) := by
  obtain ⟨fuel, x, hx⟩ := h
  obtain ⟨xs, m, _, _, _, hl, hg⟩ := DataW.trod_array ht hx
  exact ⟨m, xs[i], (hg i hi).trans (List.getElem?_eq_getElem (by omega))⟩

theorem Tr.alen {t e : TypeId} {n : Nat} {cs : List Value} (h : Tr enc P w base spare held t cs) (ht : P.underlying t = some (.array n e)) : cs.length = P.cellsOf t := by
  obtain ⟨fuel, x, hx⟩ := h
  obtain ⟨xs, m, _, _, h1, _, _⟩ := DataW.trod_array ht hx
  exact h1

/-- A slice: each of its elements reads as a value of the element type, from cells that lie one behind the other. -/
theorem Tr.slice {t e : TypeId} {cs : List Value} (h : Tr enc P w base spare held t cs) (ht : P.underlying t = some (.slice e)) (hpos : 0 < P.cellsOf e) :
    ∃ A len cap, cs = [.slice A len cap] ∧ len ≤ cap ∧ cap ≤ maxLen ∧ (0 < len → ∃ b off, A = some ⟨b, off, none⟩ ∧ base ≤ b ∧
      ∀ i, i < len → ∃ cs', cs'.length = P.cellsOf e ∧ Tr enc P w base spare held e cs' ∧ ∀ j u, cs'[j]? = some u → w.cell? ⟨b, off + (i * P.cellsOf e + j), none⟩ = some u) := by
  obtain ⟨fuel, x, hx⟩ := h
  rcases open_slice ht hx with ⟨rfl, _⟩ | ⟨a, len, cap, m, n, D, Pl, rfl, hb, hl, hm, hmm, _, hi⟩
  · exact ⟨none, 0, 0, rfl, Nat.le_refl _, Nat.zero_le _, fun h => absurd h (by omega)⟩
  · refine ⟨some a, len, cap, rfl, hl, hm, fun hlen => ?_⟩
    have hle : len ≤ m := by rw [hmm]; split <;> omega
    have hspot : a.spot = none := by
      obtain ⟨cs', hc, _⟩ := hi 0 (by omega)
      obtain ⟨_, hcl, hat⟩ := World.cells?_some hc
      have h0 := hat 0 (by omega)
      rw [List.getElem?_eq_getElem (by omega)] at h0
      simp only [Nat.zero_mul, Addr.add, if_pos] at h0
      exact World.cell?_spot h0
    obtain ⟨b, off, spot⟩ := a
    simp only at hspot
    subst hspot
    refine ⟨b, off, rfl, hb, fun i him => ?_⟩
    obtain ⟨cs', hc, ht'⟩ := hi i (by omega)
    obtain ⟨_, hcl, hat⟩ := World.cells?_some hc
    refine ⟨cs', hcl, ⟨n, _, ht'⟩, fun j u hu => ?_⟩
    have hj : j < P.cellsOf e := by
      have := (List.getElem?_eq_some_iff.1 hu).1
      omega
    have := hat j hj
    rw [add_lit, add_lit] at this
    rw [show off + (i * P.cellsOf e + j) = off + i * P.cellsOf e + j by omega, this]
    exact hu

theorem len2 {α : Type} {l : List α} (h : l.length = 2) : ∃ a b, l = [a, b] := by
  match l, h with
  | [a, b], _ => exact ⟨a, b, rfl⟩
theorem len3 {α : Type} {l : List α} (h : l.length = 3) : ∃ a b c, l = [a, b, c] := by
  match l, h with
  | [a, b, c], _ => exact ⟨a, b, c, rfl⟩

theorem flatMap_one {α β : Type} (f : α → β) : ∀ l : List α, l.flatMap (fun z => [f z]) = l.map f
  | [] => rfl
  | z :: l => by rw [List.flatMap_cons, flatMap_one f l]; rfl

/-- Out of one element at a time: a list of them, and the slice reads as that list. -/
theorem rd_of_elems {α : Type} {size len : Nat} {A : Option Addr} (f : α → List Value) (hf : ∀ a, (f a).length = size) (Q : α → Prop)
    (h : 0 < len → ∃ b off, A = some ⟨b, off, none⟩ ∧ ∀ i, i < len → ∃ a, Q a ∧ ∀ j u, (f a)[j]? = some u → w.cell? ⟨b, off + (i * size + j), none⟩ = some u) :
    ∃ l : List α, l.length = len ∧ Rd w size A len (l.flatMap f) ∧ ∀ a ∈ l, Q a := by
  rcases Nat.eq_zero_or_pos len with h0 | h0
  · subst h0
    exact ⟨[], rfl, by simpa using Rd.nil w size A, by simp⟩
  · obtain ⟨b, off, rfl, hi⟩ := h h0
    have key : ∀ m, m ≤ len → ∃ l : List α, l.length = m ∧ (∀ a ∈ l, Q a) ∧ (l.flatMap f).length = m * size ∧ ∀ j u, (l.flatMap f)[j]? = some u → w.cell? ⟨b, off + j, none⟩ = some u := by
      intro m
      induction m with
      | zero => intro _; exact ⟨[], rfl, by simp, by simp, by simp⟩
      | succ m ih =>
        intro hm
        obtain ⟨l, hl, hq, hlen, hc⟩ := ih (by omega)
        obtain ⟨a, ha, hca⟩ := hi m (by omega)
        refine ⟨l ++ [a], by simp [hl], ?_, ?_, ?_⟩
        · intro x hx
          simp only [List.mem_append, List.mem_singleton] at hx
          rcases hx with hx | rfl
          · exact hq x hx
          · exact ha
        · simp [hlen, hf, Nat.add_mul]
        · intro j u hu
          simp only [List.flatMap_append, List.flatMap_cons, List.flatMap_nil, List.append_nil] at hu
          by_cases hj : j < m * size
          · rw [List.getElem?_append_left (by omega)] at hu
            exact hc j u hu
          · rw [List.getElem?_append_right (by omega), hlen] at hu
            have := hca _ _ hu
            rw [show off + (m * size + (j - m * size)) = off + j by omega] at this
            exact this
    obtain ⟨l, hl, hq, hlen, hc⟩ := key len (Nat.le_refl _)
    exact ⟨l, hl, ⟨hlen, fun _ => ⟨b, off, rfl, hc⟩⟩, hq⟩

/-- a slice of integers -/
theorem open_ints_rd {t e : TypeId} {k : IntKind} {A : Option Addr} {len cap : Nat} {d : DataW H} {ps : List MemPlace} (ht : P.underlying t = some (.slice e)) (he : P.underlying e = some (.int k)) (hc : P.cellsOf e = 1)
    (h : DataW.Trod enc P w base spare held t (.slice A len cap) d ps) : len ≤ cap ∧ cap ≤ maxLen ∧ ∃ zs : List Int, zs.length = len ∧ Rd w 1 A len (zs.map (Value.int k)) ∧ ∀ z ∈ zs, (Lit.int k z).wf = true := by
  obtain ⟨A', len', cap', h1, h2, h3, h4⟩ := (Tr.of h).slice ht (by omega)
  simp only [Value.cells, List.cons.injEq, Value.slice.injEq, and_true] at h1
  obtain ⟨rfl, rfl, rfl⟩ := h1
  rw [hc] at h4
  obtain ⟨zs, r1, r2, r3⟩ := rd_of_elems (w := w) (size := 1) (len := len) (A := A) (fun z : Int => [Value.int k z]) (fun _ => rfl) (fun z => (Lit.int k z).wf = true) (fun h0 => by
    obtain ⟨b, off, rfl, _, hi⟩ := h4 h0
    refine ⟨b, off, rfl, fun i hil => ?_⟩
    obtain ⟨cs', _, ht', hx⟩ := hi i hil
    obtain ⟨n, rfl, hw⟩ := ht'.int he
    exact ⟨n, hw, hx⟩)
  rw [flatMap_one] at r2
  exact ⟨h2, h3, zs, r1, r2, r3⟩

/-- a slice of strings -/
theorem open_strs_rd {t e : TypeId} {A : Option Addr} {len cap : Nat} {d : DataW H} {ps : List MemPlace} (ht : P.underlying t = some (.slice e)) (he : P.underlying e = some .string) (hc : P.cellsOf e = 1)
    (h : DataW.Trod enc P w base spare held t (.slice A len cap) d ps) : len ≤ cap ∧ cap ≤ maxLen ∧ ∃ zs : List ByteArray, zs.length = len ∧ Rd w 1 A len (zs.map Value.string) ∧ ∀ z ∈ zs, z.size ≤ maxLen := by
  obtain ⟨A', len', cap', h1, h2, h3, h4⟩ := (Tr.of h).slice ht (by omega)
  simp only [Value.cells, List.cons.injEq, Value.slice.injEq, and_true] at h1
  obtain ⟨rfl, rfl, rfl⟩ := h1
  rw [hc] at h4
  obtain ⟨zs, r1, r2, r3⟩ := rd_of_elems (w := w) (size := 1) (len := len) (A := A) (fun z : ByteArray => [Value.string z]) (fun _ => rfl) (fun z => z.size ≤ maxLen) (fun h0 => by
    obtain ⟨b, off, rfl, _, hi⟩ := h4 h0
    refine ⟨b, off, rfl, fun i hil => ?_⟩
    obtain ⟨cs', _, ht', hx⟩ := hi i hil
    obtain ⟨n, rfl, hw⟩ := ht'.str he
    exact ⟨n, hw, hx⟩)
  rw [flatMap_one] at r2
  exact ⟨h2, h3, zs, r1, r2, r3⟩

/-- an array of integers, by value -/
theorem open_arr_int {t e : TypeId} {k : IntKind} {n : Nat} {v : Value} {d : DataW H} {ps : List MemPlace} (ht : P.underlying t = some (.array n e)) (he : P.underlying e = some (.int k)) (hc : P.cellsOf e = 1)
    (hct : P.cellsOf t = n) (hv : ∃ cs, v = .agg cs) (h : DataW.Trod enc P w base spare held t v d ps) : ∃ zs : List Int, zs.length = n ∧ v = .agg (zs.map (Value.int k)).toArray ∧ ∀ z ∈ zs, (Lit.int k z).wf = true := by
  obtain ⟨cs, rfl⟩ := hv
  have hT := Tr.of h
  have hl := hT.alen ht
  rw [hct] at hl
  simp only [Value.cells] at hl hT
  have key : ∀ i, i < n → ∃ z, cs.toList[i]? = some (.int k z) ∧ (Lit.int k z).wf = true := fun i hi => by
    have := hT.elem ht i hi
    rw [hc, Nat.mul_one] at this
    obtain ⟨z, hz, hw⟩ := this.int he
    refine ⟨z, ?_, hw⟩
    have h1 := congrArg (fun l => l[0]?) hz
    simpa using h1
  refine ⟨(List.range n).map fun i => intOf ((cs.toList[i]?).getD (.bool false)), by simp, ?_, ?_⟩
  · congr 1
    apply Array.ext'
    apply List.ext_getElem?
    intro i
    by_cases hi : i < n
    · obtain ⟨z, hz, _⟩ := key i hi
      simp only [Array.getElem?_toList] at hz
      simp [hi, hz, intOf]
    · rw [List.getElem?_eq_none (by omega), List.getElem?_eq_none (by simp; omega)]
  · intro z hz
    simp only [List.mem_map, List.mem_range] at hz
    obtain ⟨i, hi, rfl⟩ := hz
    obtain ⟨z, hz, hw⟩ := key i hi
    rw [hz]
    exact hw
end

/-- A law's end: it returned true, and nothing that was there has changed. -/
def LawRet (w : World) (e : Ending) (w' : World) : Prop := e = .returned (.bool true) ∧ Below w.heap.size w w'
theorem below_of_grown {w w' : World} (h : w.grownBy w' none) : Below w.heap.size w w' := ⟨h.os, h.tape, h.output, h.size, fun k hk => h.block k hk (by simp)⟩
end Go.Proofs.Ytihnldhdpiokhaa
