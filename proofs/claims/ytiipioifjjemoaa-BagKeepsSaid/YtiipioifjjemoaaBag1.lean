/- A bag as a list of packets: New, there, Len, At. -/
import Derived.Test.YtiipioifjjemoaaGrp0
namespace Go.Proofs.Ytiipioifjjemoaa
open Go.RowKit
set_option linter.unusedVariables false

structure Pkt where
  src : Int
  dst : Int
  bytes : ByteArray
def Pkt.zero : Pkt := ⟨0, 0, ByteArray.empty⟩

abbrev BSt := List (Pkt × Bool)

def pcells : List Pkt → List Value
  | [] => []
  | p :: l => .int .i64 p.src :: .int .i64 p.dst :: .string p.bytes :: pcells l
def qcells : BSt → List Value
  | [] => []
  | q :: l => .int .i64 q.1.src :: .int .i64 q.1.dst :: .string q.1.bytes :: .bool q.2 :: qcells l
theorem pcells_length : ∀ l : List Pkt, (pcells l).length = l.length * 3
  | [] => rfl
  | p :: l => by simp [pcells, pcells_length l]; omega
theorem qcells_length : ∀ l : BSt, (qcells l).length = l.length * 4
  | [] => rfl
  | p :: l => by simp [qcells, qcells_length l]; omega
theorem pcells_append : ∀ a b : List Pkt, pcells (a ++ b) = pcells a ++ pcells b
  | [], b => rfl
  | x :: a, b => by simp [pcells, pcells_append a b]
theorem qcells_append : ∀ a b : BSt, qcells (a ++ b) = qcells a ++ qcells b
  | [], b => rfl
  | x :: a, b => by simp [qcells, qcells_append a b]
theorem pcells_get : ∀ (k : Nat) (l : List Pkt) (p : Pkt), l[k]? = some p → (pcells l)[k * 3]? = some (.int .i64 p.src) ∧ (pcells l)[k * 3 + 1]? = some (.int .i64 p.dst) ∧ (pcells l)[k * 3 + 2]? = some (.string p.bytes)
  | 0, x :: l, p, h => by
    simp only [List.getElem?_cons_zero, Option.some.injEq] at h
    subst h
    exact ⟨rfl, rfl, rfl⟩
  | k + 1, x :: l, p, h => by
    have ih := pcells_get k l p (by simpa using h)
    simp only [pcells]
    rw [show (k + 1) * 3 = k * 3 + 1 + 1 + 1 by omega]
    simp only [List.getElem?_cons_succ]
    exact ih
  | k, [], p, h => by simp at h
theorem qcells_get : ∀ (k : Nat) (l : BSt) (q : Pkt × Bool), l[k]? = some q → (qcells l)[k * 4]? = some (.int .i64 q.1.src) ∧ (qcells l)[k * 4 + 1]? = some (.int .i64 q.1.dst) ∧ (qcells l)[k * 4 + 2]? = some (.string q.1.bytes) ∧ (qcells l)[k * 4 + 3]? = some (.bool q.2)
  | 0, x :: l, q, h => by
    simp only [List.getElem?_cons_zero, Option.some.injEq] at h
    subst h
    exact ⟨rfl, rfl, rfl, rfl⟩
  | k + 1, x :: l, q, h => by
    have ih := qcells_get k l q (by simpa using h)
    simp only [qcells]
    rw [show (k + 1) * 4 = k * 4 + 1 + 1 + 1 + 1 by omega]
    simp only [List.getElem?_cons_succ]
    exact ih
  | k, [], q, h => by simp at h
theorem pcells_one : ∀ (l : List Pkt), ∀ u ∈ pcells l, u.oneCell' = true
  | [], u, h => by simp [pcells] at h
  | x :: l, u, h => by
    simp only [pcells, List.mem_cons] at h
    rcases h with rfl | rfl | rfl | h
    · rfl
    · rfl
    · rfl
    · exact pcells_one l u h
theorem qcells_one : ∀ (l : BSt), ∀ u ∈ qcells l, u.oneCell' = true
  | [], u, h => by simp [qcells] at h
  | x :: l, u, h => by
    simp only [qcells, List.mem_cons] at h
    rcases h with rfl | rfl | rfl | rfl | h
    · rfl
    · rfl
    · rfl
    · rfl
    · exact qcells_one l u h

/-- The bag of group l at g stands as s: its block is owned by 10 l, its array by 10 l + 1. -/
def BagAt (w : World) (own : Nat → Nat) (l g : Nat) (s : BSt) : Prop :=
  own g = 10 * l ∧ s.length ≤ 4096 ∧ ∃ A c, Blk w g 53 #[.slice A s.length c] ∧ OwnS w own (10 * l + 1) 59 4 A s.length c (qcells s)

section
variable {w w' : World} {own own' : Nat → Nat} {l m g : Nat} {s : BSt}
theorem BagAt.other (h : BagAt w own l g s) (st : StepG m w own w' own') (hlm : l ≠ m) : BagAt w' own' l g s := by
  obtain ⟨ho, hl, A, c, hb, hO⟩ := h
  have h0 := st.other (j := 10 * l) (by omega) hb.lt ho
  exact ⟨h0.2, hl, A, c, hb.of_eq h0.1, hO.keep fun k hk ho => st.other (by omega) hk ho⟩
theorem BagAt.grown (h : BagAt w own l g s) (hg : w.grownBy w' none) (j : Nat) : BagAt w' (give own w.heap.size j) l g s := by
  obtain ⟨ho, hl, A, c, hb, hO⟩ := h
  exact ⟨by rw [give_old hb.lt]; exact ho, hl, A, c, hb.grown hg (by simp), hO.grown hg (Nat.le_refl _)⟩
theorem BagAt.lt (h : BagAt w own l g s) : g < w.heap.size := by obtain ⟨_, _, _, _, hb, _⟩ := h; exact hb.lt
end

/-- A call hands back v, group l alone has changed, and the bag stands as s. -/
def BagRet (l : Nat) (own : Nat → Nat) (w : World) (g : Nat) (v : Value) (s : BSt) (e : Ending) (w' : World) : Prop :=
  e = .returned v ∧ ∃ own', StepG l w own w' own' ∧ BagAt w' own' l g s

theorem bag_new (l : Nat) (own : Nat → Nat) (w : World) :
    Calls Try.prog 7 #[] w (BagRet l own w w.heap.size (.pointer (some ⟨w.heap.size, 0, none⟩)) []) := by
  have hb : Blk (w.alloc (.cells #[.slice none 0 0] 53)) w.heap.size 53 #[.slice none 0 0] := Blk.new w 53 _
  have st : Step (10 * l) w own (w.alloc (.cells #[.slice none 0 0] 53)) (give own w.heap.size (10 * l)) := ((Step.refl (10 * l) w own).give_ (10 * l)).alloc _
  go_enter Try.func7, Try.ntmps7
  go_wp2
  go_ret
  exact ⟨rfl, _, st.toG (by omega), give_new (Nat.le_refl _), by simp, none, 0, hb, OwnS.nil _ _ _ _ _⟩

section
variable {w : World} {own : Nat → Nat} {l g : Nat} {s : BSt}
theorem there_yes {A : Option Addr} {n c : Nat} (hb : Blk w g 53 #[.slice A n c]) (k : Nat) (hk : k < n) :
    Calls Try.prog 24 #[.pointer (some ⟨g, 0, none⟩), .int .i64 (k : Int)] w fun e w' => e = .returned (.bool true) ∧ w = w' := by
  have h0 := hb.cell 0
  simp only [List.getElem?_toArray, List.getElem?_cons_zero] at h0
  clear hb
  go_enter Try.func24, Try.ntmps24
  go_wp2
  go_ret
  exact ⟨rfl, rfl⟩
theorem there_no {A : Option Addr} {n c : Nat} (hb : Blk w g 53 #[.slice A n c]) (x : Int) (hx : x < 0 ∨ (n : Int) ≤ x) :
    Calls Try.prog 24 #[.pointer (some ⟨g, 0, none⟩), .int .i64 x] w fun e w' => e = .returned (.bool false) ∧ w = w' := by
  have h0 := hb.cell 0
  simp only [List.getElem?_toArray, List.getElem?_cons_zero] at h0
  clear hb
  rcases Int.lt_or_le x 0 with h1 | h1
  · have hd : decide (0 ≤ x) = false := by simp; omega
    go_enter Try.func24, Try.ntmps24
    go_wp2
    go_ret
    exact ⟨rfl, rfl⟩
  · have hd : decide (x < (n : Int)) = false := by simp; omega
    go_enter Try.func24, Try.ntmps24
    go_wp2
    go_ret
    exact ⟨rfl, rfl⟩
theorem bag_len (h : BagAt w own l g s) (n : Int) (hn : (s.length : Int) = n) : Calls Try.prog 14 #[.pointer (some ⟨g, 0, none⟩)] w fun e w' => e = .returned (.int .i64 n) ∧ w = w' := by
  subst hn
  obtain ⟨ho, hl, A, c, hb, hO⟩ := h
  have h0 := hb.cell 0
  simp only [List.getElem?_toArray, List.getElem?_cons_zero] at h0
  clear hb
  go_enter Try.func14, Try.ntmps14
  go_wp2
  go_ret
  exact ⟨rfl, rfl⟩

def pval (p : Pkt) : Value := .agg #[.int .i64 p.src, .int .i64 p.dst, .string p.bytes]

set_option maxHeartbeats 1000000 in
theorem bag_at_yes (h : BagAt w own l g s) (k : Nat) (p : Pkt) (sp : Bool) (hk : s[k]? = some (p, sp)) :
    Calls Try.prog 13 #[.pointer (some ⟨g, 0, none⟩), .int .i64 (k : Int)] w (NewRet w (.tuple #[.agg #[.int .i64 p.src, .int .i64 p.dst, .string p.bytes], .bool true])) := by
  obtain ⟨ho, hl, A, c, hb, hO⟩ := h
  have hkl : k < s.length := (List.getElem?_eq_some_iff.1 hk).1
  obtain ⟨b, off, cs, rfl, _, hcb, hcx⟩ := hO.row.2 (by omega)
  obtain ⟨q0, q1, q2, q3⟩ := qcells_get k s _ hk
  have hcb1 := hcb.alloc (.cells #[.int .i64 0, .int .i64 0, .string { data := #[] }] 39)
  have c0 := (hcb1.cell (off + k * 4)).trans (hcx _ _ q0)
  have c1 := (hcb1.cell (off + k * 4 + 1)).trans (hcx _ _ q1)
  have c2 := (hcb1.cell (off + k * 4 + 2)).trans (hcx _ _ q2)
  clear hcb1
  have hgl := hb.lt
  have hbl := hcb.lt
  obtain ⟨n, hn⟩ : ∃ n, s.length = n := ⟨_, rfl⟩
  rw [hn] at hb hkl
  have hb1 := hb.alloc (.cells #[.int .i64 0, .int .i64 0, .string { data := #[] }] 39)
  have h0 := hb1.cell 0
  simp only [List.getElem?_toArray, List.getElem?_cons_zero] at h0
  have Hb1 := Lib.hid hb1
  clear hb hO hcb hcx q0 q1 q2 q3 hn hk hb1
  have hk0 : (0 : Int) ≤ (k : Int) := by omega
  have hkn : (k : Int) < (n : Int) := by omega
  go_enter Try.func13, Try.ntmps13
  go_wp2_with fail
  refine (there_yes Hb1.out k hkl).mono ?_
  rintro e w' ⟨rfl, rfl⟩
  go_wp2
  exact bodyPost_ret (v := .tuple #[.agg #[.int .i64 p.src, .int .i64 p.dst, .string p.bytes], .bool true]) (by simp [results, Try.results13, go_sem]) rfl ⟨rfl, World.grownBy_alloc _ _ none⟩

set_option maxHeartbeats 1000000 in
theorem bag_at_no (h : BagAt w own l g s) (x : Int) (hx : x < 0 ∨ (s.length : Int) ≤ x) :
    Calls Try.prog 13 #[.pointer (some ⟨g, 0, none⟩), .int .i64 x] w (NewRet w (.tuple #[.agg #[.int .i64 0, .int .i64 0, .string ByteArray.empty], .bool false])) := by
  obtain ⟨ho, hl, A, c, hb, hO⟩ := h
  have hb1 := hb.alloc (.cells #[.int .i64 0, .int .i64 0, .string { data := #[] }] 39)
  have Hb1 := Lib.hid hb1; clear hb1
  obtain ⟨n, hn⟩ : ∃ n, s.length = n := ⟨_, rfl⟩
  rw [hn] at Hb1 hx
  have Hx := Lib.hid hx; clear hx
  clear hb hO hn hl
  go_enter Try.func13, Try.ntmps13
  go_wp2_with fail
  refine (there_no Hb1.out x Hx.out).mono ?_
  rintro e w' ⟨rfl, rfl⟩
  go_wp2
  exact bodyPost_ret (v := .tuple #[.agg #[.int .i64 0, .int .i64 0, .string ByteArray.empty], .bool false]) (by simp [results, Try.results13, go_sem]; rfl) rfl ⟨rfl, World.grownBy_alloc _ _ none⟩
end
end Go.Proofs.Ytiipioifjjemoaa
