/- The reference's bag: what it is, and whether there is one at a place. -/
import Derived.Test.YtiipioifjjemoaaAllC
namespace Go.Proofs.Ytiipioifjjemoaa
open Go.RowKit
set_option linter.unusedVariables false

theorem Try.info4 : (Try.prog.info? 4).map (fun i => (i.zero, i.size, i.bytes)) = some (some (.bool false), 1, 1) := by kernel_rfl

/-- A slice that reads as xs, in a block that j owns. -/
def ORow (w : World) (own : Nat → Nat) (j size : Nat) (A : Option Addr) (n : Nat) (xs : List Value) : Prop :=
  xs.length = n * size ∧ (0 < n → ∃ b off, A = some ⟨b, off, none⟩ ∧ b < w.heap.size ∧ own b = j ∧ ∀ q u, xs[q]? = some u → w.cell? ⟨b, off + q, none⟩ = some u)
section
variable {w w' : World} {own own' : Nat → Nat} {j l size n : Nat} {A : Option Addr} {xs : List Value}
theorem ORow.rd (h : ORow w own j size A n xs) : Rd w size A n xs := ⟨h.1, fun hn => by
  obtain ⟨b, off, e, _, _, hc⟩ := h.2 hn
  exact ⟨b, off, e, hc⟩⟩
theorem ORow.stepG (h : ORow w own j size A n xs) (st : StepG l w own w' own') (hj : j / 10 ≠ l) : ORow w' own' j size A n xs := ⟨h.1, fun hn => by
  obtain ⟨b, off, e, hb, ho, hc⟩ := h.2 hn
  have := st.other hj hb ho
  exact ⟨b, off, e, Nat.lt_of_lt_of_le hb st.size, this.2, fun q u hq => (World.cell?_of_block (w := w) this.1).trans (hc q u hq)⟩⟩
theorem Row.oRow {t : TypeId} (h : Row w own j t size A n xs) : ORow w own j size A n xs := ⟨h.1, fun hn => by
  obtain ⟨b, off, cs, e, ho, hb, hc⟩ := h.2 hn
  exact ⟨b, off, e, hb.lt, ho, fun q u hq => (hb.cell _).trans (hc q u hq)⟩⟩
end

def marks (s : BSt) : List Value := s.map fun q => .bool q.2
def pks (s : BSt) : List Value := pcells (s.map Prod.fst)
theorem marks_append (a b : BSt) : marks (a ++ b) = marks a ++ marks b := by simp [marks]
theorem pks_append (a b : BSt) : pks (a ++ b) = pks a ++ pks b := by simp [pks, pcells_append]
theorem marks_length (s : BSt) : (marks s).length = s.length := by simp [marks]
theorem pks_length (s : BSt) : (pks s).length = s.length * 3 := by simp [pks, pcells_length]
theorem marks_get (k : Nat) (s : BSt) (q : Pkt × Bool) (h : s[k]? = some q) : (marks s)[k]? = some (.bool q.2) := by simp [marks, h]
theorem pks_get (k : Nat) (s : BSt) (q : Pkt × Bool) (h : s[k]? = some q) : (pks s)[k * 3]? = some (.int .i64 q.1.src) ∧ (pks s)[k * 3 + 1]? = some (.int .i64 q.1.dst) ∧ (pks s)[k * 3 + 2]? = some (.string q.1.bytes) :=
  pcells_get k _ q.1 (by simp [h])
theorem marks_one (s : BSt) : ∀ u ∈ marks s, u.oneCell' = true := by
  intro u hu
  simp only [marks, List.mem_map] at hu
  obtain ⟨x, _, rfl⟩ := hu
  rfl
theorem pks_one (s : BSt) : ∀ u ∈ pks s, u.oneCell' = true := pcells_one _

/-- The reference's bag of group l at g stands as s: its block is owned by 10 l, its arrays by 10 l + 1 and 10 l + 2. -/
def RBagAt (w : World) (own : Nat → Nat) (l g : Nat) (s : BSt) : Prop :=
  own g = 10 * l ∧ s.length ≤ 4096 ∧ ∃ A c A2 c2, Blk w g 29 #[.slice A s.length c, .slice A2 s.length c2] ∧ Row w own (10 * l + 1) 39 3 A s.length (pks s) ∧ Row w own (10 * l + 2) 4 1 A2 s.length (marks s) ∧ s.length ≤ c ∧ c ≤ maxLen ∧ s.length ≤ c2 ∧ c2 ≤ maxLen

section
variable {w w' : World} {own own' : Nat → Nat} {l m g : Nat} {s : BSt}
theorem RBagAt.other (h : RBagAt w own l g s) (st : StepG m w own w' own') (hlm : l ≠ m) : RBagAt w' own' l g s := by
  obtain ⟨ho, hl, A, c, A2, c2, hb, hr, hr2, rest⟩ := h
  have h0 := st.other (j := 10 * l) (by omega) hb.lt ho
  exact ⟨h0.2, hl, A, c, A2, c2, hb.of_eq h0.1, hr.keep fun k hk ho => st.other (by omega) hk ho, hr2.keep fun k hk ho => st.other (by omega) hk ho, rest⟩
def RBagRet (l : Nat) (own : Nat → Nat) (w : World) (g : Nat) (v : Value) (s : BSt) (e : Ending) (w' : World) : Prop :=
  e = .returned v ∧ ∃ own', StepG l w own w' own' ∧ RBagAt w' own' l g s
theorem rthere_yes {A A2 : Option Addr} {n c n2 c2 : Nat} (hb : Blk w g 29 #[.slice A n c, .slice A2 n2 c2]) (k : Nat) (hk : k < n) :
    Calls Try.prog 26 #[.pointer (some ⟨g, 0, none⟩), .int .i64 (k : Int)] w fun e w' => e = .returned (.bool true) ∧ w = w' := by
  have h0 := hb.cell 0
  simp only [List.getElem?_toArray, List.getElem?_cons_zero] at h0
  clear hb
  go_enter Try.func26, Try.ntmps26
  go_wp2
  go_ret
  exact ⟨rfl, rfl⟩
theorem rthere_no {A A2 : Option Addr} {n c n2 c2 : Nat} (hb : Blk w g 29 #[.slice A n c, .slice A2 n2 c2]) (x : Int) (hx : x < 0 ∨ (n : Int) ≤ x) :
    Calls Try.prog 26 #[.pointer (some ⟨g, 0, none⟩), .int .i64 x] w fun e w' => e = .returned (.bool false) ∧ w = w' := by
  have h0 := hb.cell 0
  simp only [List.getElem?_toArray, List.getElem?_cons_zero] at h0
  clear hb
  rcases Int.lt_or_le x 0 with h1 | h1
  · have hd : decide (0 ≤ x) = false := by simp; omega
    go_enter Try.func26, Try.ntmps26
    go_wp2
    go_ret
    exact ⟨rfl, rfl⟩
  · have hd : decide (x < (n : Int)) = false := by simp; omega
    go_enter Try.func26, Try.ntmps26
    go_wp2
    go_ret
    exact ⟨rfl, rfl⟩
end

/-! ### append onto a copy, as a step of a region that draws -/
theorem step_onto {P : Program} {w0 w w1 : World} {ops : Array Oper} {o : Oper} {a : Act} {K : Act → World → Prop} {Q : Exit → Act → World → Prop} {E : Prop}
    (hg : o.guard = none) (s x : Operand) (t : TypeId) (hop : o.op = Op.call { callee := Callee.builtin Builtin.append, args := #[s, x], argTypes := #[t, t] })
    (e : TypeId) (i : TypeInfo) (z : Value) (size bytes : Nat) (ht : P.underlying t = some (.slice e)) (hi : P.info? e = some i) (hz : i.zero = some z)
    (hsize : i.size = size) (hby : i.bytes = bytes) (hzs : z.cells.size = size) (hsz : 0 < size)
    (A : Option Addr) (n c : Nat) (xs : List Value) (hs : a.eval s = .slice A n c) (hcp : Copied e size xs w0 A n c w) (hxl : xs.length = n * size) (hgr : w.grownBy w1 none)
    (b m c' : Nat) (t' : TypeId) (news : List Value) (hx : a.eval x = .slice (some ⟨b, 0, none⟩) m c') (hl : news.length = m * size) (hb : Blk w1 b t' news.toArray) (h1 : ∀ u ∈ news, u.oneCell' = true) (hm : 0 < m)
    (b1 : n + m ≤ maxLen) (b2 : (n + m) * bytes ≤ 140737488355328)
    (hK : ∀ A' c2 w', NewOwn e size (xs ++ news) w0 A' (n + m) c2 w' → K (a.put o.dst (.slice A' (n + m) c2)) w') :
    if Region.wanted o (yielded ops a.tmps) = true then Oper.wp P o a w1 K Q else E := by
  have hw : Region.wanted o (yielded ops a.tmps) = true := by simp [Region.wanted, hg]
  rw [if_pos hw]
  obtain ⟨A', c2, w', hrun, r1⟩ := run_onto (P := P) w1 t o.type e i z size bytes ht hi hz hsize hby hzs hsz A n c xs hcp hxl hgr b m c' t' news hl hb h1 hm b1 b2
  unfold Oper.wp
  simp [execOp, hop, resolve, invoke, builtin, hs, hx, hrun, Result.andThen]
  exact hK A' c2 w' r1
theorem grow_alloc {w w1 : World} (h : w.grownBy w1 none) (o : Obj) : w.grownBy (w1.alloc o) none := h.trans (World.grownBy_alloc w1 o none)
theorem grow_drew {w w1 : World} (h : w.grownBy w1 none) (n : Nat) : w.grownBy (w1.drewN n) none := h.trans (grown_drewN w1 n)
end Go.Proofs.Ytiipioifjjemoaa
