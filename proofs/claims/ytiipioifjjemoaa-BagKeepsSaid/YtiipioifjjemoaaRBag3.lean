/- The reference's bag: Take. -/
import Derived.Test.YtiipioifjjemoaaRBag0b
import Derived.Deep.CutRange
import Derived.Deep.DeepCutAuto
import Derived.Outline
namespace Go.Proofs.Ytiipioifjjemoaa
open Go.RowKit
set_option linter.unusedVariables false

theorem run_onto2 {P : Program} {w0 w w1 : World} (t ty e : TypeId) (i : TypeInfo) (z : Value) (size bytes : Nat) (ht : P.underlying t = some (.slice e)) (hi : P.info? e = some i) (hz : i.zero = some z)
    (hsize : i.size = size) (hby : i.bytes = bytes) (hzs : z.cells.size = size) (hsz : 0 < size)
    (A : Option Addr) (n c : Nat) (xs : List Value) (hcp : Copied e size xs w0 A n c w) (hxl : xs.length = n * size) (hgr : w.grownBy w1 none)
    (A2 : Option Addr) (m c' : Nat) (news : List Value) (hr : Rd w1 size A2 m news) (h1 : ∀ u ∈ news, u.oneCell' = true)
    (b1 : n + m ≤ maxLen) (b2 : (n + m) * bytes ≤ 140737488355328) :
    ∃ A' c2 w', (Builtin.append_ #[t, t] ty #[.slice A n c, .slice A2 m c']).run P w1 = .ok (.slice A' (n + m) c2) w' ∧
      NewRow e size (xs ++ news) w0 A' (n + m) c2 w' := by
  rcases Nat.eq_zero_or_pos n with hn | hn
  · subst hn
    have hx : xs = [] := List.eq_nil_of_length_eq_zero (by simpa using hxl)
    subst hx
    have hc := hcp.zero rfl
    subst hc
    rw [Nat.zero_add] at b1 b2
    obtain ⟨A', cap', w', hrun, r1, r2, r3, r4, r5⟩ := run_copied (P := P) w1 t ty e i z size bytes ht hi hz hsize hby hzs hsz A A2 m c' news hr h1 b1 b2
    rw [Nat.zero_add]
    exact ⟨A', cap', w', hrun, (NewRow.of_copied ⟨r1, r2, r3, r4, r5⟩ hr.1).behind (grown_tr hcp.grown hgr)⟩
  · have hs0 : Step 1 w0 (fun _ => 0) w1 (give (fun _ => 0) w0.heap.size 1) := (((Step.refl 1 w0 (fun _ => 0)).give_ 1).grown hcp.grown (by simp)).grown hgr (by simp)
    obtain ⟨g, cs, rfl, q1, q2, q3, q4⟩ := hcp.row hn
    have hO : OwnS w1 (give (fun _ => 0) w0.heap.size 1) 1 e size (some ⟨g, 0, none⟩) n c xs := ⟨hxl, .inr ⟨g, cs, rfl, give_new q3, q1.grown hgr (by simp), hcp.le, hcp.max, q4, q2⟩⟩
    obtain ⟨A', c2, w', hrun, r1, r2⟩ := run_mine (P := P) w1 t ty e i z size bytes ht hi hz hsize hby hzs hsz _ 1 _ n c xs hO _ m c' news hr h1 b1 b2
    exact ⟨A', c2, w', hrun, NewRow.of_mine (hs0.trans r2) r1⟩

theorem step_onto2 {P : Program} {w0 w w1 : World} {ops : Array Oper} {o : Oper} {a : Act} {K : Act → World → Prop} {Q : Exit → Act → World → Prop} {E : Prop}
    (hg : o.guard = none) (s x : Operand) (t : TypeId) (hop : o.op = Op.call { callee := Callee.builtin Builtin.append, args := #[s, x], argTypes := #[t, t] })
    (e : TypeId) (i : TypeInfo) (z : Value) (size bytes : Nat) (ht : P.underlying t = some (.slice e)) (hi : P.info? e = some i) (hz : i.zero = some z)
    (hsize : i.size = size) (hby : i.bytes = bytes) (hzs : z.cells.size = size) (hsz : 0 < size)
    (A : Option Addr) (n c : Nat) (xs : List Value) (hs : a.eval s = .slice A n c) (hcp : Copied e size xs w0 A n c w) (hxl : xs.length = n * size) (hgr : w.grownBy w1 none)
    (A2 : Option Addr) (m c' : Nat) (news : List Value) (hx : a.eval x = .slice A2 m c') (hr : Rd w1 size A2 m news) (h1 : ∀ u ∈ news, u.oneCell' = true)
    (b1 : n + m ≤ maxLen) (b2 : (n + m) * bytes ≤ 140737488355328)
    (hK : ∀ A' c2 w', NewRow e size (xs ++ news) w0 A' (n + m) c2 w' → K (a.put o.dst (.slice A' (n + m) c2)) w') :
    if Region.wanted o (yielded ops a.tmps) = true then Oper.wp P o a w1 K Q else E := by
  have hw : Region.wanted o (yielded ops a.tmps) = true := by simp [Region.wanted, hg]
  rw [if_pos hw]
  obtain ⟨A', c2, w', hrun, r1⟩ := run_onto2 (P := P) (w1 := w1) t o.type e i z size bytes ht hi hz hsize hby hzs hsz A n c xs hcp hxl hgr A2 m c' news hr h1 b1 b2
  unfold Oper.wp
  simp [execOp, hop, resolve, invoke, builtin, hs, hx, hrun, Result.andThen]
  exact hK A' c2 w' r1

theorem Rd.first {w : World} {size n k : Nat} {A : Option Addr} {xs : List Value} (h : Rd w size A n xs) (hk : k ≤ n) : Rd w size A k (xs.take (k * size)) := by
  refine ⟨by rw [List.length_take, h.1]; exact Nat.min_eq_left (Nat.mul_le_mul_right _ hk), fun hpos => ?_⟩
  obtain ⟨b, off, e, hc⟩ := h.2 (by omega)
  refine ⟨b, off, e, fun j u hu => ?_⟩
  rw [List.getElem?_take] at hu
  split at hu
  · exact hc j u hu
  · cases hu
theorem Rd.from_ {w : World} {size n p b off : Nat} {xs : List Value} (h : Rd w size (some ⟨b, off, none⟩) n xs) (hp : p ≤ n) : Rd w size (some ⟨b, off + p * size, none⟩) (n - p) (xs.drop (p * size)) := by
  refine ⟨by rw [List.length_drop, h.1, ← Nat.sub_mul], fun hpos => ?_⟩
  obtain ⟨b', off', e, hc⟩ := h.2 (by omega)
  injection e with e
  injection e with e1 e2
  subst e1; subst e2
  refine ⟨b, _, rfl, fun j u hu => ?_⟩
  rw [List.getElem?_drop] at hu
  have := hc _ u hu
  rwa [Nat.add_assoc]

theorem NewRow.behind' {e size n cap' : Nat} {xs : List Value} {w w1 w' : World} {A' : Option Addr} (h : NewRow e size xs w1 A' n cap' w') (hg : w.grownBy w1 none) : NewRow e size xs w A' n cap' w' := h.behind hg

section
variable {w : World} {own : Nat → Nat} {l g : Nat} {s : BSt}
theorem rbag_mkR {w2 w4 : World} {A A2 A' A2' : Option Addr} {n c c2 n' c' c2' : Nat} {s' : BSt} (ho : own g = 10 * l) (hb : Blk w g 29 #[.slice A n c, .slice A2 n c2]) (hl : s'.length = n') (hn : n' ≤ 4096)
    (h1 : NewRow 39 3 (pks s') w A' n' c' w2) (h2 : NewRow 4 1 (marks s') (w2.setCell ⟨g, 0, none⟩ (.slice A' n' c')) A2' n' c2' w4) (v : Value) :
    RBagRet l own w g v s' (.returned v) (w4.setCell ⟨g, 1, none⟩ (.slice A2' n' c2')) := by
  have hgl := hb.lt
  obtain ⟨own1, e1⟩ : ∃ own1, own1 = give own w.heap.size (10 * l + 1) := ⟨_, rfl⟩
  have r1 := (h1.row own w.heap.size (10 * l + 1) (Nat.le_refl _))
  rw [← e1] at r1
  have g1 : own1 g = 10 * l := by rw [e1, give_old hgl]; exact ho
  have st1 : StepG l w own w2 own1 := by
    rw [e1]
    exact StepG.of_grown l own h1.grown _
  have b1 := hb.grown h1.grown (by simp)
  obtain ⟨W3, eW⟩ : ∃ W3, W3 = w2.setCell ⟨g, 0, none⟩ (.slice A' n' c') := ⟨_, rfl⟩
  rw [← eW] at h2
  have stA : Step (10 * l) w2 own1 W3 own1 := by rw [eW]; exact (Step.refl _ _ _).setCell g1 _
  have b3 : Blk W3 g 29 #[.slice A' n' c', .slice A2 n c2] := by rw [eW]; exact b1.set_ 0 (.slice A' n' c')
  have r3 := r1.step stA (by omega)
  obtain ⟨own2, e2⟩ : ∃ own2, own2 = give own1 W3.heap.size (10 * l + 2) := ⟨_, rfl⟩
  have q1 := (h2.row own1 W3.heap.size (10 * l + 2) (Nat.le_refl _))
  rw [← e2] at q1
  have g2 : own2 g = 10 * l := by rw [e2, give_old b3.lt]; exact g1
  have st2 : StepG l W3 own1 w4 own2 := by
    rw [e2]
    exact StepG.of_grown l own1 h2.grown _
  have b4 := b3.grown h2.grown (by simp)
  have r4 : Row w4 own2 (10 * l + 1) 39 3 A' n' (pks s') := r3.keep fun k hk ho => ⟨h2.grown.block k hk (by simp), by rw [e2, give_old hk]; exact ho⟩
  have stB : Step (10 * l) w4 own2 (w4.setCell ⟨g, 1, none⟩ (.slice A2' n' c2')) own2 := (Step.refl _ _ _).setCell g2 _
  have b5 := b4.set_ 1 (.slice A2' n' c2')
  have r5 := r4.step stB (by omega)
  have q5 := q1.step stB (by omega)
  refine ⟨rfl, own2, ((st1.step stA (by omega)).trans st2).step stB (by omega), g2, by omega, A', c', A2', c2', ?_, ?_, ?_, ?_⟩
  · rw [hl]; exact b5
  · rw [hl]; exact r5
  · rw [hl]; exact q5
  · rw [hl]; exact ⟨h1.le, h1.max, h2.le, h2.max⟩
end
end Go.Proofs.Ytiipioifjjemoaa
