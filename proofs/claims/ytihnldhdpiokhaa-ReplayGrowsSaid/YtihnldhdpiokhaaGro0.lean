/- Appends inside a drawn region, behind a guard too. -/
import Derived.Test.YtihnldhdpiokhaaReads08
import Derived.Deep.CutRange
import Derived.Deep.DeepCutAuto
import Derived.Outline
namespace Go.Proofs.Ytihnldhdpiokhaa
open Go.RowKit
set_option linter.unusedVariables false

theorem step_copiedw {P : Program} {w : World} {ops : Array Oper} {o : Oper} {a : Act} {K : Act → World → Prop} {Q : Exit → Act → World → Prop} {E : Prop}
    (hw : Region.wanted o (yielded ops a.tmps) = true) (s x : Operand) (t : TypeId) (hop : o.op = Op.call { callee := Callee.builtin Builtin.append, args := #[s, x], argTypes := #[t, t] })
    (e : TypeId) (i : TypeInfo) (z : Value) (size bytes : Nat) (ht : P.underlying t = some (.slice e)) (hi : P.info? e = some i) (hz : i.zero = some z)
    (hsize : i.size = size) (hby : i.bytes = bytes) (hzs : z.cells.size = size) (hsz : 0 < size)
    (A0 A : Option Addr) (n c : Nat) (xs : List Value) (hs : a.eval s = .slice A0 0 0) (hx : a.eval x = .slice A n c) (hr : Rd w size A n xs) (h1 : ∀ u ∈ xs, u.oneCell' = true) (b1 : n ≤ maxLen) (b2 : n * bytes ≤ 140737488355328)
    (hK : ∀ A' cap' w', Copied e size xs w A' n cap' w' → K (a.put o.dst (.slice A' n cap')) w') :
    if Region.wanted o (yielded ops a.tmps) = true then Oper.wp P o a w K Q else E := by
  rw [if_pos hw]
  obtain ⟨A', cap', w', hrun, r1, r2, r3, r4, r5⟩ := run_copied (P := P) w t o.type e i z size bytes ht hi hz hsize hby hzs hsz A0 A n c xs hr h1 b1 b2
  unfold Oper.wp
  simp [execOp, hop, resolve, invoke, builtin, hs, hx, hrun, Result.andThen]
  exact hK A' cap' w' ⟨r1, r2, r3, r4, r5⟩

theorem run_onto2 {P : Program} {w0 w w1 : World} (t ty e : TypeId) (i : TypeInfo) (z : Value) (size bytes : Nat) (ht : P.underlying t = some (.slice e)) (hi : P.info? e = some i) (hz : i.zero = some z)
    (hsize : i.size = size) (hby : i.bytes = bytes) (hzs : z.cells.size = size) (hsz : 0 < size)
    (A : Option Addr) (n c : Nat) (xs : List Value) (hcp : Copied e size xs w0 A n c w) (hxl : xs.length = n * size) (hgr : w.grownBy w1 none)
    (A2 : Option Addr) (m c' : Nat) (news : List Value) (hr : Rd w1 size A2 m news) (h1 : ∀ u ∈ news, u.oneCell' = true)
    (b1 : n + m ≤ maxLen) (b2 : (n + m) * bytes ≤ 140737488355328) :
    ∃ A' c2 w', (Builtin.append_ #[t, t] ty #[.slice A n c, .slice A2 m c']).run P w1 = .ok (.slice A' (n + m) c2) w' ∧
      NewRow e size (xs ++ news) w0 A' (n + m) c2 w' := by
  rcases Nat.eq_zero_or_pos n with hn | hn
  · subst hn
    have hx : xs = [] := List.eq_nil_of_length_eq_zero (by simpa using hxl)
    subst hx
    have hc := hcp.zero rfl
    subst hc
    rw [Nat.zero_add] at b1 b2
    obtain ⟨A', cap', w', hrun, r1, r2, r3, r4, r5⟩ := run_copied (P := P) w1 t ty e i z size bytes ht hi hz hsize hby hzs hsz A A2 m c' news hr h1 b1 b2
    rw [Nat.zero_add]
    exact ⟨A', cap', w', hrun, (NewRow.of_copied ⟨r1, r2, r3, r4, r5⟩ hr.1).behind (grown_tr hcp.grown hgr)⟩
  · have hs0 : Step 1 w0 (fun _ => 0) w1 (give (fun _ => 0) w0.heap.size 1) := (((Step.refl 1 w0 (fun _ => 0)).give_ 1).grown hcp.grown (by simp)).grown hgr (by simp)
    obtain ⟨g, cs, rfl, q1, q2, q3, q4⟩ := hcp.row hn
    have hO : OwnS w1 (give (fun _ => 0) w0.heap.size 1) 1 e size (some ⟨g, 0, none⟩) n c xs := ⟨hxl, .inr ⟨g, cs, rfl, give_new q3, q1.grown hgr (by simp), hcp.le, hcp.max, q4, q2⟩⟩
    obtain ⟨A', c2, w', hrun, r1, r2⟩ := run_mine (P := P) w1 t ty e i z size bytes ht hi hz hsize hby hzs hsz _ 1 _ n c xs hO _ m c' news hr h1 b1 b2
    exact ⟨A', c2, w', hrun, NewRow.of_mine (hs0.trans r2) r1⟩

theorem step_onto2w {P : Program} {w0 w w1 : World} {ops : Array Oper} {o : Oper} {a : Act} {K : Act → World → Prop} {Q : Exit → Act → World → Prop} {E : Prop}
    (hw : Region.wanted o (yielded ops a.tmps) = true) (s x : Operand) (t : TypeId) (hop : o.op = Op.call { callee := Callee.builtin Builtin.append, args := #[s, x], argTypes := #[t, t] })
    (e : TypeId) (i : TypeInfo) (z : Value) (size bytes : Nat) (ht : P.underlying t = some (.slice e)) (hi : P.info? e = some i) (hz : i.zero = some z)
    (hsize : i.size = size) (hby : i.bytes = bytes) (hzs : z.cells.size = size) (hsz : 0 < size)
    (A : Option Addr) (n c : Nat) (xs : List Value) (hs : a.eval s = .slice A n c) (hcp : Copied e size xs w0 A n c w) (hxl : xs.length = n * size) (hgr : w.grownBy w1 none)
    (A2 : Option Addr) (m c' : Nat) (news : List Value) (hx : a.eval x = .slice A2 m c') (hr : Rd w1 size A2 m news) (h1 : ∀ u ∈ news, u.oneCell' = true)
    (b1 : n + m ≤ maxLen) (b2 : (n + m) * bytes ≤ 140737488355328)
    (hK : ∀ A' c2 w', NewRow e size (xs ++ news) w0 A' (n + m) c2 w' → K (a.put o.dst (.slice A' (n + m) c2)) w') :
    if Region.wanted o (yielded ops a.tmps) = true then Oper.wp P o a w1 K Q else E := by
  rw [if_pos hw]
  obtain ⟨A', c2, w', hrun, r1⟩ := run_onto2 (P := P) (w1 := w1) t o.type e i z size bytes ht hi hz hsize hby hzs hsz A n c xs hcp hxl hgr A2 m c' news hr h1 b1 b2
  unfold Oper.wp
  simp [execOp, hop, resolve, invoke, builtin, hs, hx, hrun, Result.andThen]
  exact hK A' c2 w' r1

theorem grow_alloc {w w1 : World} (h : w.grownBy w1 none) (o : Obj) : w.grownBy (w1.alloc o) none := h.trans (World.grownBy_alloc w1 o none)
end Go.Proofs.Ytihnldhdpiokhaa
