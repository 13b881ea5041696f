/- The walk of a round's Same. -/
import Derived.Test.YtihnldhdpiokhaaReads08
namespace Go.Proofs.Ytihnldhdpiokhaa
open Go.RowKit
set_option linter.unusedVariables false
attribute [local go_sem ↓] Go.wp_at_zero Go.wp_at_succ

set_option maxHeartbeats 4000000 in
set_option maxRecDepth 10000 in
theorem same18 (o1 n1 : Int) (A1 A2 : Option Addr) (c1 c2 m : Nat) (us : List Upd) (w : World) (h1 : Rd w 4 A1 m (ucells us)) (h2 : Rd w 4 A2 m (ucells us)) (hm : m ≤ 1000000) :
    Calls Try.prog 18 #[.agg #[.int .i64 o1, .int .i64 n1, .slice A1 m c1], .agg #[.int .i64 o1, .int .i64 n1, .slice A2 m c2]] w (BoolRet w true) := by
  have H1 := Lib.hid h1; have H2 := Lib.hid h2; clear h1 h2
  obtain ⟨W2, hW2⟩ : ∃ W2, W2 = (w.alloc (.cells #[.int .i64 o1, .int .i64 n1, .slice A1 m c1] 27)).alloc (.cells #[.int .i64 o1, .int .i64 n1, .slice A2 m c2] 27) := ⟨_, rfl⟩
  have g2 : w.grownBy W2 none := by rw [hW2]; exact grown_tr (World.grownBy_alloc w _ none) (World.grownBy_alloc _ _ none)
  have b1 : Blk W2 w.heap.size 27 #[.int .i64 o1, .int .i64 n1, .slice A1 m c1] := by rw [hW2]; exact (Blk.new w 27 _).alloc _
  have b2 : Blk W2 (w.heap.size + 1) 27 #[.int .i64 o1, .int .i64 n1, .slice A2 m c2] := by
    rw [hW2]
    have := Blk.new (w.alloc (.cells #[.int .i64 o1, .int .i64 n1, .slice A1 m c1] 27)) 27 #[.int .i64 o1, .int .i64 n1, .slice A2 m c2]
    rwa [show (w.alloc (.cells #[.int .i64 o1, .int .i64 n1, .slice A1 m c1] 27)).heap.size = w.heap.size + 1 by simp] at this
  have G2 := Lib.hid g2; have B1 := Lib.hid b1; have B2 := Lib.hid b2; have HW2 := Lib.hid hW2; clear g2 b1 b2 hW2
  go_enter Try.func18, Try.ntmps18
  go_wp2_with fail
  rw [← HW2.out]
  go_loopw [5] (fun v wr => ∃ k : Nat, k ≤ m ∧ v = .int .i64 k ∧ W2.grownBy wr none) (fun v _ => m - (intOf v).toNat)
  case atStart => exact ⟨0, by omega, rfl, World.grownBy.refl _ _⟩
  case round =>
    obtain ⟨k, hkm, rfl, hg⟩ := hrel
    have hb1 := B1.out.grown hg (by simp)
    have hb2 := B2.out.grown hg (by simp)
    have x2 := hb1.cell 2
    have y2 := hb2.cell 2
    simp only [List.getElem?_toArray, List.getElem?_cons_zero, List.getElem?_cons_succ] at x2 y2
    have Hg := Lib.hid hg
    by_cases hlt : k < m
    · obtain ⟨ba, oa, u, rfl, hlu, d0, d1, d2, d3⟩ := upds_atn (H1.out.kept (grown_tr G2.out hg) (by omega)) hlt
      obtain ⟨bb, ob, u', rfl, hlu', e0, e1, e2, e3⟩ := upds_atn (H2.out.kept (grown_tr G2.out hg) (by omega)) hlt
      obtain rfl : u = u' := by rw [hlu] at hlu'; injection hlu'
      have hk0 : (0 : Int) ≤ (k : Int) := by omega
      have hkm' : (k : Int) < (m : Int) := by omega
      clear hlu hlu' hg hb1 hb2
      obtain ⟨uk, ukd, un, us'⟩ := u
      dsimp only at d0 d1 d2 d3 e0 e1 e2 e3
      go_wp2_with fail
      go_quiet (fail)
      go_wp2_with fail
      go_roundw
      case rel => exact ⟨k + 1, by omega, by go_num, grown_tr Hg.out (grown_drewN wr _)⟩
      case measure => simp [intOf]; omega
    · obtain rfl : k = m := by omega
      clear hg hb1 hb2
      go_wp2
      go_ret
      exact ⟨rfl, grown_tr G2.out Hg.out⟩
end Go.Proofs.Ytihnldhdpiokhaa
