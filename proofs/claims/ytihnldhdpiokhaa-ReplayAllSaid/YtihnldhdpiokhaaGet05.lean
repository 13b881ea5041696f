/- The walk of the reference's Get: a key's value behind updates. -/
import Derived.Test.YtihnldhdpiokhaaUps
import Derived.Test.YtihnldhdpiokhaaApp44
import Derived.Test.YtihnldhdpiokhaaSto2
import Derived.Deep.RegionHeld3
import Derived.Deep.DrawnRows
import Derived.Deep.CutRange
import Derived.Deep.DeepCutAuto
import Derived.Deep.CutBlock
import Derived.Outline
namespace Go.Proofs.Ytihnldhdpiokhaa
open Go.RowKit
set_option linter.unusedVariables false
attribute [local go_sem ↓] Go.wp_at_zero Go.wp_at_succ

set_option maxHeartbeats 4000000 in
set_option maxRecDepth 10000 in
theorem get28 (ky : ByteArray) (A : Option Addr) (c : Nat) (l : List Upd) (w : World) (h : Rd w 4 A l.length (ucells l)) (hw : ∀ u ∈ l, UpdWf u) (hk : ky.size ≤ maxLen) (hn : l.length ≤ 1000000) :
    Calls Try.prog 28 #[.string ky, .slice A l.length c] w (NewRet w (vval (stOf l ky))) := by
  have H := Lib.hid h; clear h
  have Hw := Lib.hid hw; clear hw
  have Hk := Lib.hid hk; clear hk
  have hb1 := Blk.new (w.alloc (.cells #[.int .i64 0, .int .i64 0, .string { data := #[] }] 29)) 29 #[.int .i64 0, .int .i64 0, .string { data := #[] }]
  have hb0 := (Blk.new w 29 #[.int .i64 0, .int .i64 0, .string { data := #[] }]).alloc (.cells #[.int .i64 0, .int .i64 0, .string { data := #[] }] 29)
  rw [show (w.alloc (.cells #[.int .i64 0, .int .i64 0, .string { data := #[] }] 29)).heap.size = w.heap.size + 1 by simp] at hb1
  have Hb1 := Lib.hid hb1; clear hb1
  have Hb0 := Lib.hid hb0; clear hb0
  have hfin : ∀ (e : Ending) (w' : World) (v : Val), e = .returned (vval v) → stOf l ky = v → w.grownBy w' none → NewRet w (vval (stOf l ky)) e w' := fun e w' v h1 h2 h3 => by rw [h2]; exact ⟨h1, h3⟩
  have Hfin := Lib.hid hfin; clear hfin
  obtain ⟨n, hN⟩ : ∃ n, l.length = n := ⟨_, rfl⟩
  rw [hN] at hn ⊢
  have HN := Lib.hid hN; clear hN
  generalize hR : NewRet w (vval (stOf l ky)) = R at *
  clear hR
  go_enter Try.func28, Try.ntmps28
  go_wp2_with fail
  go_loopw [6] (fun v wr => ∃ k : Nat, k ≤ n ∧ v = .int .i64 k ∧ ∃ x : Val, Hid (stOf (l.take k) ky = x) ∧ Blk wr (w.heap.size + 1) 29 #[.int .i64 x.kind, .int .i64 x.n, .string x.s] ∧ Blk wr w.heap.size 29 #[.int .i64 0, .int .i64 0, .string { data := #[] }] ∧ w.grownBy wr none) (fun v _ => n - (intOf v).toNat)
  case atStart => exact ⟨0, by omega, rfl, zeroV, Lib.hid rfl, Hb1.out, Hb0.out, grown_al (grown_al (World.grownBy.refl _ _) _) _⟩
  case round =>
    obtain ⟨k, hkn, rfl, x, Hx, hb1, hb0, hg⟩ := hrel
    by_cases hlt : k < n
    · obtain ⟨b, off, u, rfl, hlu, c0, c1, c2, c3⟩ := upds_at H.out (k := k) (by rw [HN.out]; exact hlt)
      have hbw : b < w.heap.size := World.block_lt_of_cell? w _ c0
      have d0 := World.grownBy.cell hg c0 (by simp)
      have d1 := World.grownBy.cell hg c1 (by simp)
      have d2 := World.grownBy.cell hg c2 (by simp)
      have d3 := World.grownBy.cell hg c3 (by simp)
      clear c0 c1 c2 c3
      have hwf := Hw.out u (List.mem_of_getElem? hlu)
      have Hsn := Lib.hid (stOf_take l k u hlu)
      have hmay := fun W => may27 u W hwf.1 hwf.2.1
      have Hmay := Lib.hid hmay; clear hmay
      have hxo := AllOk.of (l.take k) ky
      rw [Hx.out] at hxo
      have happ := fun W (hm : mayU u = 0) => app44 x u W hxo hm
      clear hwf hlu hxo
      obtain ⟨uk, ukd, un, us⟩ := u
      dsimp only at d0 d1 d2 d3 Hmay Hsn happ
      have Hb1' := Lib.hid hb1; clear hb1
      have Hb0' := Lib.hid hb0; clear hb0
      have Hg := Lib.hid hg; clear hg
      by_cases hky : uk = ky
      · subst hky
        by_cases h0 : mayU ⟨uk, ukd, un, us⟩ = 0
        · have happ1 := fun W => happ W h0
          have hst : stOf (l.take (k + 1)) uk = applyV x ⟨uk, ukd, un, us⟩ := by
            rw [Hsn.out]
            show (if uk = uk ∧ mayU ⟨uk, ukd, un, us⟩ = 0 then applyV (stOf (l.take k) uk) ⟨uk, ukd, un, us⟩ else _) = _
            rw [if_pos ⟨rfl, h0⟩, Hx.out]
          rw [h0] at Hmay
          clear happ h0 Hsn
          obtain ⟨av, hav⟩ : ∃ av, applyV x ⟨uk, ukd, un, us⟩ = av := ⟨_, rfl⟩
          rw [hav] at hst happ1
          clear hav
          obtain ⟨x1, x2, x3⟩ := x
          obtain ⟨a1, a2, a3⟩ := av
          have happ2 : ∀ W, Calls Try.prog 44 #[.agg #[.int .i64 x1, .int .i64 x2, .string x3], .agg #[.string uk, .int .i64 ukd, .int .i64 un, .string us]] W (NewRet W (.agg #[.int .i64 a1, .int .i64 a2, .string a3])) := happ1
          have Happ := Lib.hid happ2; clear happ1 happ2
          have Hst := Lib.hid hst; clear hst
          go_wp2_with fail
          refine (Hmay.out _).mono ?_
          rintro e w5 ⟨rfl, hg5⟩
          have g0 := World.grownBy.cell hg5 d0 (by simp)
          have g1 := World.grownBy.cell hg5 d1 (by simp)
          have g2 := World.grownBy.cell hg5 d2 (by simp)
          have g3 := World.grownBy.cell hg5 d3 (by simp)
          have hb5 := Hb1'.out.grown hg5 (by simp)
          have k0 := hb5.cell 0
          have k1 := hb5.cell 1
          have k2 := hb5.cell 2
          simp only [List.getElem?_toArray, List.getElem?_cons_zero, List.getElem?_cons_succ] at k0 k1 k2
          have Hb5 := Lib.hid hb5; clear hb5
          have Hg5 := Lib.hid hg5; clear hg5
          clear d0 d1 d2 d3
          have hne : b ≠ w.heap.size + 1 := by omega
          have v0 : w5.drew.cell? ⟨b, off + k * 4, none⟩ = some (.string uk) := g0
          have v1 : w5.drew.cell? ⟨b, off + k * 4 + 1, none⟩ = some (.int .i64 ukd) := g1
          have v2 : w5.drew.cell? ⟨b, off + k * 4 + 2, none⟩ = some (.int .i64 un) := g2
          have v3 : w5.drew.cell? ⟨b, off + k * 4 + 3, none⟩ = some (.string us) := g3
          go_wp2_with fail
          go_region_with
           (first
            | (go_at_call 44
               with_reducible refine (Happ.out w5.drew).mono ?_
               rintro e w7 ⟨rfl, hg7⟩
               have y0 : w7.cell? ⟨b, off + k * 4, none⟩ = some (.string uk) := World.grownBy.cell hg7 g0 (by simp)
               have y1 : w7.cell? ⟨b, off + k * 4 + 1, none⟩ = some (.int .i64 ukd) := World.grownBy.cell hg7 g1 (by simp)
               have y2 : w7.cell? ⟨b, off + k * 4 + 2, none⟩ = some (.int .i64 un) := World.grownBy.cell hg7 g2 (by simp)
               have y3 : w7.cell? ⟨b, off + k * 4 + 3, none⟩ = some (.string us) := World.grownBy.cell hg7 g3 (by simp)
               have hb7 := (Hb5.out.drew).grown hg7 (by simp)
               have z0 : w7.cell? ⟨w.heap.size + 1, 0, none⟩ = some (.int .i64 x1) := hb7.cell 0
               have z1 : w7.cell? ⟨w.heap.size + 1, 1, none⟩ = some (.int .i64 x2) := hb7.cell 1
               have z2 : w7.cell? ⟨w.heap.size + 1, 2, none⟩ = some (.string x3) := hb7.cell 2
               have f0 := hb7.free 0
               have f1 := hb7.free 1
               have f2 := hb7.free 2
               have hend : Blk (((w7.setCell ⟨w.heap.size + 1, 0, none⟩ (.int .i64 a1)).setCell ⟨w.heap.size + 1, 1, none⟩ (.int .i64 a2)).setCell ⟨w.heap.size + 1, 2, none⟩ (.string a3)) (w.heap.size + 1) 29 #[.int .i64 a1, .int .i64 a2, .string a3] := by
                 have := ((hb7.set_ 0 (.int .i64 a1)).set_ 1 (.int .i64 a2)).set_ 2 (.string a3)
                 simpa using this
               have hend0 : Blk (((w7.setCell ⟨w.heap.size + 1, 0, none⟩ (.int .i64 a1)).setCell ⟨w.heap.size + 1, 1, none⟩ (.int .i64 a2)).setCell ⟨w.heap.size + 1, 2, none⟩ (.string a3)) w.heap.size 29 #[.int .i64 0, .int .i64 0, .string { data := #[] }] :=
                 (((((Hb0'.out.grown Hg5.out (by simp)).drew).grown hg7 (by simp)).far (by simp) _).far (by simp) _).far (by simp) _
               have hge := grown_set (grown_set (grown_set (grown_tr (grown_tr (grown_tr Hg.out Hg5.out) (grown_drewN w5 1)) hg7) (p := ⟨w.heap.size + 1, 0, none⟩) (Nat.le_succ _) (.int .i64 a1)) (p := ⟨w.heap.size + 1, 1, none⟩) (Nat.le_succ _) (.int .i64 a2)) (p := ⟨w.heap.size + 1, 2, none⟩) (Nat.le_succ _) (.string a3)
               have Hend := Lib.hid hend; have Hend0 := Lib.hid hend0; have Hge := Lib.hid hge
               clear hend hend0 hge hb7))
          all_goals
            go_wp2_with fail
            go_roundw
            case rel => exact ⟨k + 1, by omega, by go_num, ⟨a1, a2, a3⟩, Hst, Hend.out, Hend0.out, Hge.out⟩
            case measure => simp [intOf]; omega
        · have hst : stOf (l.take (k + 1)) uk = x := by
            rw [Hsn.out]
            show (if uk = uk ∧ mayU ⟨uk, ukd, un, us⟩ = 0 then applyV (stOf (l.take k) uk) ⟨uk, ukd, un, us⟩ else stOf (l.take k) uk) = _
            rw [if_neg (fun h => h0 h.2), Hx.out]
          have Hst := Lib.hid hst; clear hst happ Hsn
          obtain ⟨e, he⟩ : ∃ e, mayU ⟨uk, ukd, un, us⟩ = e := ⟨_, rfl⟩
          rw [he] at Hmay h0
          clear he
          have h0' : (e == 0) = false := by simpa using h0
          go_wp2_with fail
          refine (Hmay.out _).mono ?_
          rintro e' w5 ⟨rfl, hg5⟩
          have hb5 := Hb1'.out.grown hg5 (by simp)
          have hb6 := Hb0'.out.grown hg5 (by simp)
          have hg6 := grown_tr Hg.out hg5
          have Hb5 := Lib.hid hb5; have Hb6 := Lib.hid hb6; have Hg6 := Lib.hid hg6
          clear hb5 hb6 hg6 hg5
          go_wp2_with fail
          go_roundw
          case rel => exact ⟨k + 1, by omega, by go_num, x, Hst, Hb5.out, Hb6.out, Hg6.out⟩
          case measure => simp [intOf]; omega
      · have hst : stOf (l.take (k + 1)) ky = x := by
          rw [Hsn.out]
          show (if uk = ky ∧ mayU ⟨uk, ukd, un, us⟩ = 0 then applyV (stOf (l.take k) ky) ⟨uk, ukd, un, us⟩ else stOf (l.take k) ky) = _
          rw [if_neg (fun h => hky h.1), Hx.out]
        have Hst := Lib.hid hst; clear hst happ Hsn Hmay
        have hky' : ¬ uk.toList = ky.toList := fun h => hky (bytes_ext (by rw [← ByteArray.toList_eq, ← ByteArray.toList_eq, h]))
        clear hky
        go_wp2_with fail
        go_roundw
        case rel => exact ⟨k + 1, by omega, by go_num, x, Hst, Hb1'.out, Hb0'.out, Hg.out⟩
        case measure => simp [intOf]; omega
    · obtain rfl : k = n := by omega
      have Hg := Lib.hid hg; clear hg
      have c0 := hb1.cell 0
      have c1 := hb1.cell 1
      have c2 := hb1.cell 2
      have e0 := hb0.cell 0
      have e1 := hb0.cell 1
      have e2 := hb0.cell 2
      have f0 := hb0.free 0
      have f1 := hb0.free 1
      have f2 := hb0.free 2
      simp only [List.getElem?_toArray, List.getElem?_cons_zero, List.getElem?_cons_succ] at c0 c1 c2 e0 e1 e2
      obtain ⟨x1, x2, x3⟩ := x
      dsimp only at c0 c1 c2
      clear hb0 hb1
      go_wp2
      refine bodyPost_ret (v := vval ⟨x1, x2, x3⟩) (by simp [results, Try.results28, go_sem, e0, e1, e2]) rfl (Hfin.out _ _ ⟨x1, x2, x3⟩ rfl ?_ ?_)
      · rw [← Hx.out, List.take_of_length_le (by rw [HN.out]; exact Nat.le_refl _)]
      · exact grown_set (grown_set (grown_set Hg.out (Nat.le_refl _) _) (Nat.le_refl _) _) (Nat.le_refl _) _
end Go.Proofs.Ytihnldhdpiokhaa
