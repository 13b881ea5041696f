/- The walk of ReplayEchoes. -/
import Derived.Test.YtihnldhdpiokhaaSame18
namespace Go.Proofs.Ytihnldhdpiokhaa
open Go.RowKit
set_option linter.unusedVariables false
attribute [local go_sem ↓] Go.wp_at_zero Go.wp_at_succ

/-- the rounds said again: under one origin and one number, their updates in rows of their own -/
def EcAt (W : World) (own : Nat → Nat) (b nb : Int) (o : List Rnd) : Prop := ∀ x ∈ o, x.origin = b ∧ x.number = nb ∧ x.us.length ≤ x.c ∧ x.c ≤ maxLen ∧ Row W own 2 38 4 x.A x.us.length (ucells x.us)
theorem EcAt.step {W W' : World} {own own' : Nat → Nat} {b nb : Int} {o : List Rnd} (h : EcAt W own b nb o) (s : Step 1 W own W' own') : EcAt W' own' b nb o := fun x hx => by
  obtain ⟨h1, h2, h3, h4, h5⟩ := h x hx
  exact ⟨h1, h2, h3, h4, h5.step s (by omega)⟩
theorem flat_us : ∀ l : List Rnd, flat l = (l.map Rnd.us).flatten
  | [] => rfl
  | r :: l => by
    show r.us ++ flat l = _
    rw [flat_us l]
    rfl

set_option maxHeartbeats 8000000 in
set_option maxRecDepth 10000 in
theorem echoes08 {B : Option Addr} {p : Nat} {rs : List Rnd} {w : World} (h : Args0 w none 0 [] B p rs) (d : Nat) (key : ByteArray) (hk : key.size ≤ maxLen) (bb : Int) : Calls Try.prog 3 #[.string key, .slice B p d, .int .i64 bb] w (BoolRet w true) := by
  obtain ⟨j0, hj, hy0, hy1, hy2⟩ := info_parts Try.info27
  obtain ⟨i0, hi, hz0, hz1, hz2⟩ := info_parts Try.info38
  have H := Lib.hid h; have Hk := Lib.hid hk; clear h
  unfold maxLen at hk
  obtain ⟨nb, hnb⟩ : ∃ nb, IntKind.i64.wrap (-bb) = nb := ⟨_, rfl⟩
  go_enter Try.func3, Try.ntmps3
  go_wp2_with fail
  refine (awake14 w).mono ?_
  rintro e w1 ⟨rfl, hg1⟩
  have K1 := Lib.hid hg1; clear hg1
  go_wp2_with fail
  refine (great15 (H.out.grown K1.out) 0 d).mono ?_
  rintro e w2 ⟨rfl, hg2⟩
  have K2 := Lib.hid (grown_tr K1.out hg2); clear hg2
  cases hgc : great08 [] rs with
  | true =>
    go_wp2_with fail
    refine (awake14 w2).mono ?_
    rintro e w3 ⟨rfl, hg3⟩
    have K3 := Lib.hid (grown_tr K2.out hg3); clear hg3
    go_wp2
    go_ret
    exact ⟨rfl, K3.out⟩
  | false =>
    have harg := (H.out.grown K2.out).small hgc
    obtain ⟨hs1, hs2, hs3, hs4⟩ := great08_small hgc
    have hp12 : p ≤ 12 := by rw [← harg.lr]; exact hs2
    have Hs3 := Lib.hid hs3; have Hs4 := Lib.hid hs4
    have Ha := Lib.hid harg; clear hgc harg hs1 hs2 hs3 hs4
    by_cases hk100 : 100 < key.size
    · go_wp2_with fail
      refine (awake14 w2).mono ?_
      rintro e w3 ⟨rfl, hg3⟩
      have K3 := Lib.hid (grown_tr K2.out hg3); clear hg3
      go_wp2
      go_ret
      exact ⟨rfl, K3.out⟩
    · go_wp2_with fail
      go_loopw [7, 28] (fun v7 v wr => ∃ k : Nat, k ≤ p ∧ v = .int .i64 k ∧ ∃ (A1 : Option Addr) (c1 : Nat) (o : List Rnd) (own' : Nat → Nat), v7 = .slice A1 k c1 ∧ Hid (o.length = k ∧ o.map Rnd.us = (rs.take k).map Rnd.us) ∧ Step 1 w2 (fun _ => 0) wr own' ∧ OwnS wr own' 1 27 3 A1 k c1 (rcells o) ∧ Hid (EcAt wr own' bb nb o)) (fun _ v _ => p - (intOf v).toNat)
      case atStart => exact ⟨0, by omega, rfl, none, 0, [], fun _ => 0, rfl, Lib.hid ⟨rfl, rfl⟩, Step.refl _ _ _, OwnS.nil _ _ _ _ _, Lib.hid (fun x hx => by cases hx)⟩
      case round =>
        obtain ⟨k, hkp, rfl, A1, c1, o, own', rfl, Ho, st, hO, HE⟩ := hrel
        have hg := grown_of_step st (by omega)
        by_cases hlt : k < p
        · obtain ⟨b, off, r, rfl, hlr, d0, d1, d2⟩ := rnds_at (Ha.out.hr.kept hg (by omega)) hlt
          have hrmem := List.mem_of_getElem? hlr
          have hwf := (Ha.out.wr r hrmem).kept hg
          have hu20 := Hs3.out r hrmem
          have hmap : ∀ x : Rnd, x.us = r.us → (o ++ [x]).length = k + 1 ∧ (o ++ [x]).map Rnd.us = (rs.take (k + 1)).map Rnd.us := fun x hx => by
            rw [List.take_add_one, hlr, Option.toList_some, List.map_append, List.map_append, Ho.out.2, List.length_append, Ho.out.1]
            exact ⟨rfl, by simp [hx]⟩
          have Hmap := Lib.hid hmap; clear hmap hlr hrmem
          obtain ⟨ro, rn, rA, rc, us⟩ := r
          dsimp only at d0 d1 d2 hu20
          have hus := hwf.2.2.1
          dsimp only at hus
          obtain ⟨m, hm⟩ : ∃ m, us.length = m := ⟨_, rfl⟩
          rw [hm] at d2 hu20 hus
          have Hb := Lib.hid ((hus.alloc (by omega) (.cells #[.int .i64 ro, .int .i64 rn, .slice rA m rc] 27)).alloc (by omega) (.cells #[] 38))
          have Hm := Lib.hid hm; have Hst := Lib.hid st; have HO := Lib.hid hO
          have hgb := grown_al (World.grownBy_alloc wr (.cells #[.int .i64 ro, .int .i64 rn, .slice rA m rc] 27) none) (.cells #[] 38)
          have Hgb := Lib.hid hgb
          clear hm hus hwf hg hgb st hO
          go_wp2_with (first
            | (at_builtin; refine wpList_copied rfl (.tmp 35) (.tmp 37) 25 rfl 38 i0 (.agg #[.string ByteArray.empty, .int .i64 0, .int .i64 0, .string ByteArray.empty]) 4 48 Try.underlying25 hi hz0 hz1 hz2 rfl (by decide) _ rA m rc (ucells us) (by rfl) (by rfl) Hb.out (ucells_one us) (by unfold maxLen; omega) (by omega) ?_; intro A3 c3 w3 hcp; have Hcp := Lib.hid hcp; clear hcp)
            | (at_builtin; refine wpList_mine rfl (.tmp 40) (.tmp 42) 22 rfl 27 j0 (.agg #[.int .i64 0, .int .i64 0, .slice none 0 0]) 3 40 Try.underlying22 hj hy0 hy1 hy2 rfl (by decide) (give own' wr.heap.size 2) 1 A1 k c1 (rcells o) (by rfl) (HO.out.grown (grown_al (grown_al (grown_tr Hgb.out Hcp.out.grown) _) _) (Nat.le_refl _)) (some ⟨w3.heap.size + 1, 0, none⟩) 1 1 [.int .i64 bb, .int .i64 nb, .slice A3 m c3] (by rfl) (by
                have hb1 := Blk.new (w3.alloc (.cells #[.int .i64 bb, .int .i64 nb, .slice A3 m c3] 27)) 27 #[.int .i64 bb, .int .i64 nb, .slice A3 m c3]
                rw [show (w3.alloc (.cells #[.int .i64 bb, .int .i64 nb, .slice A3 m c3] 27)).heap.size = w3.heap.size + 1 by simp] at hb1
                exact Rd.of_blk hb1 rfl (fun q u h => by rw [← h]; simp)) (by simp [Value.oneCell']) (by unfold maxLen; omega) (by omega) ?_; intro A5 c5 w5 own5 hO5 st5; have HO5 := Lib.hid hO5; have Hst5 := Lib.hid st5; clear hO5 st5))
          have hs1 : Step 1 wr own' ((w3.alloc (.cells #[.int .i64 bb, .int .i64 nb, .slice A3 m c3] 27)).alloc (.cells #[.int .i64 bb, .int .i64 nb, .slice A3 m c3] 27)) (give own' wr.heap.size 2) := ((Step.refl 1 wr own').give_ 2).grown (grown_al (grown_al (grown_tr Hgb.out Hcp.out.grown) _) _) (by simp)
          have hrow := (NewRow.of_copied Hcp.out Hb.out.1).behind Hgb.out
          have hrow2 := (((hrow.row own' wr.heap.size 2 (Nat.le_refl _)).step ((Step.refl 1 w3 _).alloc (.cells #[.int .i64 bb, .int .i64 nb, .slice A3 m c3] 27)) (by omega)).step ((Step.refl 1 _ _).alloc (.cells #[.int .i64 bb, .int .i64 nb, .slice A3 m c3] 27)) (by omega)).step Hst5.out (by omega)
          have HE5 := Lib.hid (show EcAt w5 own5 bb nb (o ++ [⟨bb, nb, A3, c3, us⟩]) from fun x hx => by
            rcases List.mem_append.1 hx with hx | hx
            · exact (HE.out.step (hs1.trans Hst5.out)) x hx
            · rw [List.mem_singleton] at hx
              subst hx
              refine ⟨rfl, rfl, ?_, hrow.max, ?_⟩
              · show us.length ≤ c3; rw [Hm.out]; exact hrow.le
              · show Row w5 own5 2 38 4 A3 us.length (ucells us); rw [Hm.out]; exact hrow2)
          have HS5 := Lib.hid (Hst.out.trans (hs1.trans Hst5.out))
          have HR5 := Lib.hid (Hmap.out ⟨bb, nb, A3, c3, us⟩ rfl)
          have HO6 := Lib.hid (show OwnS w5 own5 1 27 3 A5 (k + 1) c5 (rcells (o ++ [⟨bb, nb, A3, c3, us⟩])) by rw [rcells_append, show rcells [(⟨bb, nb, A3, c3, us⟩ : Rnd)] = [.int .i64 bb, .int .i64 nb, .slice A3 m c3] by simp [rcells, rcells1, Hm.out]]; exact HO5.out)
          clear hs1 hrow hrow2 d0 d1 d2
          go_roundw
          case rel => exact ⟨k + 1, by omega, by go_num, A5, c5, o ++ [⟨bb, nb, A3, c3, us⟩], own5, rfl, HR5, HS5.out, HO6.out, HE5⟩
          case measure => simp [intOf]; omega
        · obtain rfl : k = p := by omega
          rw [show rs.take k = rs from List.take_of_length_le (by rw [Ha.out.lr]; exact Nat.le_refl _)] at Ho
          have hfl : flat o = flat rs := by rw [flat_us, flat_us, Ho.out.2]
          have hown : ArgsAt wr none 0 [] A1 k o := ⟨rfl, Rd.nil _ _ _, by simp, Ho.out.1, hO.row.rd, fun x hx => by
            obtain ⟨_, _, h3, h4, h5⟩ := HE.out x hx
            refine ⟨h3, h4, h5.rd, ?_⟩
            have : x.us ∈ o.map Rnd.us := List.mem_map.2 ⟨x, hx, rfl⟩
            rw [Ho.out.2] at this
            obtain ⟨y, hy, hyx⟩ := List.mem_map.1 this
            rw [← hyx]
            exact (Ha.out.wr y hy).2.2.2, by rw [List.append_nil, hfl]; have := Hs4.out; omega, by omega⟩
          obtain ⟨v, hv⟩ : ∃ v, stOf (flat rs ++ []) key = v := ⟨_, rfl⟩
          have hv2 : stOf (flat o ++ []) key = v := by rw [hfl]; exact hv
          obtain ⟨ts, hts⟩ := touch_exist (flat o)
          have Hpr := Lib.hid (show ∀ x ∈ o, x.origin = bb ∧ x.number = nb from fun x hx => ⟨(HE.out x hx).1, (HE.out x hx).2.1⟩)
          have Hpu := Lib.hid (show ∀ (j : Nat) (x r : Rnd), o[j]? = some x → rs[j]? = some r → x.us = r.us from fun j x r hx hr => by
            have h1 : (o.map Rnd.us)[j]? = some x.us := by rw [List.getElem?_map, hx]; rfl
            rw [Ho.out.2, List.getElem?_map, hr] at h1
            injection h1 with h1
            exact h1.symm)
          have hol := Ho.out.1
          have Hv := Lib.hid hv; have Hv2 := Lib.hid hv2; have Hts := Lib.hid hts; have Hown := Lib.hid hown; have K3 := Lib.hid (grown_tr K2.out hg); have Ha3 := Lib.hid (Ha.out.grown hg); have Hol := Lib.hid hol
          have Hfl := Lib.hid hfl
          clear hv hv2 hts hown hfl hol hg st hO HE Ho
          obtain ⟨v1, v2, v3⟩ := v
          go_wp2_with fail
          refine (read16 Hown.out 0 c1 key Hk.out ⟨v1, v2, v3⟩ Hv2.out).mono ?_
          rintro e w4 ⟨rfl, hg4⟩
          have g5 := grown_al hg4 (.cells #[.int .i64 v1, .int .i64 v2, .string v3] 29)
          have Hown5 := Lib.hid (Hown.out.grown g5); have K5 := Lib.hid (grown_tr K3.out g5); have Ha5 := Lib.hid (Ha3.out.grown g5)
          have HT := Lib.hid (Blk.new w4 29 #[.int .i64 v1, .int .i64 v2, .string v3])
          clear g5 hg4
          go_wp2_with fail
          refine (touched17 A1 c1 k o _ Hown5.out.lr Hown5.out.hr Hown5.out.wr (by rw [Hfl.out]; have := Hs4.out; omega) (by omega) Hts.out).mono ?_
          rintro e w7 ⟨At, ct, rfl, hnr⟩
          have K7 := Lib.hid (grown_tr K5.out hnr.grown); have Ha7 := Lib.hid (Ha5.out.grown hnr.grown); have Hown7 := Lib.hid (Hown5.out.grown hnr.grown)
          have HT7 := Lib.hid (HT.out.grown hnr.grown (by simp))
          clear hnr HT K5 Ha5 Hown5 K3 Ha3 Hown
          obtain ⟨wo, rfl⟩ : ∃ wo, wo = wr := ⟨_, rfl⟩
          go_wp2_with fail
          go_loopw [52] (fun v wr => ∃ i : Nat, i ≤ k ∧ v = .int .i64 i ∧ w7.grownBy wr none) (fun v _ => k - (intOf v).toNat)
          case atStart => exact ⟨0, by omega, rfl, World.grownBy.refl _ _⟩
          case round =>
            obtain ⟨i, hik, rfl, hg⟩ := hrel
            by_cases hlt2 : i < k
            · obtain ⟨b, off, r, rfl, hlr, d0, d1, d2⟩ := rnds_at (Ha7.out.hr.kept hg (by omega)) hlt2
              obtain ⟨b2, off2, x, rfl, hlx, e0, e1, e2⟩ := rnds_at (Hown7.out.hr.kept hg (by omega)) hlt2
              have hwr := (Ha7.out.wr r (List.mem_of_getElem? hlr)).kept hg
              have hwx := (Hown7.out.wr x (List.mem_of_getElem? hlx)).kept hg
              have hux := Hpu.out i x r hlx hlr
              obtain ⟨ho1, ho2⟩ := Hpr.out x (List.mem_of_getElem? hlx)
              have hu20 := Hs3.out r (List.mem_of_getElem? hlr)
              have h1 := hwr.2.2.1
              have h2 := hwx.2.2.1
              rw [hux] at h2 e2
              rw [ho1] at e0
              rw [ho2] at e1
              clear hwr hwx hux ho1 ho2 hlr hlx
              obtain ⟨ro, rn, rA, rc, us⟩ := r
              obtain ⟨xo, xn, xA, xc, xus⟩ := x
              dsimp only at d0 d1 d2 e0 e1 e2 hu20 h1 h2
              obtain ⟨m, hm⟩ : ∃ m, us.length = m := ⟨_, rfl⟩
              rw [hm] at d2 e2 hu20 h1 h2
              clear hm
              have hi0 : (0 : Int) ≤ (i : Int) := by omega
              have hik' : (i : Int) < (k : Int) := by omega
              have Hg := Lib.hid hg; have H1 := Lib.hid h1; have H2 := Lib.hid h2
              clear hg h1 h2
              go_wp2_with fail
              obtain ⟨W6, hW6⟩ : ∃ W6, W6 = wr.alloc (.cells #[.int .i64 ro, .int .i64 rn, .slice rA m rc] 27) := ⟨_, rfl⟩
              have b6 := Blk.new wr 27 #[.int .i64 ro, .int .i64 rn, .slice rA m rc]
              have hg6 := World.grownBy_alloc wr (.cells #[.int .i64 ro, .int .i64 rn, .slice rA m rc] 27) none
              rw [← hW6] at b6 hg6 ⊢
              clear hW6
              have hgd := grown_tr hg6 (show W6.grownBy W6.drew none from grown_drewN W6 1)
              have y2 : W6.drew.cell? ⟨wr.heap.size, 2, none⟩ = some (.slice rA m rc) := b6.cell 2
              have z0 := World.grownBy.cell hgd e0 (by simp)
              have z1 := World.grownBy.cell hgd e1 (by simp)
              have z2 := World.grownBy.cell hgd e2 (by simp)
              have Hsm := Lib.hid (same18 bb nb xA rA xc rc m us W6.drew (H2.out.kept hgd (by omega)) (H1.out.kept hgd (by omega)) (by omega))
              have Hgd := Lib.hid (grown_tr Hg.out hgd)
              clear b6 hg6 hgd d0 d1 d2 e0 e1 e2
              go_region_held3 (fun w' => w'.cell? ⟨wr.heap.size, 2, none⟩ = some (.slice rA m rc) ∧ w'.cell? ⟨b2, off2 + i * 3, none⟩ = some (.int .i64 bb) ∧ w'.cell? ⟨b2, off2 + i * 3 + 1, none⟩ = some (.int .i64 nb) ∧ w'.cell? ⟨b2, off2 + i * 3 + 2, none⟩ = some (.slice xA m xc)) (refine ⟨?_, ?_, ?_, ?_⟩ <;> with_reducible assumption)
               (first
                | (go_at_call 18
                   with_reducible refine Hsm.out.mono ?_
                   rintro e w8 ⟨rfl, hg8⟩
                   have u2 := World.grownBy.cell hg8 y2 (by simp)
                   have u3 := World.grownBy.cell hg8 z0 (by simp)
                   have u4 := World.grownBy.cell hg8 z1 (by simp)
                   have u5 := World.grownBy.cell hg8 z2 (by simp)))
              have Hend := Lib.hid (grown_tr Hgd.out hg8)
              clear hg8 y2 z0 z1 z2 u2 u3 u4 u5
              go_wp2_with fail
              go_roundw
              case rel => exact ⟨i + 1, by omega, by go_num, Hend.out⟩
              case measure => simp [intOf]; omega
            · obtain rfl : k = i := by omega
              have b6 := HT7.out.grown hg (by simp)
              have K8 := Lib.hid (grown_tr K7.out hg)
              have Hr := Lib.hid (read16 ((Ha7.out.grown hg).grown (show wr.grownBy wr.drew none from grown_drewN wr 1)) 0 d key Hk.out ⟨v1, v2, v3⟩ Hv.out)
              have y0 : wr.drew.cell? ⟨w4.heap.size, 0, none⟩ = some (.int .i64 v1) := b6.cell 0
              have y1 : wr.drew.cell? ⟨w4.heap.size, 1, none⟩ = some (.int .i64 v2) := b6.cell 1
              have y2 : wr.drew.cell? ⟨w4.heap.size, 2, none⟩ = some (.string v3) := b6.cell 2
              clear b6 hg
              go_wp2_with fail
              go_region_held3 (fun w' => w'.cell? ⟨w4.heap.size, 0, none⟩ = some (.int .i64 v1) ∧ w'.cell? ⟨w4.heap.size, 1, none⟩ = some (.int .i64 v2) ∧ w'.cell? ⟨w4.heap.size, 2, none⟩ = some (.string v3)) (refine ⟨?_, ?_, ?_⟩ <;> with_reducible assumption)
               (first
                | (go_at_call 16
                   with_reducible refine Hr.out.mono ?_
                   rintro e w9 ⟨rfl, hg9⟩
                   have z0 := World.grownBy.cell hg9 y0 (by simp)
                   have z1 := World.grownBy.cell hg9 y1 (by simp)
                   have z2 := World.grownBy.cell hg9 y2 (by simp)))
              have K9 := Lib.hid (grown_tr K8.out (grown_tr (show wr.grownBy wr.drew none from grown_drewN wr 1) hg9))
              clear hg9 y0 y1 y2 z0 z1 z2
              go_wp2
              go_ret
              exact ⟨rfl, K9.out⟩
end Go.Proofs.Ytihnldhdpiokhaa
