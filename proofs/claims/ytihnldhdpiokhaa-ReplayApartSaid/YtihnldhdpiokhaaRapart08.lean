/- The walk of ReplayApart. -/
import Derived.Test.YtihnldhdpiokhaaReads08
namespace Go.Proofs.Ytihnldhdpiokhaa
open Go.RowKit
set_option linter.unusedVariables false
attribute [local go_sem ↓] Go.wp_at_zero Go.wp_at_succ

def hits (key : ByteArray) (r : Rnd) : Bool := r.us.any fun u => decide (mayU u = 0) && decide (u.key = key)
theorem hits_iff (key : ByteArray) (r : Rnd) : hits key r = true ↔ touchP (flat [r]) key := by
  simp [hits, touchP, flat, List.any_eq_true]
def fR (key : ByteArray) (l : List Rnd) : List Rnd := l.filter (hits key)
theorem fR_take {key : ByteArray} {l : List Rnd} {k : Nat} {r : Rnd} (h : l[k]? = some r) : fR key (l.take (k + 1)) = fR key (l.take k) ++ if hits key r then [r] else [] := by
  rw [List.take_add_one, h, Option.toList_some, fR, List.filter_append]
  congr 1
  cases hh : hits key r <;> simp [hh]
theorem stFrom_miss {key : ByteArray} : ∀ (us : List Upd) (m : Vals), (∀ u ∈ us, ¬ (u.key = key ∧ mayU u = 0)) → stFrom m us key = m key
  | [], _, _ => rfl
  | u :: us, m, h => by
    show stFrom (doM m u) us key = _
    rw [stFrom_miss us _ (fun x hx => h x (by simp [hx]))]
    unfold doM
    rw [if_neg (h u (by simp))]
theorem fR_same (key : ByteArray) : ∀ (l : List Rnd) (m m' : Vals), m key = m' key → stFrom m (flat (fR key l)) key = stFrom m' (flat l) key
  | [], _, _, h => h
  | r :: l, m, m', h => by
    show _ = stFrom m' (r.us ++ flat l) key
    rw [stFrom_append]
    cases hh : hits key r with
    | true =>
      rw [show fR key (r :: l) = r :: fR key l by simp [fR, hh]]
      show stFrom m (r.us ++ flat (fR key l)) key = _
      rw [stFrom_append]
      exact fR_same key l _ _ (stFrom_cong key r.us m m' h)
    | false =>
      rw [show fR key (r :: l) = fR key l by simp [fR, hh]]
      refine fR_same key l _ _ (h.trans (stFrom_miss r.us m' fun u hu e => ?_).symm)
      have : hits key r = true := by
        simp only [hits, List.any_eq_true]
        exact ⟨u, hu, by simp [e.1, e.2]⟩
      rw [hh] at this
      cases this
theorem fR_is (key : ByteArray) (l : List Rnd) : stOf (flat (fR key l) ++ []) key = stOf (flat l ++ []) key := by
  rw [List.append_nil, List.append_nil]
  exact fR_same key l noVals noVals rfl

/-- what stands while the rounds that touch a key are told -/
def Ap (w : World) (A1 : Option Addr) (a c1 : Nat) (o : List Rnd) (wr : World) (own' : Nat → Nat) : Prop := Step 1 w (fun _ => 0) wr own' ∧ OwnS wr own' 1 27 3 A1 a c1 (rcells o)
open Classical in
set_option maxHeartbeats 8000000 in
set_option maxRecDepth 10000 in
theorem rapart08 {B : Option Addr} {p : Nat} {rs : List Rnd} {w : World} (h : Args0 w none 0 [] B p rs) (d : Nat) (key : ByteArray) (hk : key.size ≤ maxLen) : Calls Try.prog 13 #[.string key, .slice B p d] w (BoolRet w true) := by
  obtain ⟨j0, hj, hy0, hy1, hy2⟩ := info_parts Try.info27
  have H := Lib.hid h; have Hk := Lib.hid hk; clear h
  unfold maxLen at hk
  go_enter Try.func13, Try.ntmps13
  go_wp2_with fail
  refine (awake14 w).mono ?_
  rintro e w1 ⟨rfl, hg1⟩
  have K1 := Lib.hid hg1; clear hg1
  go_wp2_with fail
  refine (great15 (H.out.grown K1.out) 0 d).mono ?_
  rintro e w2 ⟨rfl, hg2⟩
  have K2 := Lib.hid (grown_tr K1.out hg2); clear hg2
  cases hgc : great08 [] rs with
  | true =>
    go_wp2_with fail
    refine (awake14 w2).mono ?_
    rintro e w3 ⟨rfl, hg3⟩
    have K3 := Lib.hid (grown_tr K2.out hg3); clear hg3
    go_wp2
    go_ret
    exact ⟨rfl, K3.out⟩
  | false =>
    have harg := (H.out.grown K2.out).small hgc
    obtain ⟨hs1, hs2, hs3, hs4⟩ := great08_small hgc
    have hp12 : p ≤ 12 := by rw [← harg.lr]; exact hs2
    have Hs3 := Lib.hid hs3
    have Ha := Lib.hid harg; clear hgc harg hs1 hs2 hs3 hs4
    by_cases hk100 : 100 < key.size
    · go_wp2_with fail
      refine (awake14 w2).mono ?_
      rintro e w3 ⟨rfl, hg3⟩
      have K3 := Lib.hid (grown_tr K2.out hg3); clear hg3
      go_wp2
      go_ret
      exact ⟨rfl, K3.out⟩
    · go_wp2_with fail
      go_loopw [5, 25] (fun v5 v wr => ∃ k : Nat, k ≤ p ∧ v = .int .i64 k ∧ ∃ (A1 : Option Addr) (c1 a : Nat) (o : List Rnd) (own' : Nat → Nat), v5 = .slice A1 a c1 ∧ Hid (fR key (rs.take k) = o ∧ o.length = a) ∧ a ≤ k ∧ Ap w2 A1 a c1 o wr own') (fun _ v _ => p - (intOf v).toNat)
      case atStart => exact ⟨0, by omega, rfl, none, 0, 0, [], fun _ => 0, rfl, Lib.hid ⟨rfl, rfl⟩, by omega, Step.refl _ _ _, OwnS.nil _ _ _ _ _⟩
      case round =>
        obtain ⟨k, hkp, rfl, A1, c1, a, o, own', rfl, Ho, hak, st, hO⟩ := hrel
        have hg := grown_of_step st (by omega)
        by_cases hlt : k < p
        · obtain ⟨b, off, r, rfl, hlr, d0, d1, d2⟩ := rnds_at (Ha.out.hr.kept hg (by omega)) hlt
          have hrmem := List.mem_of_getElem? hlr
          have hwf := (Ha.out.wr r hrmem).kept hg
          have hft := fR_take (key := key) hlr
          rw [Ho.out.1] at hft
          have hu20 := Hs3.out r hrmem
          have hcr := rfl (a := [Value.int .i64 r.origin, .int .i64 r.number, .slice r.A r.us.length r.c])
          obtain ⟨ts, hts⟩ := touch_exist (flat [r])
          have hmem : ∀ x, x ∈ ts ↔ touchP (flat [r]) x := hts.mem
          have hhit : key ∈ ts ↔ hits key r = true := (hts.mem key).trans (hits_iff key r).symm
          have hnd := hts.nodup
          have hg3 : wr.grownBy ((wr.alloc (.cells #[.int .i64 r.origin, .int .i64 r.number, .slice r.A r.us.length r.c] 27)).alloc (.cells #[.int .i64 r.origin, .int .i64 r.number, .slice r.A r.us.length r.c] 27)) none := grown_al (World.grownBy_alloc _ _ _) _
          have htc := touched17 (some ⟨wr.heap.size + 1, 0, none⟩) 1 1 [r] ((wr.alloc (.cells #[.int .i64 r.origin, .int .i64 r.number, .slice r.A r.us.length r.c] 27)).alloc (.cells #[.int .i64 r.origin, .int .i64 r.number, .slice r.A r.us.length r.c] 27)) rfl
            (by
              have hb := Blk.new (wr.alloc (.cells #[.int .i64 r.origin, .int .i64 r.number, .slice r.A r.us.length r.c] 27)) 27 #[.int .i64 r.origin, .int .i64 r.number, .slice r.A r.us.length r.c]
              rw [show (wr.alloc (.cells #[.int .i64 r.origin, .int .i64 r.number, .slice r.A r.us.length r.c] 27)).heap.size = wr.heap.size + 1 by simp] at hb
              exact Rd.of_blk hb rfl (fun j u hu => by rw [← hu]; simp [rcells, rcells1]))
            (fun r' hr' => by rw [List.mem_singleton] at hr'; subst hr'; exact hwf.kept hg3) (by simp [flat]; omega) (by omega) hts
          have hbr := (Blk.new wr 27 #[.int .i64 r.origin, .int .i64 r.number, .slice r.A r.us.length r.c]).alloc (.cells #[.int .i64 r.origin, .int .i64 r.number, .slice r.A r.us.length r.c] 27)
          clear hwf hlr hrmem hu20 hcr hts hg
          obtain ⟨rr, hrr⟩ : ∃ rr, rr = r := ⟨_, rfl⟩
          rw [← hrr] at hft hhit
          have hrc : rcells [rr] = [.int .i64 r.origin, .int .i64 r.number, .slice r.A r.us.length r.c] := by rw [hrr]; rfl
          clear hrr hmem
          obtain ⟨ro, rn, rA, rc, us⟩ := r
          dsimp only at d0 d1 d2 htc hbr hrc hg3
          obtain ⟨m, hm⟩ : ∃ m, us.length = m := ⟨_, rfl⟩
          rw [hm] at d2 htc hbr hrc hg3
          clear hm
          obtain ⟨tl, htl⟩ : ∃ tl, ts.length = tl := ⟨_, rfl⟩
          have Hft := Lib.hid hft; have Hhit := Lib.hid hhit; have Hnd := Lib.hid hnd; have Htc := Lib.hid htc; have Hbr := Lib.hid hbr; have Hrc := Lib.hid hrc; have Hg3 := Lib.hid hg3; have Htl := Lib.hid htl
          have Hst := Lib.hid st; have HO := Lib.hid hO
          clear hft hhit hnd htc hbr hrc hg3 htl st hO
          go_wp2_with fail
          refine Htc.out.mono ?_
          rintro e w4 ⟨At, ct, rfl, hnr⟩
          rw [Htl.out] at hnr ⊢
          have htlm : tl ≤ 2 ^ 63 - 1 := by
            have h1 := hnr.le; have h2 := hnr.max
            unfold maxLen at h2
            omega
          obtain ⟨wo, rfl⟩ : ∃ wo, wo = wr := ⟨_, rfl⟩
          have hg4 := grown_tr Hg3.out hnr.grown
          have hst4 : Step 1 w2 (fun _ => 0) w4 (give own' wo.heap.size 2) := (Hst.out.give_ 2).grown hg4 (by simp)
          have hO4 : OwnS w4 (give own' wo.heap.size 2) 1 27 3 A1 a c1 (rcells o) := HO.out.grown hg4 (Nat.le_refl _)
          have hrow4 := hnr.row own' wo.heap.size 2 (by simp; omega)
          have hb4 := Hbr.out.grown hnr.grown (by simp)
          have hown4 : (give own' wo.heap.size 2) wo.heap.size = 2 := give_new (Nat.le_refl _)
          have Hst4 := Lib.hid hst4; have HO4 := Lib.hid hO4; have Hrow4 := Lib.hid hrow4; have Hb4 := Lib.hid hb4; have Hown4 := Lib.hid hown4
          clear hst4 hO4 hrow4 hb4 hown4 hnr hg4 Htc Hbr Hst HO Hg3 d0 d1 d2
          go_wp2_with fail
          go_loopw [5, 33] (fun v5 v wx => ∃ j : Nat, j ≤ tl ∧ v = .int .i64 j ∧ ∃ (A2 : Option Addr) (c2 a2 : Nat) (o2 : List Rnd) (own2 : Nat → Nat), v5 = .slice A2 a2 c2 ∧ Hid (o2 = o ++ (if key ∈ ts.take j then [rr] else []) ∧ o2.length = a2) ∧ a2 ≤ k + 1 ∧ Hid (Ap w2 A2 a2 c2 o2 wx own2) ∧ Hid (Row wx own2 2 9 1 At tl (ts.map Value.string)) ∧ Hid (own2 wo.heap.size = 2 ∧ Blk wx wo.heap.size 27 #[.int .i64 ro, .int .i64 rn, .slice rA m rc])) (fun _ v _ => tl - (intOf v).toNat)
          case atStart => exact ⟨0, by omega, rfl, A1, c1, a, o, give own' wo.heap.size 2, rfl, Lib.hid ⟨by simp, Ho.out.2⟩, by omega, Lib.hid ⟨Hst4.out, HO4.out⟩, Hrow4, Lib.hid ⟨Hown4.out, Hb4.out⟩⟩
          case round =>
            clear Hst4 HO4 Hrow4 Hb4 Hown4
            obtain ⟨j, hjt, rfl, A2, c2, a2, o2, own2, rfl, Ho2, ha2, Hap, Hrow, Hblk⟩ := hrel
            by_cases hlt2 : j < tl
            · obtain ⟨bt, ot, s, rfl, hsj, y0⟩ := str_at Hrow.out.rd hlt2
              have z0 := Hblk.out.2.cell 0
              have z1 := Hblk.out.2.cell 1
              have z2 := Hblk.out.2.cell 2
              simp only [List.getElem?_toArray, List.getElem?_cons_zero, List.getElem?_cons_succ] at z0 z1 z2
              have hj0 : (0 : Int) ≤ (j : Int) := by omega
              have hjt' : (j : Int) < (tl : Int) := by omega
              have htk : ts.take (j + 1) = ts.take j ++ [s] := by rw [List.take_add_one, hsj, Option.toList_some]
              by_cases hky : s = key
              · subst hky
                have hno : s ∉ ts.take j := by
                  intro hin
                  have hn := Hnd.out
                  rw [← List.take_append_drop (j + 1) ts, htk] at hn
                  have := (List.nodup_append.1 hn).1
                  have := (List.nodup_append.1 this).2.2 s hin s (by simp)
                  exact this rfl
                have hoo : o2 = o := by rw [Ho2.out.1, if_neg hno, List.append_nil]
                have hrel2 : o2 ++ [rr] = o ++ (if s ∈ ts.take (j + 1) then [rr] else []) ∧ (o2 ++ [rr]).length = a2 + 1 := by
                  rw [htk, if_pos (by simp), hoo]
                  exact ⟨rfl, by rw [List.length_append, ← hoo, Ho2.out.2]; rfl⟩
                have hak2 : a2 ≤ k := by rw [← Ho2.out.2, hoo, Ho.out.2]; exact hak
                have Hrel2 := Lib.hid hrel2
                clear hrel2 hoo hno htk hsj
                go_wp2_with (at_builtin; refine wpList_mine rfl (.tmp 40) (.tmp 42) 22 rfl 27 j0 (.agg #[.int .i64 0, .int .i64 0, .slice none 0 0]) 3 40 Try.underlying22 hj hy0 hy1 hy2 rfl (by decide) own2 1 A2 a2 c2 (rcells o2) (by rfl) (Hap.out.2.alloc _) (some ⟨wr.heap.size, 0, none⟩) 1 1 [.int .i64 ro, .int .i64 rn, .slice rA m rc] (by rfl) (Rd.of_blk (Blk.new wr 27 #[.int .i64 ro, .int .i64 rn, .slice rA m rc]) rfl (fun q u h => by rw [← h]; simp)) (by simp [Value.oneCell']) (by unfold maxLen; omega) (by omega) ?_; intro A5 c5 w5 own5 hO5 st5; have HO5 := Lib.hid hO5; have Hst5 := Lib.hid st5; clear hO5 st5)
                have hs1 : Step 1 wr own2 w5 own5 := ((Step.refl 1 wr own2).alloc _).trans Hst5.out
                have HA := Lib.hid (show Ap w2 A5 (a2 + 1) c5 (o2 ++ [rr]) w5 own5 from ⟨Hap.out.1.trans hs1, by rw [rcells_append, Hrc.out]; exact HO5.out⟩)
                have HR := Lib.hid (Hrow.out.step hs1 (by omega))
                have hbo := hs1.other (j := 2) (by omega) Hblk.out.2.lt Hblk.out.1
                have HB := Lib.hid (And.intro hbo.2 (Hblk.out.2.of_eq hbo.1))
                clear hs1 hbo
                go_roundw
                case rel => exact ⟨j + 1, by omega, by go_num, A5, c5, a2 + 1, o2 ++ [rr], own5, rfl, Hrel2, by omega, HA, HR, HB⟩
                case measure => simp [intOf]; omega
              · have hrel2 : o2 = o ++ (if key ∈ ts.take (j + 1) then [rr] else []) ∧ o2.length = a2 := by
                  refine ⟨?_, Ho2.out.2⟩
                  rw [Ho2.out.1, htk]
                  congr 1
                  by_cases hin : key ∈ ts.take j
                  · rw [if_pos hin, if_pos (List.mem_append_left _ hin)]
                  · rw [if_neg hin, if_neg (fun h => (List.mem_append.1 h).elim hin fun h => hky (List.mem_singleton.1 h).symm)]
                have Hrel2 := Lib.hid hrel2
                have t1 : ¬ s.toList = key.toList := fun h => hky (bytes_ext (by rw [← ByteArray.toList_eq, ← ByteArray.toList_eq, h]))
                have t2 := same_no hky
                clear hrel2 htk hsj hky
                go_wp2_with fail
                go_roundw
                case rel => exact ⟨j + 1, by omega, by go_num, A2, c2, a2, o2, own2, rfl, Hrel2, by omega, Hap, Hrow, Hblk⟩
                case measure => simp [intOf]; omega
            · obtain rfl : j = tl := by omega
              have hrel3 : fR key (rs.take (k + 1)) = o2 ∧ o2.length = a2 := by
                refine ⟨?_, Ho2.out.2⟩
                rw [Hft.out, Ho2.out.1, show ts.take j = ts from List.take_of_length_le (by rw [Htl.out]; exact Nat.le_refl _)]
                congr 1
                by_cases hin : key ∈ ts
                · rw [if_pos hin, if_pos (Hhit.out.1 hin)]
                · rw [if_neg hin, if_neg (fun h => hin (Hhit.out.2 h))]
              have Hrel3 := Lib.hid hrel3; clear hrel3
              go_wp2_with fail
              go_roundw
              case rel => exact ⟨k + 1, by omega, by go_num, A2, c2, a2, o2, own2, rfl, Hrel3, by omega, Hap.out⟩
              case measure => simp [intOf]; omega
        · obtain rfl : k = p := by omega
          rw [show rs.take k = rs from List.take_of_length_le (by rw [Ha.out.lr]; exact Nat.le_refl _)] at Ho
          obtain ⟨v, hv⟩ : ∃ v, stOf (flat rs ++ []) key = v := ⟨_, rfl⟩
          have hfo : stOf (flat o ++ []) key = v := by rw [← hv, ← Ho.out.1]; exact fR_is key rs
          have hz : a = 0 → v = ⟨0, 0, ByteArray.empty⟩ := by
            intro h0
            rw [← hfo, List.eq_nil_of_length_eq_zero (Ho.out.2.trans h0)]
            rfl
          have hmo : ∀ r ∈ o, r ∈ rs := fun r hr => by rw [← Ho.out.1] at hr; exact (List.mem_filter.1 hr).1
          have hfs := flat_small (l := o) fun r hr => Hs3.out r (hmo r hr)
          rw [Ho.out.2] at hfs
          have hown : ArgsAt wr none 0 [] A1 a o := ⟨rfl, Rd.nil _ _ _, by simp, Ho.out.2, hO.row.rd, fun r hr => (Ha.out.wr r (hmo r hr)).kept hg, by rw [List.append_nil]; omega, by omega⟩
          have Hv := Lib.hid hv; have Hfo := Lib.hid hfo; have Hown := Lib.hid hown; have K3 := Lib.hid (grown_tr K2.out hg); have Ha3 := Lib.hid (Ha.out.grown hg)
          clear hv hfo hmo hfs hown st hO Ho
          obtain ⟨v1, v2, v3⟩ := v
          by_cases ha0 : 0 < a
          · have q1 : decide ((0 : Int) < (a : Int)) = true := decide_eq_true (by omega)
            clear hz
            go_wp2_with fail
            refine (read16 Ha3.out 0 d key Hk.out ⟨v1, v2, v3⟩ Hv.out).mono ?_
            rintro e w5 ⟨rfl, hg5⟩
            have K5 := Lib.hid (grown_tr K3.out hg5); have Hown5 := Lib.hid (Hown.out.grown hg5)
            clear hg5 hg
            go_wp2_with fail
            obtain ⟨W6, hW6⟩ : ∃ W6, W6 = w5.alloc (.cells #[.int .i64 v1, .int .i64 v2, .string v3] 29) := ⟨_, rfl⟩
            have b6 := Blk.new w5 29 #[.int .i64 v1, .int .i64 v2, .string v3]
            have hg6 := World.grownBy_alloc w5 (.cells #[.int .i64 v1, .int .i64 v2, .string v3] 29) none
            rw [← hW6] at b6 hg6 ⊢
            clear hW6
            have y0 : W6.drew.cell? ⟨w5.heap.size, 0, none⟩ = some (.int .i64 v1) := b6.cell 0
            have y1 : W6.drew.cell? ⟨w5.heap.size, 1, none⟩ = some (.int .i64 v2) := b6.cell 1
            have y2 : W6.drew.cell? ⟨w5.heap.size, 2, none⟩ = some (.string v3) := b6.cell 2
            have K6 := Lib.hid (grown_tr K5.out hg6)
            have Hr := Lib.hid (read16 ((Hown5.out.grown hg6).grown (show W6.grownBy W6.drew none from grown_drewN W6 1)) 0 c1 key Hk.out ⟨v1, v2, v3⟩ Hfo.out)
            clear b6 hg6
            refine wp_region_held_drew (S := fun w' => w'.cell? ⟨w5.heap.size, 0, none⟩ = some (.int .i64 v1) ∧ w'.cell? ⟨w5.heap.size, 1, none⟩ = some (.int .i64 v2) ∧ w'.cell? ⟨w5.heap.size, 2, none⟩ = some (.string v3)) (by kernel_rfl) ⟨y0, y1, y2⟩ (fun hHeld => ?_)
            refine wpAnyH_take (i := 0) (v := ?_) rfl (by kernel_rfl) (by kernel_rfl) (by kernel_rfl) (fun _ _ _ h => h) (Or.inl ⟨by rfl, ?_⟩) (by assumption) ?_
            rotate_left 1
            · (intro w hSw; (try dsimp only at hSw); go_simp; try (with_reducible rfl))
            simp only [Act.put, List.getElem_toArray, List.getElem_cons_zero, List.setIfInBounds_toArray, List.set_cons_zero, List.set_cons_succ]
            refine wpAnyH_take (i := 1) (v := ?_) rfl (by kernel_rfl) (by kernel_rfl) (by kernel_rfl) (fun _ _ _ h => h) (Or.inl ⟨by rfl, ?_⟩) (by assumption) ?_
            rotate_left 1
            · (intro w hSw; (try dsimp only at hSw); go_simp; try (with_reducible rfl))
            simp only [Act.put, List.getElem_toArray, List.getElem_cons_zero, List.getElem_cons_succ, List.setIfInBounds_toArray, List.set_cons_zero, List.set_cons_succ]
            refine wpAnyH_take (i := 2) (v := ?_) rfl (by kernel_rfl) (by kernel_rfl) (by kernel_rfl) (fun _ _ _ h => h) (Or.inl ⟨by rfl, ?_⟩) (by assumption) ?_
            rotate_left 1
            · (intro w hSw; (try dsimp only at hSw); go_simp; try (with_reducible rfl))
            simp only [Act.put, List.getElem_toArray, List.getElem_cons_zero, List.getElem_cons_succ, List.setIfInBounds_toArray, List.set_cons_zero, List.set_cons_succ]
            refine wpAnyH_ready (rs := [3]) (by kernel_rfl) (by simp) ?_
            refine AllReadyH.cons rfl (fun K hK => ?_) AllReadyH.nil
            go_simp
            refine Hr.out.mono ?_
            rintro e w7 ⟨rfl, hg7⟩
            have z0 := World.grownBy.cell hg7 y0 (by simp)
            have z1 := World.grownBy.cell hg7 y1 (by simp)
            have z2 := World.grownBy.cell hg7 y2 (by simp)
            go_simp
            refine hK.out _ _ (by exact ⟨z0, z1, z2⟩) (fun hHeld => ?_)
            clear hK K
            try simp only [Act.put]
            refine wpAnyH_take (i := 4) (v := ?_) rfl (by kernel_rfl) (by kernel_rfl) (by kernel_rfl) (fun _ _ _ h => h) (Or.inl ⟨by rfl, ?_⟩) (by assumption) ?_
            rotate_left 1
            · (intro w hSw; (try dsimp only at hSw); go_simp; try (with_reducible rfl))
            simp only [Act.put, List.getElem_toArray, List.getElem_cons_zero, List.getElem_cons_succ, List.setIfInBounds_toArray, List.set_cons_zero, List.set_cons_succ]
            refine wpAnyH_take (i := 5) (v := ?_) rfl (by kernel_rfl) (by kernel_rfl) (by kernel_rfl) (fun _ _ _ h => h) (Or.inl ⟨by rfl, ?_⟩) (by assumption) ?_
            rotate_left 1
            · (intro w hSw; (try dsimp only at hSw); go_simp; try (with_reducible rfl))
            simp only [Act.put, List.getElem_toArray, List.getElem_cons_zero, List.getElem_cons_succ, List.setIfInBounds_toArray, List.set_cons_zero, List.set_cons_succ]
            refine wpAnyH_take (i := 6) (v := ?_) rfl (by kernel_rfl) (by kernel_rfl) (by kernel_rfl) (fun _ _ _ h => h) (Or.inl ⟨by rfl, ?_⟩) (by assumption) ?_
            rotate_left 1
            · (intro w hSw; (try dsimp only at hSw); go_simp; try (with_reducible rfl))
            simp only [Act.put, List.getElem_toArray, List.getElem_cons_zero, List.getElem_cons_succ, List.setIfInBounds_toArray, List.set_cons_zero, List.set_cons_succ]
            refine wpAnyH_take (i := 7) (v := ?_) rfl (by kernel_rfl) (by kernel_rfl) (by kernel_rfl) (fun _ _ _ h => h) (Or.inl ⟨by rfl, ?_⟩) (by assumption) ?_
            rotate_left 1
            · (intro w hSw; (try dsimp only at hSw); go_simp; try (with_reducible rfl))
            simp only [Act.put, List.getElem_toArray, List.getElem_cons_zero, List.getElem_cons_succ, List.setIfInBounds_toArray, List.set_cons_zero, List.set_cons_succ]
            refine wpAnyH_take (i := 8) (v := ?_) rfl (by kernel_rfl) (by kernel_rfl) (by kernel_rfl) (fun _ _ _ h => h) (Or.inl ⟨by rfl, ?_⟩) (by assumption) ?_
            rotate_left 1
            · (intro w hSw; (try dsimp only at hSw); go_simp; try (with_reducible rfl))
            simp only [Act.put, List.getElem_toArray, List.getElem_cons_zero, List.getElem_cons_succ, List.setIfInBounds_toArray, List.set_cons_zero, List.set_cons_succ]
            refine wpAnyH_take (i := 9) (v := ?_) rfl (by kernel_rfl) (by kernel_rfl) (by kernel_rfl) (fun _ _ _ h => h) (Or.inl ⟨by rfl, ?_⟩) (by assumption) ?_
            rotate_left 1
            · (intro w hSw; (try dsimp only at hSw); go_simp; try (with_reducible rfl))
            simp only [Act.put, List.getElem_toArray, List.getElem_cons_zero, List.getElem_cons_succ, List.setIfInBounds_toArray, List.set_cons_zero, List.set_cons_succ]
            refine wpAnyH_take (i := 10) (v := undef) rfl (by kernel_rfl) (by kernel_rfl) (by kernel_rfl) (fun _ _ _ h => h) (Or.inr ⟨by rfl, rfl⟩) (by assumption) ?_
            simp only [Act.put, List.getElem_toArray, List.getElem_cons_zero, List.getElem_cons_succ, List.setIfInBounds_toArray, List.set_cons_zero, List.set_cons_succ]
            refine wpAnyH_take (i := 11) (v := undef) rfl (by kernel_rfl) (by kernel_rfl) (by kernel_rfl) (fun _ _ _ h => h) (Or.inr ⟨by rfl, rfl⟩) (by assumption) ?_
            simp only [Act.put, List.getElem_toArray, List.getElem_cons_zero, List.getElem_cons_succ, List.setIfInBounds_toArray, List.set_cons_zero, List.set_cons_succ]
            refine wpAnyH_take (i := 12) (v := undef) rfl (by kernel_rfl) (by kernel_rfl) (by kernel_rfl) (fun _ _ _ h => h) (Or.inr ⟨by rfl, rfl⟩) (by assumption) ?_
            simp only [Act.put, List.getElem_toArray, List.getElem_cons_zero, List.getElem_cons_succ, List.setIfInBounds_toArray, List.set_cons_zero, List.set_cons_succ]
            refine wpAnyH_take (i := 13) (v := ?_) rfl (by kernel_rfl) (by kernel_rfl) (by kernel_rfl) (fun _ _ _ h => h) (Or.inl ⟨by rfl, ?_⟩) (by assumption) ?_
            rotate_left 1
            · (intro w hSw; (try dsimp only at hSw); go_simp; try (with_reducible rfl))
            simp only [Act.put, List.getElem_toArray, List.getElem_cons_zero, List.getElem_cons_succ, List.setIfInBounds_toArray, List.set_cons_zero, List.set_cons_succ]
            refine wpAnyH_take (i := 14) (v := ?_) rfl (by kernel_rfl) (by kernel_rfl) (by kernel_rfl) (fun _ _ _ h => h) (Or.inl ⟨by rfl, ?_⟩) (by assumption) ?_
            rotate_left 1
            · (intro w hSw; (try dsimp only at hSw); go_simp; try (with_reducible rfl))
            simp only [Act.put, List.getElem_toArray, List.getElem_cons_zero, List.getElem_cons_succ, List.setIfInBounds_toArray, List.set_cons_zero, List.set_cons_succ]
            refine wpAnyH_take (i := 15) (v := ?_) rfl (by kernel_rfl) (by kernel_rfl) (by kernel_rfl) (fun _ _ _ h => h) (Or.inl ⟨by rfl, ?_⟩) (by assumption) ?_
            rotate_left 1
            · (intro w hSw; (try dsimp only at hSw); go_simp; try (with_reducible rfl))
            simp only [Act.put, List.getElem_toArray, List.getElem_cons_zero, List.getElem_cons_succ, List.setIfInBounds_toArray, List.set_cons_zero, List.set_cons_succ]
            refine wpAnyH_done (by kernel_rfl) ?_ _
            have K7 := Lib.hid (grown_tr K6.out (grown_tr (show W6.grownBy W6.drew none from grown_drewN W6 1) hg7))
            clear hg7 y0 y1 y2 z0 z1 z2
            go_wp2
            go_ret
            exact ⟨rfl, K7.out⟩
          · have q1 : decide ((0 : Int) < (a : Int)) = false := decide_eq_false (by omega)
            obtain ⟨e1, e2, e3⟩ : v1 = 0 ∧ v2 = 0 ∧ v3 = ByteArray.empty := by injection hz (by omega) with e1 e2 e3; exact ⟨e1, e2, e3⟩
            subst e1 e2 e3
            clear hz
            go_wp2_with fail
            refine (read16 Ha3.out 0 d key Hk.out ⟨0, 0, ByteArray.empty⟩ Hv.out).mono ?_
            rintro e w5 ⟨rfl, hg5⟩
            have K5 := Lib.hid (grown_tr K3.out hg5); have Hown5 := Lib.hid (Hown.out.grown hg5)
            clear hg5 hg
            go_wp2_with fail
            obtain ⟨W6, hW6⟩ : ∃ W6, W6 = w5.alloc (.cells #[.int .i64 0, .int .i64 0, .string ByteArray.empty] 29) := ⟨_, rfl⟩
            have b6 := Blk.new w5 29 #[.int .i64 0, .int .i64 0, .string ByteArray.empty]
            have hg6 := World.grownBy_alloc w5 (.cells #[.int .i64 0, .int .i64 0, .string ByteArray.empty] 29) none
            rw [← hW6] at b6 hg6 ⊢
            clear hW6
            have y0 : W6.drew.cell? ⟨w5.heap.size, 0, none⟩ = some (.int .i64 0) := b6.cell 0
            have y1 : W6.drew.cell? ⟨w5.heap.size, 1, none⟩ = some (.int .i64 0) := b6.cell 1
            have y2 : W6.drew.cell? ⟨w5.heap.size, 2, none⟩ = some (.string ByteArray.empty) := b6.cell 2
            have K6 := Lib.hid (grown_tr K5.out hg6)
            have Hr := Lib.hid (read16 ((Hown5.out.grown hg6).grown (show W6.grownBy W6.drew none from grown_drewN W6 1)) 0 c1 key Hk.out ⟨0, 0, ByteArray.empty⟩ Hfo.out)
            clear b6 hg6
            go_region_held3 (fun w' => w'.cell? ⟨w5.heap.size, 0, none⟩ = some (.int .i64 0) ∧ w'.cell? ⟨w5.heap.size, 1, none⟩ = some (.int .i64 0) ∧ w'.cell? ⟨w5.heap.size, 2, none⟩ = some (.string ByteArray.empty)) (refine ⟨?_, ?_, ?_⟩ <;> with_reducible assumption)
             (first
              | (go_at_call 16
                 with_reducible refine Hr.out.mono ?_
                 rintro e w7 ⟨rfl, hg7⟩
                 have z0 := World.grownBy.cell hg7 y0 (by simp)
                 have z1 := World.grownBy.cell hg7 y1 (by simp)
                 have z2 := World.grownBy.cell hg7 y2 (by simp)))
            have K7 := Lib.hid (grown_tr K6.out (grown_tr (show W6.grownBy W6.drew none from grown_drewN W6 1) hg7))
            clear hg7 y0 y1 y2 z0 z1 z2
            go_wp2
            go_ret
            exact ⟨rfl, K7.out⟩
end Go.Proofs.Ytihnldhdpiokhaa
