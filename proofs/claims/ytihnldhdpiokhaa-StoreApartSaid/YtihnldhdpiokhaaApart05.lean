/- The walk of StoreApart. -/
import Derived.Test.YtihnldhdpiokhaaApart0
namespace Go.Proofs.Ytihnldhdpiokhaa
open Go.RowKit
set_option linter.unusedVariables false

set_option maxHeartbeats 8000000 in
set_option maxRecDepth 10000 in
theorem apart05 (A : Option Addr) (c : Nat) (l : List Upd) (key : ByteArray) (w : World) (hr : Rd w 4 A l.length (ucells l)) (hw : ∀ u ∈ l, UpdWf u) (hc : l.length ≤ c) (hcm : c ≤ maxLen) (hk : key.size ≤ maxLen) :
    Calls Try.prog 7 #[.slice A l.length c, .string key] w (BoolRet w true) := by
  obtain ⟨i0, hi, hz0, hz1, hz2⟩ := info_parts Try.info38
  have Hr := Lib.hid hr; clear hr
  have Hk := Lib.hid hk
  obtain ⟨ks, hks⟩ := keys_exist l
  have Hkw := Lib.hid (keys_wf hw hks)
  have Hks := Lib.hid hks; clear hks
  have Hw := Lib.hid hw; clear hw
  obtain ⟨n, hN⟩ : ∃ n, l.length = n := ⟨_, rfl⟩
  obtain ⟨q, hQ⟩ : ∃ q, ks.length = q := ⟨_, rfl⟩
  have hgr : ∀ (g r : Nat) (m m' : Vals) (q q' : Nat) (X : Hold) (W : World), Stw w g m q r m' q' X W → Calls Try.prog 26 #[.slice A n c] W (BoolRet W (great05 l)) := fun g r m m' q q' X W h => by
    rw [← hN]
    exact great26 A c l W (h.old Hr.out (by omega)) Hw.out
  have Hgr := Lib.hid hgr; clear hgr
  rw [hN] at hc ⊢
  have HN := Lib.hid hN; clear hN
  have HQ := Lib.hid hQ; clear hQ
  unfold maxLen at hcm hk
  go_enter Try.func7, Try.ntmps7
  go_wp2_with fail
  refine ((Pre.start w).new Kept.none).mono ?_
  rintro e w1 ⟨rfl, s1⟩
  go_wp2_with fail
  refine (s1.new Kept.none).mono ?_
  rintro e w2 ⟨rfl, s2⟩
  clear s1
  go_wp2_with fail
  refine (awake25 w2).mono ?_
  rintro e w3 ⟨rfl, hg⟩
  have s3 := s2.grown Kept.none hg
  clear s2 hg
  go_wp2_with fail
  refine (Hgr.out _ _ _ _ _ _ _ _ s3).mono ?_
  rintro e w4 ⟨rfl, hg⟩
  have s4 := s3.grown Kept.none hg
  clear s3 hg
  cases hgc : great05 l with
  | true =>
    go_wp2_with fail
    refine (awake25 w4).mono ?_
    rintro e w5 ⟨rfl, hg⟩
    have s5 := s4.grown Kept.none hg
    clear s4 hg
    go_wp2
    go_ret
    exact ⟨rfl, s5.end_⟩
  | false =>
    obtain ⟨hn60, hsmall⟩ := great05_small hgc
    rw [HN.out] at hn60
    clear hgc hsmall
    by_cases hk100 : 100 < key.size
    · go_wp2_with fail
      refine (awake25 w4).mono ?_
      rintro e w5 ⟨rfl, hg⟩
      have s5 := s4.grown Kept.none hg
      clear s4 hg
      go_wp2
      go_ret
      exact ⟨rfl, s5.end_⟩
    · have s5 : Stw w (w.heap.size + 1) (stOf (l.take 0)) 0 (w1.heap.size + 1) noVals 0 (ApX none 0 0 [] none 0 0 []) w4 := s4.weaken (fun _ _ _ => ApX.nil _ _)
      clear s4
      go_wp2_with fail
      go_loopw [7, 8, 41] (fun v7 v8 v wr => ∃ k : Nat, k ≤ n ∧ v = .int .i64 k ∧ ∃ (A1 : Option Addr) (c1 : Nat) (o : List Upd) (A2 : Option Addr) (c2 : Nat) (p : List Upd), Hid (fO key (l.take k) = o ∧ fN key (l.take k) = p ∧ o.length ≤ k ∧ p.length ≤ k) ∧ v7 = .slice A1 o.length c1 ∧ v8 = .slice A2 p.length c2 ∧
        Stw w (w.heap.size + 1) (stOf (l.take k)) k (w1.heap.size + 1) noVals 0 (ApX A1 o.length c1 o A2 p.length c2 p) wr) (fun _ _ v _ => n - (intOf v).toNat)
      case atStart => exact ⟨0, by omega, rfl, none, 0, [], none, 0, [], Lib.hid ⟨rfl, rfl, by simp, by simp⟩, rfl, rfl, s5⟩
      case round =>
        clear s5
        obtain ⟨k, hkn, rfl, A1, c1, o, A2, c2, p, Hop, rfl, rfl, hS⟩ := hrel
        by_cases hlt : k < n
        · obtain ⟨b, off, u, rfl, hlu, d0, d1, d2, d3⟩ := upds_at (hS.old Hr.out (by omega)) (k := k) (by rw [HN.out]; exact hlt)
          have hwf := Hw.out u (List.mem_of_getElem? hlu)
          have hsn := stOf_take l k u hlu
          have hyes := fun h => fO_take_yes (key := key) hlu h
          have hno := fun h => fO_take_no (key := key) hlu h
          have hol := Hop.out.2.2.1
          have hpl := Hop.out.2.2.2
          rw [Hop.out.1, Hop.out.2.1] at hyes hno
          have K5 := Lib.hid (Kept.blk (ApX.kept A1 o.length c1 o A2 p.length c2 p) 31 (by omega) wr.heap.size 38 #[.string u.key, .int .i64 u.kind, .int .i64 u.n, .string u.s])
          have s5 := hS.alloc (ApX.kept A1 o.length c1 o A2 p.length c2 p) 38 #[.string u.key, .int .i64 u.kind, .int .i64 u.n, .string u.s]
          have hdo := fun (W : World) h => stw_do1 (w := W) (w0 := w) (g := w.heap.size + 1) (r := w1.heap.size + 1) (m := stOf (l.take k)) (m' := noVals) (n := k) (n' := 0) h K5.out u hwf.1 hwf.2.1 (by omega)
          rw [← hsn] at hdo
          obtain ⟨ue, hue⟩ : ∃ ue, u = ue := ⟨_, rfl⟩
          have Hu := Lib.hid hue; clear hue
          clear hS hwf hsn hlu
          obtain ⟨e0, he0⟩ : ∃ e0, mayU u = e0 := ⟨_, rfl⟩
          rw [he0] at hdo
          clear he0
          obtain ⟨uk, ukd, un, us⟩ := u
          dsimp only at d0 d1 d2 d3 s5 K5 hdo hyes hno
          have Hdo := Lib.hid hdo; clear hdo
          have Hyes := Lib.hid hyes; clear hyes
          have Hno := Lib.hid hno; clear hno
          obtain ⟨m1, hm1⟩ : ∃ m1, stOf (l.take (k + 1)) = m1 := ⟨_, rfl⟩
          rw [hm1] at Hdo
          have Hm1 := Lib.hid hm1; clear hm1
          go_wp2_with fail
          refine (Hdo.out _ s5).mono ?_
          rintro e w6 ⟨rfl, s6⟩
          clear s5 d0 d1 d2 d3
          have hb6 := s6.blk (fun _ _ h => h.2.2)
          have d0 := hb6.cell 0
          have d1 := hb6.cell 1
          have d2 := hb6.cell 2
          have d3 := hb6.cell 3
          simp only [List.getElem?_toArray, List.getElem?_cons_zero, List.getElem?_cons_succ] at d0 d1 d2 d3
          clear hb6
          have s7 := s6.weaken (Y := ApX A1 o.length c1 o A2 p.length c2 p) (fun _ _ h => h.1)
          clear s6
          obtain ⟨own, hB, hb, hrr, hx⟩ := s7
          have HB := Lib.hid hB; have Hb := Lib.hid hb; have Hrr := Lib.hid hrr; have Hx := Lib.hid hx
          clear hB hb hrr hx
          have hnews : Rd (w6.alloc (.cells #[.string uk, .int .i64 ukd, .int .i64 un, .string us] 38)) 4 (some ⟨w6.heap.size, 0, none⟩) 1 (ucells [⟨uk, ukd, un, us⟩]) :=
            Rd.of_blk (Blk.new w6 38 #[.string uk, .int .i64 ukd, .int .i64 un, .string us]) rfl (fun j u h => by rw [← h]; simp [ucells, ucells1])
          have Hnews := Lib.hid hnews; clear hnews
          by_cases hky : uk = key
          · subst hky
            obtain ⟨ey1, ey2⟩ := Hyes.out rfl
            have Hrel := Lib.hid (show fO uk (l.take (k + 1)) = o ++ [⟨uk, ukd, un, us⟩] ∧ fN uk (l.take (k + 1)) = p ∧ (o ++ [(⟨uk, ukd, un, us⟩ : Upd)]).length ≤ k + 1 ∧ p.length ≤ k + 1 from ⟨ey1, ey2, by simp; omega, by omega⟩)
            clear ey1 ey2
            go_wp2_with (at_builtin; refine wpList_mine rfl (.tmp 52) (.tmp 54) 25 rfl 38 i0 (.agg #[.string ByteArray.empty, .int .i64 0, .int .i64 0, .string ByteArray.empty]) 4 48 Try.underlying25 hi hz0 hz1 hz2 rfl (by decide) own 32 A1 o.length c1 (ucells o) (by rfl) (Hx.out.1.2.alloc _) (some ⟨w6.heap.size, 0, none⟩) 1 1 (ucells [⟨uk, ukd, un, us⟩]) (by rfl) Hnews.out (by simp [ucells, ucells1, Value.oneCell']) (by unfold maxLen; omega) (by omega) ?_; intro A3 c3 w7 own7 hO7 st7; have HO7 := Lib.hid hO7; clear hO7; have Hst7 := Lib.hid st7; clear st7)
            have hend := ap_one (w' := w7) (own' := own7) (q := o ++ [⟨uk, ukd, un, us⟩]) HB.out Hb.out Hrr.out Hx.out (by rw [ucells_append]; exact HO7.out) (((Step.refl 32 w6 own).alloc _).trans Hst7.out)
            rw [← Hm1.out] at hend
            have Hend := Lib.hid hend; clear hend
            go_roundw
            case rel => exact ⟨k + 1, by omega, by go_num, A3, c3, o ++ [⟨uk, ukd, un, us⟩], A2, c2, p, Hrel, by rw [List.length_append]; rfl, rfl, by rw [List.length_append]; exact Hend.out⟩
            case measure => simp [intOf]; omega
          · have hky' : ¬ uk.toList = key.toList := fun h => hky (bytes_ext (by rw [← ByteArray.toList_eq, ← ByteArray.toList_eq, h]))
            obtain ⟨ey1, ey2⟩ := Hno.out hky
            have hky2 : (uk.toList == key.toList) = false := by simpa using hky'
            have Hrel := Lib.hid (show fO key (l.take (k + 1)) = o ∧ fN key (l.take (k + 1)) = p ++ [⟨uk, ukd, un, us⟩] ∧ o.length ≤ k + 1 ∧ (p ++ [(⟨uk, ukd, un, us⟩ : Upd)]).length ≤ k + 1 from ⟨ey1, ey2, by omega, by simp; omega⟩)
            clear ey1 ey2 hky
            go_wp2_with (at_builtin; refine wpList_mine rfl (.tmp 56) (.tmp 58) 25 rfl 38 i0 (.agg #[.string ByteArray.empty, .int .i64 0, .int .i64 0, .string ByteArray.empty]) 4 48 Try.underlying25 hi hz0 hz1 hz2 rfl (by decide) own 33 A2 p.length c2 (ucells p) (by rfl) (Hx.out.2.alloc _) (some ⟨w6.heap.size, 0, none⟩) 1 1 (ucells [⟨uk, ukd, un, us⟩]) (by rfl) Hnews.out (by simp [ucells, ucells1, Value.oneCell']) (by unfold maxLen; omega) (by omega) ?_; intro A3 c3 w7 own7 hO7 st7; have HO7 := Lib.hid hO7; clear hO7; have Hst7 := Lib.hid st7; clear st7)
            have hend := ap_two (w' := w7) (own' := own7) (q := p ++ [⟨uk, ukd, un, us⟩]) HB.out Hb.out Hrr.out Hx.out (by rw [ucells_append]; exact HO7.out) (((Step.refl 33 w6 own).alloc _).trans Hst7.out)
            rw [← Hm1.out] at hend
            have Hend := Lib.hid hend; clear hend
            go_roundw
            case rel => exact ⟨k + 1, by omega, by go_num, A1, c1, o, A3, c3, p ++ [⟨uk, ukd, un, us⟩], Hrel, rfl, by rw [List.length_append]; rfl, by rw [List.length_append]; exact Hend.out⟩
            case measure => simp [intOf]; omega
        · obtain rfl : k = n := by omega
          rw [List.take_of_length_le (by rw [HN.out]; exact Nat.le_refl _)] at hS Hop
          obtain ⟨ho, hp, hol, hpl⟩ := Hop.out
          clear Hop
          have hlast : stOf (p ++ o) = stOf l := by rw [← ho, ← hp]; exact apart_is key l
          have hmid : stOf p key = zeroV := by rw [← hp]; exact apart_none key l
          rw [show zeroV = ⟨0, 0, noS⟩ from rfl] at hmid
          have hwo : ∀ u ∈ o, UpdWf u := fun u hu => Hw.out u (by rw [← ho] at hu; exact (List.mem_filter.1 hu).1)
          have hwp : ∀ u ∈ p, UpdWf u := fun u hu => Hw.out u (by rw [← hp] at hu; exact (List.mem_filter.1 hu).1)
          have Hlast := Lib.hid hlast; have Hmid := Lib.hid hmid; have Hwo := Lib.hid hwo; have Hwp := Lib.hid hwp
          clear hlast hmid hwo hwp ho hp
          have hq60 : q ≤ k := by have := hS.count1 Hks.out; rw [HQ.out] at this; exact this
          obtain ⟨a, ha⟩ : ∃ a, o.length = a := ⟨_, rfl⟩
          obtain ⟨d, hd⟩ : ∃ d, p.length = d := ⟨_, rfl⟩
          rw [ha] at hol
          rw [hd] at hpl
          rw [ha, hd] at hS ⊢
          have Ha := Lib.hid ha; have Hd := Lib.hid hd; clear ha hd
          have KX := Lib.hid (ApX.kept A1 a c1 o A2 d c2 p)
          have s5 : Stw w (w.heap.size + 1) (stOf l) k (w1.heap.size + 1) (stOf (p.take 0)) 0 (ApX A1 a c1 o A2 d c2 p) wr := hS
          clear hS
          go_wp2_with fail
          go_loopw [63] (fun v wr => ∃ j : Nat, j ≤ d ∧ v = .int .i64 j ∧ Stw w (w.heap.size + 1) (stOf l) k (w1.heap.size + 1) (stOf (p.take j)) j (ApX A1 a c1 o A2 d c2 p) wr) (fun v _ => d - (intOf v).toNat)
          case atStart => exact ⟨0, by omega, rfl, s5⟩
          case round =>
            clear s5
            obtain ⟨j, hjd, rfl, hS⟩ := hrel
            by_cases hlt2 : j < d
            · obtain ⟨b, off, u, rfl, hlu, d0, d1, d2, d3⟩ := upds_atn hS.row2 hlt2
              have hwf := Hwp.out u (List.mem_of_getElem? hlu)
              have hsn := stOf_take p j u hlu
              have K5 := Lib.hid (Kept.blk KX.out 31 (by omega) wr.heap.size 38 #[.string u.key, .int .i64 u.kind, .int .i64 u.n, .string u.s])
              have s5 := hS.alloc KX.out 38 #[.string u.key, .int .i64 u.kind, .int .i64 u.n, .string u.s]
              have hdo := fun (W : World) h => stw_do2 (w := W) (w0 := w) (g := w.heap.size + 1) (r := w1.heap.size + 1) (m := stOf l) (m' := stOf (p.take j)) (n := k) (n' := j) h K5.out u hwf.1 hwf.2.1 (by omega)
              rw [← hsn] at hdo
              clear hS hwf hsn hlu
              obtain ⟨e0, he0⟩ : ∃ e0, mayU u = e0 := ⟨_, rfl⟩
              rw [he0] at hdo
              clear he0
              obtain ⟨uk, ukd, un, us⟩ := u
              dsimp only at d0 d1 d2 d3 s5 K5 hdo
              have Hdo := Lib.hid hdo; clear hdo
              go_wp2_with fail
              refine (Hdo.out _ s5).mono ?_
              rintro e w6 ⟨rfl, s6⟩
              clear s5 d0 d1 d2 d3
              have Hend := Lib.hid (s6.weaken (Y := ApX A1 a c1 o (some ⟨b, off, none⟩) d c2 p) (fun _ _ h => h.1))
              clear s6
              go_wp2_with fail
              go_roundw
              case rel => exact ⟨j + 1, by omega, by go_num, Hend.out⟩
              case measure => simp [intOf]; omega
            · obtain rfl : j = d := by omega
              rw [List.take_of_length_le (by rw [Hd.out]; exact Nat.le_refl _)] at hS
              go_wp2_with fail
              refine (stw_get2 hS KX.out key Hk.out ⟨0, 0, noS⟩ Hmid.out).mono ?_
              rintro e w6 ⟨rfl, s6⟩
              clear hS
              have s7 : Stw w (w.heap.size + 1) (stOf l) k (w1.heap.size + 1) (stOf (p ++ o.take 0)) (j + 0) (ApX A1 a c1 o A2 j c2 p) w6 := by rw [List.take_zero, List.append_nil]; exact s6
              clear s6
              go_wp2_with fail
              go_loopw [78] (fun v wr => ∃ i : Nat, i ≤ a ∧ v = .int .i64 i ∧ Stw w (w.heap.size + 1) (stOf l) k (w1.heap.size + 1) (stOf (p ++ o.take i)) (j + i) (ApX A1 a c1 o A2 j c2 p) wr) (fun v _ => a - (intOf v).toNat)
              case atStart => exact ⟨0, by omega, rfl, s7⟩
              case round =>
                clear s7
                obtain ⟨i, hia, rfl, hS⟩ := hrel
                by_cases hlt3 : i < a
                · obtain ⟨b, off, u, rfl, hlu, d0, d1, d2, d3⟩ := upds_atn hS.row1 hlt3
                  have hwf := Hwo.out u (List.mem_of_getElem? hlu)
                  have hsn : stOf (p ++ o.take (i + 1)) = doM (stOf (p ++ o.take i)) u := by rw [stOf_append, stOf_append, stFrom_take _ _ _ _ hlu]
                  have K5 := Lib.hid (Kept.blk KX.out 31 (by omega) wr.heap.size 38 #[.string u.key, .int .i64 u.kind, .int .i64 u.n, .string u.s])
                  have s5 := hS.alloc KX.out 38 #[.string u.key, .int .i64 u.kind, .int .i64 u.n, .string u.s]
                  have hdo := fun (W : World) h => stw_do2 (w := W) (w0 := w) (g := w.heap.size + 1) (r := w1.heap.size + 1) (m := stOf l) (m' := stOf (p ++ o.take i)) (n := k) (n' := j + i) h K5.out u hwf.1 hwf.2.1 (by omega)
                  rw [← hsn] at hdo
                  clear hS hwf hsn hlu
                  obtain ⟨e0, he0⟩ : ∃ e0, mayU u = e0 := ⟨_, rfl⟩
                  rw [he0] at hdo
                  clear he0
                  obtain ⟨uk, ukd, un, us⟩ := u
                  dsimp only at d0 d1 d2 d3 s5 K5 hdo
                  have Hdo := Lib.hid hdo; clear hdo
                  go_wp2_with fail
                  refine (Hdo.out _ s5).mono ?_
                  rintro e w6 ⟨rfl, s6⟩
                  clear s5 d0 d1 d2 d3
                  have Hend := Lib.hid (s6.weaken (Y := ApX (some ⟨b, off, none⟩) a c1 o A2 j c2 p) (fun _ _ h => h.1))
                  clear s6
                  go_wp2_with fail
                  go_roundw
                  case rel => exact ⟨i + 1, by omega, by go_num, Hend.out⟩
                  case measure => simp [intOf]; omega
                · obtain rfl : i = a := by omega
                  rw [List.take_of_length_le (by rw [Ha.out]; exact Nat.le_refl _), Hlast.out] at hS
                  have s8 := hS.weaken (Y := fun _ _ => True) (fun _ _ _ => trivial)
                  clear hS
                  go_wp2_with fail
                  refine (stw_keys1 s8 Kept.none Hks.out (by omega) q HQ.out).mono ?_
                  rintro e w7 ⟨A3, c3, rfl, s9⟩
                  clear s8
                  have K9 := Lib.hid (Kept.none.row 30 (by omega) 9 1 A3 q (ks.map Value.string))
                  go_wp2_with fail
                  refine (stw_keys2 s9 K9.out Hks.out (by omega) q HQ.out).mono ?_
                  rintro e w8 ⟨A4, c4, rfl, s10⟩
                  clear s9
                  have r1 := s10.rd (fun _ _ h => h.1.2)
                  have r2 := s10.rd (fun _ _ h => h.2)
                  have s11 := s10.weaken (Y := fun _ _ => True) (fun _ _ _ => trivial)
                  clear s10
                  go_wp2_with fail
                  refine (same31 A3 A4 q c3 c4 ks w8 r1 r2 (by omega)).mono ?_
                  rintro e w9 ⟨rfl, mq, rfl⟩
                  have s12 := s11.drewN Kept.none mq
                  clear s11 r1 r2
                  go_wp2_with fail
                  refine (stw_keys1 s12 Kept.none Hks.out (by omega) q HQ.out).mono ?_
                  rintro e w10 ⟨A5, c5, rfl, s13⟩
                  clear s12
                  have K13 := Lib.hid (Kept.none.row 30 (by omega) 9 1 A5 q (ks.map Value.string))
                  go_wp2_with fail
                  go_loopw [95] (fun v wr => ∃ z : Nat, z ≤ q ∧ v = .int .i64 z ∧ Stw w (w.heap.size + 1) (stOf l) k (w1.heap.size + 1) (stOf l) (j + i) (fun w' own => True ∧ Row w' own 30 9 1 A5 q (ks.map Value.string)) wr) (fun v _ => q - (intOf v).toNat)
                  case atStart => exact ⟨0, by omega, rfl, s13⟩
                  case round =>
                    clear s13
                    obtain ⟨z, hzq, rfl, hS⟩ := hrel
                    by_cases hlt4 : z < q
                    · obtain ⟨b, off, s, rfl, hsj, d0⟩ := str_at (hS.rd (fun _ _ h => h.2)) hlt4
                      have hsz := Hkw.out s (List.mem_of_getElem? hsj)
                      have Hsz := Lib.hid hsz; clear hsz hsj
                      obtain ⟨v, hv⟩ : ∃ v, stOf l s = v := ⟨_, rfl⟩
                      have Hv := Lib.hid hv; clear hv
                      obtain ⟨v1, v2, v3⟩ := v
                      go_wp2_with fail
                      refine (stw_get1 hS K13.out s Hsz.out ⟨v1, v2, v3⟩ Hv.out).mono ?_
                      rintro e w11 ⟨rfl, s14⟩
                      clear hS
                      go_wp2_with fail
                      refine (stw_get2 s14 K13.out s Hsz.out ⟨v1, v2, v3⟩ Hv.out).mono ?_
                      rintro e w12 ⟨rfl, s15⟩
                      clear s14
                      have S15 := Lib.hid s15; clear s15
                      go_wp2_with fail
                      go_roundw
                      case rel => exact ⟨z + 1, by omega, by go_num, S15.out⟩
                      case measure => simp [intOf]; omega
                    · obtain rfl : z = q := by omega
                      have s14 := hS.weaken (Y := fun _ _ => True) (fun _ _ _ => trivial)
                      clear hS
                      obtain ⟨v, hv⟩ : ∃ v, stOf l key = v := ⟨_, rfl⟩
                      have Hv := Lib.hid hv; clear hv
                      obtain ⟨v1, v2, v3⟩ := v
                      go_wp2_with fail
                      refine (stw_get1 s14 Kept.none key Hk.out ⟨v1, v2, v3⟩ Hv.out).mono ?_
                      rintro e w11 ⟨rfl, s15⟩
                      clear s14
                      go_wp2_with fail
                      refine (stw_get2 s15 Kept.none key Hk.out ⟨v1, v2, v3⟩ Hv.out).mono ?_
                      rintro e w12 ⟨rfl, s16⟩
                      clear s15
                      have Hend := Lib.hid s16.end_; clear s16
                      go_wp2
                      go_ret
                      exact ⟨rfl, Hend.out⟩
end Go.Proofs.Ytihnldhdpiokhaa
