/- The walk of StoreTwice. -/
import Derived.Test.YtihnldhdpiokhaaLawy
namespace Go.Proofs.Ytihnldhdpiokhaa
open Go.RowKit
set_option linter.unusedVariables false

set_option maxHeartbeats 8000000 in
set_option maxRecDepth 10000 in
theorem twice05 (A : Option Addr) (c : Nat) (l : List Upd) (w : World) (hr : Rd w 4 A l.length (ucells l)) (hw : ∀ u ∈ l, UpdWf u) (hc : l.length ≤ c) (hcm : c ≤ maxLen) :
    Calls Try.prog 8 #[.slice A l.length c] w (BoolRet w true) := by
  have Hr := Lib.hid hr; clear hr
  obtain ⟨ks, hks⟩ := keys_exist l
  have Hkw := Lib.hid (keys_wf hw hks)
  have Hks := Lib.hid hks; clear hks
  have Hw := Lib.hid hw; clear hw
  obtain ⟨n, hN⟩ : ∃ n, l.length = n := ⟨_, rfl⟩
  obtain ⟨q, hQ⟩ : ∃ q, ks.length = q := ⟨_, rfl⟩
  have hgr : ∀ (g r : Nat) (m m' : Vals) (q q' : Nat) (X : Hold) (W : World), Stw w g m q r m' q' X W → Calls Try.prog 26 #[.slice A n c] W (BoolRet W (great05 l)) := fun g r m m' q q' X W h => by
    rw [← hN]
    exact great26 A c l W (h.old Hr.out (by omega)) Hw.out
  have Hgr := Lib.hid hgr; clear hgr
  rw [hN] at hc ⊢
  have HN := Lib.hid hN; clear hN
  have HQ := Lib.hid hQ; clear hQ
  unfold maxLen at hcm
  go_enter Try.func8, Try.ntmps8
  go_wp2_with fail
  refine ((Pre.start w).new Kept.none).mono ?_
  rintro e w1 ⟨rfl, s1⟩
  go_wp2_with fail
  refine (s1.new Kept.none).mono ?_
  rintro e w2 ⟨rfl, s2⟩
  clear s1
  go_wp2_with fail
  refine (awake25 w2).mono ?_
  rintro e w3 ⟨rfl, hg⟩
  have s3 := s2.grown Kept.none hg
  clear s2 hg
  go_wp2_with fail
  refine (Hgr.out _ _ _ _ _ _ _ _ s3).mono ?_
  rintro e w4 ⟨rfl, hg⟩
  have s4 := s3.grown Kept.none hg
  clear s3 hg
  cases hgc : great05 l with
  | true =>
    go_wp2_with fail
    refine (awake25 w4).mono ?_
    rintro e w5 ⟨rfl, hg⟩
    have s5 := s4.grown Kept.none hg
    clear s4 hg
    go_wp2
    go_ret
    exact ⟨rfl, s5.end_⟩
  | false =>
    obtain ⟨hn60, hsmall⟩ := great05_small hgc
    rw [HN.out] at hn60
    clear hgc hsmall
    go_wp2_with fail
    go_loopw [28] (fun v wr => ∃ k : Nat, k ≤ n ∧ v = .int .i64 k ∧ Stw w (w.heap.size + 1) (stOf (l.take k)) k (w1.heap.size + 1) (stOf (l.take k)) (2 * k) (fun _ _ => True) wr) (fun v _ => n - (intOf v).toNat)
    case atStart => exact ⟨0, by omega, rfl, s4⟩
    case round =>
      clear s4
      obtain ⟨k, hkn, rfl, hS⟩ := hrel
      by_cases hlt : k < n
      · obtain ⟨b, off, u, rfl, hlu, d0, d1, d2, d3⟩ := upds_at (hS.old Hr.out (by omega)) (k := k) (by rw [HN.out]; exact hlt)
        have hwf := Hw.out u (List.mem_of_getElem? hlu)
        have hsn := stOf_take l k u hlu
        obtain ⟨m0, hm0⟩ : ∃ m0, stOf (l.take k) = m0 := ⟨_, rfl⟩
        rw [hm0] at hS hsn
        obtain ⟨m1, hm1⟩ : ∃ m1, stOf (l.take (k + 1)) = m1 := ⟨_, rfl⟩
        rw [hm1] at hsn
        have Hm1 := Lib.hid hm1; clear hm1 hm0
        have K5 := Lib.hid (Kept.blk Kept.none 31 (by omega) wr.heap.size 38 #[.string u.key, .int .i64 u.kind, .int .i64 u.n, .string u.s])
        have s5 := hS.alloc Kept.none 38 #[.string u.key, .int .i64 u.kind, .int .i64 u.n, .string u.s]
        have hmay := fun W => may27 u W hwf.1 hwf.2.1
        obtain ⟨e0, he0⟩ : ∃ e0, mayU u = e0 := ⟨_, rfl⟩
        have hdo1 := fun (m m' : Vals) (i j : Nat) (hi : i ≤ 1000000) (W : World) (h : Stw w (w.heap.size + 1) m i (w1.heap.size + 1) m' j (fun w' own => True ∧ own wr.heap.size = 31 ∧ Blk w' wr.heap.size 38 #[.string u.key, .int .i64 u.kind, .int .i64 u.n, .string u.s]) W) => stw_do1 h K5.out u hwf.1 hwf.2.1 hi
        have hdo2 := fun (m m' : Vals) (i j : Nat) (hj : j ≤ 1000000) (W : World) (h : Stw w (w.heap.size + 1) m i (w1.heap.size + 1) m' j (fun w' own => True ∧ own wr.heap.size = 31 ∧ Blk w' wr.heap.size 38 #[.string u.key, .int .i64 u.kind, .int .i64 u.n, .string u.s]) W) => stw_do2 h K5.out u hwf.1 hwf.2.1 hj
        have hd1 := hdo1 m0
        have hd2 := hdo2 m1 m0
        have hd3 := hdo2 m1 m1
        rw [← hsn] at hd1 hd2
        rw [he0] at hmay hd1 hd2 hd3
        clear hdo1 hdo2 hS hwf hlu
        have hf : ∀ (W : World) (m m' : Vals) (i j : Nat), Stw w (w.heap.size + 1) m i (w1.heap.size + 1) m' j (fun w' own => True ∧ own wr.heap.size = 31 ∧ Blk w' wr.heap.size 38 #[.string u.key, .int .i64 u.kind, .int .i64 u.n, .string u.s]) W →
            W.cell? ⟨wr.heap.size, 0, none⟩ = some (.string u.key) ∧ W.cell? ⟨wr.heap.size, 1, none⟩ = some (.int .i64 u.kind) ∧ W.cell? ⟨wr.heap.size, 2, none⟩ = some (.int .i64 u.n) ∧ W.cell? ⟨wr.heap.size, 3, none⟩ = some (.string u.s) := fun W m m' i j h => by
          have b1 := h.blk (fun _ _ h => h.2.2)
          exact ⟨b1.cell 0, b1.cell 1, b1.cell 2, b1.cell 3⟩
        have Hf := Lib.hid hf; clear hf
        have Hd1 := Lib.hid hd1; have Hd2 := Lib.hid hd2; have Hd3 := Lib.hid hd3; have Hmay := Lib.hid hmay
        clear hd1 hd2 hd3 hmay
        obtain ⟨uk, ukd, un, us⟩ := u
        dsimp only at d0 d1 d2 d3 s5 K5 Hf Hd1 Hd2 Hd3 Hmay
        have Hsn := Lib.hid hsn; clear hsn
        have He0 := Lib.hid he0; clear he0
        go_wp2_with fail
        refine (Hd1.out m0 k (2 * k) (by omega) _ s5).mono ?_
        rintro e w6 ⟨rfl, s6⟩
        clear s5 d0 d1 d2 d3
        obtain ⟨d0, d1, d2, d3⟩ := Hf.out _ _ _ _ _ s6
        go_wp2_with fail
        refine (Hmay.out w6).mono ?_
        rintro e w7 ⟨rfl, hg7⟩
        have s7 := s6.grown K5.out hg7
        clear s6 hg7 d0 d1 d2 d3
        obtain ⟨d0, d1, d2, d3⟩ := Hf.out _ _ _ _ _ s7
        by_cases h0 : e0 = 0
        · subst h0
          go_wp2_with fail
          refine (Hd2.out (k + 1) (2 * k) (by omega) _ s7).mono ?_
          rintro e w8 ⟨rfl, s8⟩
          clear s7 d0 d1 d2 d3
          obtain ⟨d0, d1, d2, d3⟩ := Hf.out _ _ _ _ _ s8
          by_cases hkd : ukd = 1 ∨ ukd = 2 ∨ ukd = 5
          · have htw : doM m1 ⟨uk, ukd, un, us⟩ = m1 := by rw [Hsn.out]; exact doM_twice hkd
            rw [htw] at Hd3
            clear htw
            rcases hkd with rfl | rfl | rfl
            all_goals
              go_wp2_with fail
              refine (Hd3.out (k + 1) (2 * k + 1) (by omega) _ s8).mono ?_
              rintro e w9 ⟨rfl, s9⟩
              have hend := s9.weaken (Y := fun _ _ => True) (fun _ _ _ => trivial)
              rw [← Hm1.out] at hend
              have Hend := Lib.hid hend; clear hend s8 s9 d0 d1 d2 d3
              go_wp2_with fail
              go_roundw
              case rel => exact ⟨k + 1, by omega, by go_num, Hend.out.mono2 (by omega)⟩
              case measure => simp [intOf]; omega
          · have k1 : (ukd == 1) = false := by simp; omega
            have k2 : (ukd == 2) = false := by simp; omega
            have k5 : (ukd == 5) = false := by simp; omega
            have hend := s8.weaken (Y := fun _ _ => True) (fun _ _ _ => trivial)
            rw [← Hm1.out] at hend
            have Hend := Lib.hid hend; clear hend s8 hkd
            go_wp2_with fail
            go_roundw
            case rel => exact ⟨k + 1, by omega, by go_num, Hend.out.mono2 (by omega)⟩
            case measure => simp [intOf]; omega
        · have h0' : (e0 != 0) = true := by simpa using h0
          have hm01 : m1 = m0 := by rw [Hsn.out]; exact doM_not (by rw [He0.out]; exact h0)
          have hend := s7.weaken (Y := fun _ _ => True) (fun _ _ _ => trivial)
          have hm2 := Hm1.out
          rw [hm01] at hend hm2
          rw [← hm2] at hend
          have Hend := Lib.hid hend; clear hend s7 hm01 hm2
          go_wp2_with fail
          go_roundw
          case rel => exact ⟨k + 1, by omega, by go_num, Hend.out.mono2 (by omega)⟩
          case measure => simp [intOf]; omega
      · obtain rfl : k = n := by omega
        rw [List.take_of_length_le (by rw [HN.out]; exact Nat.le_refl _)] at hS
        have hq60 : q ≤ k := by have := hS.count1 Hks.out; rw [HQ.out] at this; exact this
        go_wp2_with fail
        refine (stw_keys2 hS Kept.none Hks.out (by omega) q HQ.out).mono ?_
        rintro e w5 ⟨A2, c2, rfl, s5⟩
        clear hS
        have K5 := Lib.hid (Kept.none.row 30 (by omega) 9 1 A2 q (ks.map Value.string))
        go_wp2_with fail
        go_loopw [61] (fun v wr => ∃ j : Nat, j ≤ q ∧ v = .int .i64 j ∧ Stw w (w.heap.size + 1) (stOf l) k (w1.heap.size + 1) (stOf l) (2 * k) (fun w' own => True ∧ Row w' own 30 9 1 A2 q (ks.map Value.string)) wr) (fun v _ => q - (intOf v).toNat)
        case atStart => exact ⟨0, by omega, rfl, s5⟩
        case round =>
          clear s5
          obtain ⟨j, hjq, rfl, hS⟩ := hrel
          by_cases hlt2 : j < q
          · obtain ⟨b, off, s, rfl, hsj, d0⟩ := str_at (hS.rd (fun _ _ h => h.2)) hlt2
            have hsz := Hkw.out s (List.mem_of_getElem? hsj)
            have Hsz := Lib.hid hsz; clear hsz hsj
            obtain ⟨v, hv⟩ : ∃ v, stOf l s = v := ⟨_, rfl⟩
            have Hv := Lib.hid hv; clear hv
            obtain ⟨v1, v2, v3⟩ := v
            go_wp2_with fail
            refine (stw_get1 hS K5.out s Hsz.out ⟨v1, v2, v3⟩ Hv.out).mono ?_
            rintro e w6 ⟨rfl, s6⟩
            clear hS
            go_wp2_with fail
            refine (stw_get2 s6 K5.out s Hsz.out ⟨v1, v2, v3⟩ Hv.out).mono ?_
            rintro e w7 ⟨rfl, s7⟩
            clear s6
            have S7 := Lib.hid s7; clear s7
            go_wp2_with fail
            go_roundw
            case rel => exact ⟨j + 1, by omega, by go_num, S7.out⟩
            case measure => simp [intOf]; omega
          · obtain rfl : j = q := by omega
            have s6 := hS.weaken (Y := fun _ _ => True) (fun _ _ _ => trivial)
            clear hS
            go_wp2_with fail
            refine (stw_keys1 s6 Kept.none Hks.out (by omega) j HQ.out).mono ?_
            rintro e w6 ⟨A3, c3, rfl, s7⟩
            clear s6
            have K7 := Lib.hid (Kept.none.row 30 (by omega) 9 1 A3 j (ks.map Value.string))
            go_wp2_with fail
            refine (stw_keys2 s7 K7.out Hks.out (by omega) j HQ.out).mono ?_
            rintro e w7 ⟨A4, c4, rfl, s8⟩
            clear s7
            have r1 := s8.rd (fun _ _ h => h.1.2)
            have r2 := s8.rd (fun _ _ h => h.2)
            have s9 := s8.weaken (Y := fun _ _ => True) (fun _ _ _ => trivial)
            clear s8
            go_wp2_with fail
            refine (same31 A3 A4 j c3 c4 ks w7 r1 r2 (by omega)).mono ?_
            rintro e w8 ⟨rfl, mq, rfl⟩
            have s10 := s9.drewN Kept.none mq
            have hend := s10.end_
            have Hend := Lib.hid hend; clear hend s10 s9 r1 r2
            go_wp2
            go_ret
            exact ⟨rfl, Hend.out⟩
end Go.Proofs.Ytihnldhdpiokhaa
