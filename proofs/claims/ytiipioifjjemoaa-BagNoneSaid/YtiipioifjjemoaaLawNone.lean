/- The walk of BagNone. -/
import Derived.Test.YtiipioifjjemoaaLawPlays19
import Derived.Outline
namespace Go.Proofs.Ytiipioifjjemoaa
open Go.RowKit
set_option linter.unusedVariables false

set_option maxHeartbeats 8000000 in
set_option maxRecDepth 10000 in
theorem none19 (A : Option Addr) (c : Nat) (l : List ActC) (x : Int) (w : World) (hr : Rd w 5 A l.length (ccells l)) (hw : ∀ a ∈ l, ActWf w a) :
    Calls Try.prog 6 #[.slice A l.length c, .int .i64 x] w (BoolRet w true) := by
  have Hr := Lib.hid hr; clear hr
  have Hw := Lib.hid hw; clear hw
  obtain ⟨n, hN⟩ : ∃ n, l.length = n := ⟨_, rfl⟩
  have hgr : ∀ (g r : Nat) (s t : BSt) (X : Hold) (W : World), Two w g s r t X W → Calls Try.prog 9 #[.slice A n c] W (BoolRet W (greatC l)) := fun g r s t X W h => by
    rw [← hN]
    exact great19 A c l W (h.old Hr.out (by omega)) (h.wf Hw.out)
  have Hgr := Lib.hid hgr; clear hgr
  rw [hN]
  have HN := Lib.hid hN; clear hN
  go_enter Try.func6, Try.ntmps6
  go_wp2_with fail
  refine (Bg.new w).mono ?_
  rintro e w1 ⟨rfl, h1⟩
  have h2 := Two.start h1 Kept.none
  clear h1
  go_wp2_with fail
  obtain ⟨W2, hW2⟩ : ∃ W2, W2 = w1.alloc (.cells #[.slice none 0 0, .slice none 0 0] 29) := ⟨_, rfl⟩
  rw [← hW2] at h2 ⊢
  clear hW2
  refine (awake19 W2).mono ?_
  rintro e w3 ⟨rfl, hg⟩
  have h3 := h2.grown Kept.none hg
  clear h2 hg
  go_wp2_with fail
  refine (Hgr.out _ _ _ _ _ _ h3).mono ?_
  rintro e w4 ⟨rfl, hg⟩
  have h4 := h3.grown Kept.none hg
  clear h3 hg
  cases hgc : greatC l with
  | true =>
    go_wp2_with fail
    refine (awake19 w4).mono ?_
    rintro e w5 ⟨rfl, hg⟩
    have h5 := h4.grown Kept.none hg
    clear h4 hg
    go_wp2
    go_ret
    exact ⟨rfl, h5.end_⟩
  | false =>
    obtain ⟨hn60, hsmall⟩ := greatC_small hgc
    rw [HN.out] at hn60
    have Hsmall := Lib.hid hsmall; clear hsmall hgc
    have h40 := Lib.hid Small60.nil
    go_wp2_with fail
    go_loopw [28] (fun v wr => ∃ k : Nat, k ≤ n ∧ v = .int .i64 k ∧ ∃ s, Hid (Small60 s) ∧ Two w w.heap.size s w1.heap.size s (fun _ _ => True) wr) (fun v _ => n - (intOf v).toNat)
    case atStart => exact ⟨0, by omega, rfl, [], h40, h4⟩
    case round =>
      clear h4 h40
      obtain ⟨k, hk, rfl, s, Hs, hT⟩ := hrel
      by_cases hlt : k < n
      · obtain ⟨b, off, a, rfl, hla, d0, d1, d2, d3, d4⟩ := actsC_at (hT.old Hr.out (by omega)) (k := k) (by rw [HN.out]; exact hlt)
        have hwa := Hw.out a (List.mem_of_getElem? hla)
        obtain ⟨ha20, hap⟩ := Hsmall.out a (List.mem_of_getElem? hla)
        have Hwa := Lib.hid hwa; clear hwa
        have Hst := Lib.hid (Hs.out.step a hap); clear hap hla
        obtain ⟨s2, hs2⟩ : ∃ s2, stepC s a = s2 := ⟨_, rfl⟩
        have hdo := fun (W : World) (h : Two w w.heap.size s w1.heap.size s (fun w' own => True ∧ own wr.heap.size = 31 ∧ Blk w' wr.heap.size 34 #[.int .i64 a.kind, .int .i64 a.n, .int .i64 a.bit, .int .u32 a.mask, .slice a.A a.ps.length a.c]) W) => do19 h (Kept.blk Kept.none 31 (by omega) wr.heap.size 34 #[.int .i64 a.kind, .int .i64 a.n, .int .i64 a.bit, .int .u32 a.mask, .slice a.A a.ps.length a.c]) a Hwa.out Hs.out.smallB ha20
        rw [hs2] at hdo Hst
        have h5 := hT.alloc Kept.none 34 #[.int .i64 a.kind, .int .i64 a.n, .int .i64 a.bit, .int .u32 a.mask, .slice a.A a.ps.length a.c]
        have K5 := Lib.hid (Kept.blk Kept.none 31 (by omega) wr.heap.size 34 #[.int .i64 a.kind, .int .i64 a.n, .int .i64 a.bit, .int .u32 a.mask, .slice a.A a.ps.length a.c])
        have Hdo := Lib.hid hdo; clear hdo hs2 hT Hwa
        obtain ⟨kd, an, bit, mask, aA, ac, ps⟩ := a
        dsimp only at d0 d1 d2 d3 d4 h5 K5 Hdo ha20
        obtain ⟨m, hm⟩ : ∃ m, ps.length = m := ⟨_, rfl⟩
        rw [hm] at d4 h5 K5 Hdo
        clear hm ha20
        go_wp2_with fail
        refine (Hdo.out _ h5).mono ?_
        rintro e w6 ⟨rfl, h6⟩
        have h7 := h6.weaken (Y := fun _ _ => True) (fun _ _ _ => trivial)
        clear h6 h5 d0 d1 d2 d3 d4
        go_wp2_with fail
        go_roundw
        case rel => exact ⟨k + 1, by omega, by go_num, s2, Hst, h7⟩
        case measure => simp [intOf]; omega
      · obtain rfl : k = n := by omega
        have hs4 : s.length ≤ 4096 := by obtain ⟨_, _, hb, _⟩ := hT; exact hb.2.1
        obtain ⟨sl, hsl⟩ : ∃ sl, s.length = sl := ⟨_, rfl⟩
        have Hsl := Lib.hid hsl; clear hsl
        go_wp2_with fail
        refine (tw_all hT).mono ?_
        rintro e w5 ⟨A5, c5, rfl, hnr⟩
        have h5 := hT.hold Kept.none hnr
        have K5 := Lib.hid (Kept.row Kept.none 30 (by omega) 39 3 A5 s.length (pcells (s.map Prod.fst)))
        clear hT hnr
        rw [Hsl.out] at h5 K5 hs4 ⊢
        by_cases hx : 0 ≤ x ∧ x < (sl : Int)
        · obtain ⟨hx0, hx1⟩ := hx
          go_wp2
          go_ret
          exact ⟨rfl, h5.end_⟩
        · have hxx : x < 0 ∨ (s.length : Int) ≤ x := by have := Hsl.out; omega
          have Hx := Lib.hid hxx; clear hxx
          have hta : takeP s x = (Pkt.zero, false) := by rw [takeP, if_pos Hx.out]
          have hts : takeS s x = s := by rw [takeS, if_pos Hx.out]
          have htv : twiceB s x = (11, s) := by rw [twiceB, if_pos Hx.out]
          have htw : spoilB s x 0 1 = (11, s) := by rw [spoilB, if_pos Hx.out]
          have HA := Lib.hid hta; clear hta
          have HB := Lib.hid hts; clear hts
          have HC := Lib.hid htv; clear htv
          have HD := Lib.hid htw; clear htw
          rcases Int.lt_or_le x 0 with hlo | hlo
          · have hd : decide (0 ≤ x) = false := by simp; omega
            clear hx
            go_wp2_with fail
            refine (tw_take h5 K5.out x).mono ?_
            rw [HA.out, HB.out]
            rintro e w6 ⟨he, h6⟩
            have he : e = .returned (.tuple #[.agg #[.int .i64 0, .int .i64 0, .string ByteArray.empty], .bool false]) := he
            subst he
            have h7 := h6.grown K5.out (World.grownBy_alloc w6 (.cells #[.int .i64 0, .int .i64 0, .string ByteArray.empty] 39) none)
            clear h5 h6
            go_wp2_with fail
            refine (tw_twice h7 K5.out x).mono ?_
            rw [HC.out]
            rintro e w8 ⟨rfl, h8⟩
            clear h7
            go_wp2_with fail
            refine (tw_spoil h8 K5.out x 0 1 (by omega) (by omega) Hs.out.smallB).mono ?_
            rw [HD.out]
            rintro e w9 ⟨rfl, h9⟩
            clear h8
            go_wp2_with fail
            refine (tw_all h9).mono ?_
            rintro e w10 ⟨A10, c10, rfl, hnr⟩
            have hrA := (hnr.row (fun _ => 0) w9.heap.size 30 (Nat.le_refl _)).rd
            have hrB : Rd w9 3 A5 sl _ := h9.rd (fun _ _ h => h.2)
            have hrC : Rd w10 3 A5 sl (pcells (s.map Prod.fst)) := hrB.keep (fun b' off' h0 hA hb' => hnr.grown.block _ hb' (by simp)) (by omega)
            have h10 := h9.grown K5.out hnr.grown
            clear h9 hrB hnr
            rw [Hsl.out] at hrA ⊢
            go_wp2_with fail
            refine (same16 _ _ _ _ _ _ w10 hrA hrC (by omega)).mono ?_
            rintro e w11 ⟨rfl, mq, rfl⟩
            have h11 := h10.drewN K5.out mq
            clear h10 hrA hrC
            go_wp2
            go_ret
            exact ⟨rfl, h11.end_⟩
          · have hd : decide (x < (sl : Int)) = false := by simp; omega
            clear hx
            go_wp2_with fail
            refine (tw_take h5 K5.out x).mono ?_
            rw [HA.out, HB.out]
            rintro e w6 ⟨he, h6⟩
            have he : e = .returned (.tuple #[.agg #[.int .i64 0, .int .i64 0, .string ByteArray.empty], .bool false]) := he
            subst he
            have h7 := h6.grown K5.out (World.grownBy_alloc w6 (.cells #[.int .i64 0, .int .i64 0, .string ByteArray.empty] 39) none)
            clear h5 h6
            go_wp2_with fail
            refine (tw_twice h7 K5.out x).mono ?_
            rw [HC.out]
            rintro e w8 ⟨rfl, h8⟩
            clear h7
            go_wp2_with fail
            refine (tw_spoil h8 K5.out x 0 1 (by omega) (by omega) Hs.out.smallB).mono ?_
            rw [HD.out]
            rintro e w9 ⟨rfl, h9⟩
            clear h8
            go_wp2_with fail
            refine (tw_all h9).mono ?_
            rintro e w10 ⟨A10, c10, rfl, hnr⟩
            have hrA := (hnr.row (fun _ => 0) w9.heap.size 30 (Nat.le_refl _)).rd
            have hrB : Rd w9 3 A5 sl _ := h9.rd (fun _ _ h => h.2)
            have hrC : Rd w10 3 A5 sl (pcells (s.map Prod.fst)) := hrB.keep (fun b' off' h0 hA hb' => hnr.grown.block _ hb' (by simp)) (by omega)
            have h10 := h9.grown K5.out hnr.grown
            clear h9 hrB hnr
            rw [Hsl.out] at hrA ⊢
            go_wp2_with fail
            refine (same16 _ _ _ _ _ _ w10 hrA hrC (by omega)).mono ?_
            rintro e w11 ⟨rfl, mq, rfl⟩
            have h11 := h10.drewN K5.out mq
            clear h10 hrA hrC
            go_wp2
            go_ret
            exact ⟨rfl, h11.end_⟩
end Go.Proofs.Ytiipioifjjemoaa
