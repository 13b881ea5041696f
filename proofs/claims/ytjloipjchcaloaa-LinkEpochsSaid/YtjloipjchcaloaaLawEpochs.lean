/- The walk of LinkEpochs. -/
import Derived.Test.YtjloipjchcaloaaEndO
import Derived.Test.YtjloipjchcaloaaAw12
namespace Go.Proofs.Ytjloipjchcaloaa
open Go.RowKit
set_option linter.unusedVariables false

set_option maxHeartbeats 4000000 in
set_option maxRecDepth 10000 in
theorem epochs_bad (x0 x1 x2 : Int) (p : Bool) (fe fs fa : Int) (fd : ByteArray) (w : World) (hbad : ¬ MayOk fe fs fa fd ∨ (MayOk fe fs fa fd ∧ 100 < fd.size)) :
    Calls Try.prog 14 #[.agg #[.int .i64 x0, .int .i64 x1, .int .i64 x2], .bool p, .agg #[.int .i64 fe, .int .i64 fs, .int .i64 fa, .string fd]] w (BoolRet w true) := by
  have hP := Pre.two w 70 78 #[.int .i64 x0, .int .i64 x1, .int .i64 x2] #[.int .i64 fe, .int .i64 fs, .int .i64 fa, .string fd]
  go_enter Try.func14, Try.ntmps14
  go_wp2_with fail
  generalize (w.alloc (.cells #[.int .i64 x0, .int .i64 x1, .int .i64 x2] 70)).alloc (.cells #[.int .i64 fe, .int .i64 fs, .int .i64 fa, .string fd] 78) = W0 at hP ⊢
  have hP := hP.weaken (Y := fun w' own => True ∧ own (w.heap.size + 1) = 31 ∧ Blk w' (w.heap.size + 1) 78 #[.int .i64 fe, .int .i64 fs, .int .i64 fa, .string fd]) (fun _ _ h => ⟨trivial, h.2⟩)
  generalize w.heap.size + 1 = bf at hP ⊢
  have hK := Kept.blk Kept.none bf 78 #[.int .i64 fe, .int .i64 fs, .int .i64 fa, .string fd]
  have HK := Lib.hid hK; clear hK
  refine (pre_new hP HK.out x0 x1 x2 p).mono ?_
  rintro e w1 ⟨rfl, hE⟩
  generalize W0.heap.size = g at hE ⊢
  clear hP
  go_wp2_with fail
  refine (awake12 w1).mono ?_
  rintro e w2 ⟨rfl, hg⟩
  have hE2 := hE.grown HK.out hg
  clear hE hg
  have hb2 := hE2.blk (fun _ _ h => h.2.2)
  have q0 : w2.cell? ⟨bf, 0, none⟩ = some (.int .i64 fe) := hb2.cell 0
  have q1 : w2.cell? ⟨bf, 1, none⟩ = some (.int .i64 fs) := hb2.cell 1
  have q2 : w2.cell? ⟨bf, 2, none⟩ = some (.int .i64 fa) := hb2.cell 2
  have q3 : w2.cell? ⟨bf, 3, none⟩ = some (.string fd) := hb2.cell 3
  clear hb2
  go_wp2_with fail
  rcases hbad with hno | ⟨hm, hd⟩
  · refine (may_no fe fs fa fd w2 hno).mono ?_
    rintro e w3 ⟨v, hv, rfl, hg⟩
    have hE3 := hE2.grown HK.out hg
    clear hE2 hg
    have hv1 : (v == 0) = false := by simpa using hv
    have hv2 : (v != 0) = true := by simpa using hv
    clear q0 q1 q2 q3 hv
    go_wp2_with fail
    refine (awake12 w3).mono ?_
    rintro e w4 ⟨rfl, hg⟩
    have hE4 := hE3.grown HK.out hg
    clear hE3 hg
    go_wp2
    go_ret
    exact ⟨rfl, hE4.end_⟩
  · refine (may_yes fe fs fa fd w2 hm).mono ?_
    rintro e w3 ⟨rfl, hg⟩
    have hE3 := hE2.grown HK.out hg
    clear hE2 hg hm
    clear q0 q1 q2 q3
    have hb3 := hE3.blk (fun _ _ h => h.2.2)
    have q3 : w3.cell? ⟨bf, 3, none⟩ = some (.string fd) := hb3.cell 3
    clear hb3
    go_wp2_with fail
    refine (awake12 w3).mono ?_
    rintro e w4 ⟨rfl, hg⟩
    have hE4 := hE3.grown HK.out hg
    clear hE3 hg
    go_wp2
    go_ret
    exact ⟨rfl, hE4.end_⟩

theorem hear_epoch (L : Lnk) (he : L.epoch ≤ 1099511627776) (fe fs fa : Int) (fd : ByteArray) (h1 : 1 ≤ fe) (h2 : fe ≤ 1099511627776) :
    (fe = (L.epoch : Int) → (L.hear fe fs fa fd).epoch = L.epoch ∧ L.anew fe = false) ∧
    (fe < (L.epoch : Int) ∨ (fe ≠ (L.epoch : Int) ∧ L.passive = false) → L.hear fe fs fa fd = L ∧ L.anew fe = false) ∧
    ((L.epoch : Int) < fe → L.passive = true → L.anew fe = true ∧ ((L.hear fe fs fa fd).epoch : Int) = fe ∧ (L.hear fe fs fa fd).s.ds = [] ∧ ((L.hear fe fs fa fd).r.q.length : Int) = if fs = 1 then 1 else 0) := by
  refine ⟨?_, ?_, ?_⟩
  · intro e
    unfold Lnk.hear Lnk.anew
    rw [if_neg (by omega), if_neg (by omega)]
    exact ⟨rfl, by rw [decide_eq_false (by omega)]; rfl⟩
  · rintro (h | ⟨h, hp⟩)
    · unfold Lnk.hear Lnk.anew
      rw [if_pos h]
      exact ⟨rfl, by rw [decide_eq_false (by omega)]; rfl⟩
    · unfold Lnk.hear Lnk.anew
      rw [hp]
      by_cases h3 : fe < (L.epoch : Int)
      · rw [if_pos h3]; exact ⟨rfl, by simp⟩
      · rw [if_neg h3, if_pos (by omega)]; exact ⟨rfl, by simp⟩
  · intro h hp
    unfold Lnk.hear Lnk.anew
    rw [if_neg (by omega), if_pos h, if_pos hp, hp, decide_eq_true h]
    refine ⟨rfl, ?_, ?_, ?_⟩
    · simp only [Lnk.heard, Lnk.new, epochC, clampI]
      (repeat' split) <;> omega
    · have e : (Lnk.new fe L.window L.room true).s.ds = [] := rfl
      show ((Lnk.new fe L.window L.room true).s.ack fa).ds = []
      simp [Snd.ack, e]
    · show (((if fs = 0 then Rcv.new L.room else (Rcv.new L.room).hear fs fd).q.length : Nat) : Int) = _
      obtain ⟨r1, _⟩ := Rcv.new_ok L.room
      have e0 : (Rcv.new L.room).q = [] := rfl
      have e1 : (Rcv.new L.room).acked = 0 := rfl
      by_cases h0 : fs = 0
      · rw [if_pos h0, if_neg (by omega), e0]; rfl
      · rw [if_neg h0]
        unfold Rcv.hear
        by_cases h1 : fs = 1
        · rw [if_pos, if_pos h1]
          · show ((([] ++ [fd] : List ByteArray).length : Nat) : Int) = 1
            rfl
          · simp only [Rcv.takes, decide_eq_true_eq, e0, e1]
            exact ⟨by simp; omega, by omega⟩
        · rw [if_neg, if_neg h1, e0]
          · rfl
          · simp only [Rcv.takes, decide_eq_true_eq, e0, e1]
            omega

set_option maxHeartbeats 4000000 in
set_option maxRecDepth 10000 in
theorem epochs_play (x0 x1 x2 : Int) (p : Bool) (fe fs fa : Int) (fd : ByteArray) (w : World) (hm : MayOk fe fs fa fd) (hd : ¬ 100 < fd.size) :
    Calls Try.prog 14 #[.agg #[.int .i64 x0, .int .i64 x1, .int .i64 x2], .bool p, .agg #[.int .i64 fe, .int .i64 fs, .int .i64 fa, .string fd]] w (BoolRet w true) := by
  have hP := Pre.two w 70 78 #[.int .i64 x0, .int .i64 x1, .int .i64 x2] #[.int .i64 fe, .int .i64 fs, .int .i64 fa, .string fd]
  have Hm := Lib.hid hm; clear hm
  go_enter Try.func14, Try.ntmps14
  go_wp2_with fail
  generalize (w.alloc (.cells #[.int .i64 x0, .int .i64 x1, .int .i64 x2] 70)).alloc (.cells #[.int .i64 fe, .int .i64 fs, .int .i64 fa, .string fd] 78) = W0 at hP ⊢
  have hP := hP.weaken (Y := fun w' own => True ∧ own (w.heap.size + 1) = 31 ∧ Blk w' (w.heap.size + 1) 78 #[.int .i64 fe, .int .i64 fs, .int .i64 fa, .string fd]) (fun _ _ h => ⟨trivial, h.2⟩)
  generalize w.heap.size + 1 = bf at hP ⊢
  have hK := Kept.blk Kept.none bf 78 #[.int .i64 fe, .int .i64 fs, .int .i64 fa, .string fd]
  have HK := Lib.hid hK; clear hK
  refine (pre_new hP HK.out x0 x1 x2 p).mono ?_
  rintro e w1 ⟨rfl, hE⟩
  generalize W0.heap.size = g at hE ⊢
  clear hP
  go_wp2_with fail
  refine (awake12 w1).mono ?_
  rintro e w2 ⟨rfl, hg⟩
  have hE2 := hE.grown HK.out hg
  clear hE hg
  have hb2 := hE2.blk (fun _ _ h => h.2.2)
  have q0 : w2.cell? ⟨bf, 0, none⟩ = some (.int .i64 fe) := hb2.cell 0
  have q1 : w2.cell? ⟨bf, 1, none⟩ = some (.int .i64 fs) := hb2.cell 1
  have q2 : w2.cell? ⟨bf, 2, none⟩ = some (.int .i64 fa) := hb2.cell 2
  have q3 : w2.cell? ⟨bf, 3, none⟩ = some (.string fd) := hb2.cell 3
  clear hb2
  go_wp2_with fail
  refine (may_yes fe fs fa fd w2 Hm.out).mono ?_
  rintro e w3 ⟨rfl, hg⟩
  have hE3 := hE2.grown HK.out hg
  clear hE2 hg
  clear q0 q1 q2 q3
  have hb3 := hE3.blk (fun _ _ h => h.2.2)
  have q3 : w3.cell? ⟨bf, 3, none⟩ = some (.string fd) := hb3.cell 3
  clear hb3
  obtain ⟨L0, hL0⟩ : ∃ L0, Lnk.new x0 x1 x2 p = L0 := ⟨_, rfl⟩
  rw [hL0] at hE3
  have l1 : L0.epoch ≤ 1099511627776 := by rw [← hL0]; simp only [Lnk.new, epochC, clampI]; (repeat' split) <;> omega
  have l2 : L0.passive = p := by rw [← hL0]; rfl
  have l3 : L0.r.acked = 0 := by rw [← hL0]; rfl
  have l4 : L0.r.q = [] := by rw [← hL0]; rfl
  have HL0 := Lib.hid hL0; clear hL0
  have Hl2 := Lib.hid l2; clear l2
  have Hl3 := Lib.hid l3; clear l3
  have Hl4 := Lib.hid l4; clear l4
  go_wp2_with fail
  refine (endo_offer hE3 HK.out ⟨#[120]⟩ _ _ rfl rfl).mono ?_
  rintro e w4 ⟨rfl, hE4⟩
  clear hE3 q3
  obtain ⟨L1, hL1⟩ : ∃ L1 : Lnk, L1 = { L0 with s := L0.s.off ⟨#[120]⟩ } := ⟨_, rfl⟩
  rw [← hL1] at hE4
  have m1 : L1.epoch ≤ 1099511627776 := by rw [hL1]; exact l1
  have m2 : L1.passive = p := by rw [hL1]; exact Hl2.out
  have m3 : L1.r.acked ≤ 1125899906842624 := by rw [hL1]; show L0.r.acked ≤ _; rw [Hl3.out]; omega
  have m4 : (L1.r.q.length : Int) = 0 := by rw [hL1]; show (L0.r.q.length : Int) = 0; rw [Hl4.out]; rfl
  clear hL1 HL0 Hl2 Hl3 Hl4 l1
  have Hm2 := Lib.hid m2; clear m2
  have Hm4 := Lib.hid m4; clear m4
  obtain ⟨h1, h2, _⟩ := Hm.out
  obtain ⟨k1, k2, k3⟩ := hear_epoch L1 m1 fe fs fa fd h1 h2
  have Hk1 := Lib.hid k1; clear k1
  have Hk2 := Lib.hid k2; clear k2
  have Hk3 := Lib.hid k3; clear k3
  obtain ⟨ep, hep⟩ : ∃ ep : Int, ep = (L1.epoch : Int) := ⟨_, rfl⟩
  have Hep := Lib.hid hep; clear hep
  go_wp2_with fail
  refine (endo_epoch hE4 ep Hep.out.symm).mono ?_
  rintro e w5 ⟨rfl, rfl⟩
  go_wp2_with fail
  refine (endo_frames hE4).mono ?_
  obtain ⟨F, hF⟩ : ∃ F, F = L1.frames := ⟨_, rfl⟩
  rw [← hF]
  have HF := Lib.hid hF; clear hF
  rintro e w5 ⟨A5, c5, rfl, hnr⟩
  have hE5 := hE4.hold HK.out hnr
  clear hnr hE4
  have HK2 := Lib.hid (Kept.row HK.out 78 4 A5 F.length (fcells F))
  have hb5 := hE5.blk (fun _ _ h => h.1.2.2)
  have q0 : w5.cell? ⟨bf, 0, none⟩ = some (.int .i64 fe) := hb5.cell 0
  have q1 : w5.cell? ⟨bf, 1, none⟩ = some (.int .i64 fs) := hb5.cell 1
  have q2 : w5.cell? ⟨bf, 2, none⟩ = some (.int .i64 fa) := hb5.cell 2
  have q3 : w5.cell? ⟨bf, 3, none⟩ = some (.string fd) := hb5.cell 3
  clear hb5
  obtain ⟨fl, hfl⟩ : ∃ fl, F.length = fl := ⟨_, rfl⟩
  rw [hfl] at HK2 hE5 ⊢
  have Hfl := Lib.hid hfl; clear hfl
  go_wp2_with fail
  refine (endo_hear hE5 HK2.out fe fs fa fd m3).mono ?_
  obtain ⟨L2, hL2⟩ : ∃ L2, L2 = L1.hear fe fs fa fd := ⟨_, rfl⟩
  rw [← hL2]
  have HL2 := Lib.hid hL2; clear hL2
  clear q0 q1 q2 q3
  by_cases c1 : fe = ep
  · obtain ⟨e1, e2⟩ := Hk1.out (by rw [c1]; exact Hep.out)
    rw [e2]
    have hb1 : (fe == ep) = true := by simpa using c1
    have e3 : (L2.epoch : Int) = ep := by rw [HL2.out, e1]; exact Hep.out.symm
    have He3 := Lib.hid e3; clear e3 e1 e2 c1
    rintro e w6 ⟨rfl, hE6⟩
    clear hE5
    have hb6 := hE6.blk (fun _ _ h => h.1.2.2)
    have q0 : w6.cell? ⟨bf, 0, none⟩ = some (.int .i64 fe) := hb6.cell 0
    clear hb6
    go_wp2_with fail
    refine (endo_epoch hE6 ep He3.out).mono ?_
    rintro e w7 ⟨rfl, rfl⟩
    go_wp2
    go_ret
    exact ⟨rfl, hE6.end_⟩
  · by_cases c2 : fe < ep ∨ p = false
    · obtain ⟨e1, e2⟩ := Hk2.out (by rw [← Hep.out]; rcases c2 with c2 | c2; exact .inl c2; exact .inr ⟨c1, by rw [Hm2.out]; exact c2⟩)
      rw [e2]
      rw [e1] at HL2
      have hb1 : (fe == ep) = false := by simpa using c1
      have hL2 := HL2.out
      subst hL2
      clear e1 e2 c1
      rintro e w6 ⟨rfl, hE6⟩
      clear hE5
      have hb6 := hE6.blk (fun _ _ h => h.1.2.2)
      have q0 : w6.cell? ⟨bf, 0, none⟩ = some (.int .i64 fe) := hb6.cell 0
      clear hb6
      by_cases c3 : fe < ep
      all_goals
        first
          | (have d3 : decide (fe < ep) = true := by simpa using c3)
          | (have d3 : decide (fe < ep) = false := by simpa using c3
             obtain rfl : p = false := by rcases c2 with c2 | c2; exact absurd c2 c3; exact c2)
        clear c2
        go_wp2_with fail
        refine (endo_epoch hE6 ep Hep.out.symm).mono ?_
        rintro e w7 ⟨rfl, rfl⟩
        go_wp2_with fail
        refine (endo_frames hE6).mono ?_
        rw [← HF.out]
        rintro e w8 ⟨A8, c8, rfl, hnr⟩
        rw [Hfl.out] at hnr ⊢
        have hE8 := hE6.hold HK2.out hnr
        clear hnr hE6
        have hra := hE8.row (fun _ _ h => h.2)
        have hrb := hE8.row (fun _ _ h => h.1.2)
        have hfb : fl ≤ 1099511627776 := by
          rw [← Hfl.out, HF.out]
          have := hE8
          obtain ⟨own, _, hl, _⟩ := hE8
          exact lnk_frames_le hl
        have HK3 := Lib.hid (Kept.row HK2.out 78 4 A8 fl (fcells F))
        clear q0
        go_wp2_with fail
        refine (sameFrames_yes _ _ _ _ _ _ _ hra hrb hfb).mono ?_
        rintro e w9 ⟨rfl, m, rfl⟩
        have hE9 := hE8.grown HK3.out (grown_drewN _ m)
        clear hE8 hra hrb
        go_wp2_with fail
        refine (endo_waiting hE9 0 Hm4.out).mono ?_
        rintro e w10 ⟨rfl, rfl⟩
        go_wp2
        go_ret
        exact ⟨rfl, hE9.end_⟩
    · have hlt : ep < fe := by
        rcases Int.lt_or_gt_of_ne c1 with h | h
        · exact absurd (.inl h) c2
        · exact h
      obtain rfl : p = true := by
        cases p
        · exact absurd (.inr rfl) c2
        · rfl
      obtain ⟨e1, e2, e3, e4⟩ := Hk3.out (by rw [← Hep.out]; exact hlt) Hm2.out
      rw [e1]
      rw [← HL2.out] at e2 e3 e4
      have He2 := Lib.hid e2; clear e2
      have e3' : (L2.s.ds.length : Int) = 0 := by rw [e3]; rfl
      have He3 := Lib.hid e3'; clear e3 e3' e1
      have hb1 : (fe == ep) = false := by simpa using c1
      have d3 : decide (fe < ep) = false := by simp; omega
      clear c1 c2
      rintro e w6 ⟨rfl, hE6⟩
      clear hE5
      have hE6d := hE6.grown HK2.out (grown_drewN _ 1)
      have hb6 := hE6.blk (fun _ _ h => h.1.2.2)
      have q0 : w6.cell? ⟨bf, 0, none⟩ = some (.int .i64 fe) := hb6.cell 0
      have q1 : w6.cell? ⟨bf, 1, none⟩ = some (.int .i64 fs) := hb6.cell 1
      clear hb6
      by_cases c4 : fs = 1
      · rw [if_pos c4] at e4
        have He4 := Lib.hid e4; clear e4
        have hb4 : (fs == 1) = true := by simpa using c4
        clear c4
        go_wp2_with fail
        go_quiet ((first
          | (go_at_call 53; exact quiet_same (endo_epoch (hE6.grown HK2.out (grown_drewN _ _)) fe He2.out))
          | (go_at_call 54; exact quiet_same (endo_unacked (hE6.grown HK2.out (grown_drewN _ _)) 0 He3.out))
          | (go_at_call 56; exact quiet_same (endo_waiting (hE6.grown HK2.out (grown_drewN _ _)) 1 He4.out))))
        go_wp2
        go_ret
        exact ⟨rfl, (hE6.grown HK2.out (grown_drewN _ _)).end_⟩
      · rw [if_neg c4] at e4
        have He4 := Lib.hid e4; clear e4
        have hb4 : (fs == 1) = false := by simpa using c4
        clear c4
        go_wp2_with fail
        go_quiet ((first
          | (go_at_call 53; exact quiet_same (endo_epoch (hE6.grown HK2.out (grown_drewN _ _)) fe He2.out))
          | (go_at_call 54; exact quiet_same (endo_unacked (hE6.grown HK2.out (grown_drewN _ _)) 0 He3.out))
          | (go_at_call 56; exact quiet_same (endo_waiting (hE6.grown HK2.out (grown_drewN _ _)) 0 He4.out))))
        go_wp2
        go_ret
        exact ⟨rfl, (hE6.grown HK2.out (grown_drewN _ _)).end_⟩

theorem epochs_walk (x0 x1 x2 : Int) (p : Bool) (f : Frm) (w : World) :
    Calls Try.prog 14 #[.agg #[.int .i64 x0, .int .i64 x1, .int .i64 x2], .bool p, .agg #[.int .i64 f.epoch, .int .i64 f.seq, .int .i64 f.ack, .string f.data]] w (BoolRet w true) := by
  by_cases hm : MayOk f.epoch f.seq f.ack f.data
  · by_cases hd : 100 < f.data.size
    · exact epochs_bad x0 x1 x2 p _ _ _ _ w (.inr ⟨hm, hd⟩)
    · exact epochs_play x0 x1 x2 p _ _ _ _ w hm hd
  · exact epochs_bad x0 x1 x2 p _ _ _ _ w (.inl hm)
end Go.Proofs.Ytjloipjchcaloaa
