/- The walks of layer 8's add and awake. -/
import Derived.Test.YtihnldhdpiokhaaTouch17
import Derived.Test.YtihnldhdpiokhaaFlat08
namespace Go.Proofs.Ytihnldhdpiokhaa
open Go.RowKit
set_option linter.unusedVariables false

@[reducible] def ua (n : Int) : Upd := ⟨sa, 3, n, noS⟩
theorem add37 (n : Int) (w : World) : Calls Try.prog 37 #[.int .i64 n] w (fun e w' => ∃ g, e = .returned (.agg #[.int .i64 1, .int .i64 1, .slice (some ⟨g, 0, none⟩) 1 1]) ∧ w.grownBy w' none ∧ Blk w' g 38 #[.string sa, .int .i64 3, .int .i64 n, .string noS]) := by
  go_enter Try.func37, Try.ntmps37
  go_wp2
  refine bodyPost_ret (v := .agg #[.int .i64 1, .int .i64 1, .slice (some ⟨w.heap.size + 1, 0, none⟩) 1 1]) (by simp [results, Try.results37, go_sem]) rfl ⟨w.heap.size + 1, rfl, ?_, ?_⟩
  · exact grown_al (World.grownBy_alloc _ _ _) _
  · have := Blk.new (w.alloc (.cells #[.int .i64 1, .int .i64 1, .slice (some ⟨w.heap.size + 1, 0, none⟩) 1 1] 27)) 38 #[.string sa, .int .i64 3, .int .i64 n, .string noS]
    rw [show (w.alloc (.cells #[.int .i64 1, .int .i64 1, .slice (some ⟨w.heap.size + 1, 0, none⟩) 1 1] 27)).heap.size = w.heap.size + 1 by simp] at this
    exact this
theorem ua_wf (n : Int) (h : (Lit.int .i64 n).wf = true) : UpdWf (ua n) := ⟨(show sa.size ≤ maxLen by decide), (show noS.size ≤ maxLen by decide), (show (Lit.int .i64 3).wf = true by decide), h⟩
theorem ua_may (n : Int) (h1 : -2305843009213693952 ≤ n) (h2 : n ≤ 2305843009213693951) : mayU (ua n) = 0 := by
  unfold mayU ua sa noS
  simp only [ByteArray.size]
  rw [if_neg (by decide), if_neg (by decide), if_neg (by simp), if_neg (by simp; omega)]
theorem doM_ua (m : Vals) (n : Int) (h1 : -2305843009213693952 ≤ n) (h2 : n ≤ 2305843009213693951) (k : ByteArray) : doM m (ua n) k = if sa = k then applyV (m k) (ua n) else m k := by
  unfold doM
  by_cases h : sa = k
  · rw [if_pos ⟨h, ua_may n h1 h2⟩, if_pos h]
  · rw [if_neg (fun e => h e.1), if_neg h]
theorem aw8_read : stOf [ua 1, ua 2, ua 3] sa = ⟨1, 6, noS⟩ := by
  show doM (doM (doM noVals (ua 1)) (ua 2)) (ua 3) sa = _
  rw [doM_ua _ _ (by omega) (by omega), if_pos rfl, doM_ua _ _ (by omega) (by omega), if_pos rfl, doM_ua _ _ (by omega) (by omega), if_pos rfl]
  simp [applyV, noVals, zeroV, wrap64]
theorem aw8_keys : KeysOf (stOf [ua 1, ua 3]) [sa] := by
  refine ⟨by simp, fun k => ?_⟩
  unfold hasV
  show _ ↔ (doM (doM noVals (ua 1)) (ua 3) k).kind ≠ 0
  rw [doM_ua _ _ (by omega) (by omega), doM_ua _ _ (by omega) (by omega)]
  by_cases h : sa = k
  · rw [if_pos h, if_pos h]
    simp [applyV, noVals, zeroV, h.symm]
  · rw [if_neg h, if_neg h]
    simp only [List.mem_singleton]
    exact ⟨fun e => absurd e.symm h, fun e => absurd rfl e⟩
theorem aw8_none : KeysOf (stOf []) [] := ⟨List.Pairwise.nil, fun k => by simp [hasV, stOf, noVals, zeroV]⟩
theorem aw8_touch : KSet (touchP [ua 1, ua 2]) [sa] := by
  refine ⟨by simp, fun k => ?_⟩
  unfold touchP
  simp only [List.mem_singleton]
  constructor
  · rintro rfl
    exact ⟨ua 1, by simp, ua_may 1 (by omega) (by omega), rfl⟩
  · rintro ⟨u, hu, _, rfl⟩
    simp only [List.mem_cons, List.not_mem_nil, or_false] at hu
    rcases hu with rfl | rfl <;> rfl
/-- a round of one update in a block of its own -/
theorem ua_round {w : World} {g : Nat} {n : Int} (h : Blk w g 38 #[.string sa, .int .i64 3, .int .i64 n, .string noS]) (hn : (Lit.int .i64 n).wf = true) : RndWf w ⟨1, 1, some ⟨g, 0, none⟩, 1, [ua n]⟩ :=
  ⟨(show 1 ≤ 1 by decide), (show 1 ≤ maxLen by decide), Rd.of_blk h rfl (fun j u hu => by rw [← hu]; simp [ucells, ucells1]), fun u hu => by rw [List.mem_singleton] at hu; subst hu; exact ua_wf n hn⟩
theorem ua_open {w : World} {g : Nat} {n : Int} (h : Blk w g 38 #[.string sa, .int .i64 3, .int .i64 n, .string noS]) : Rd w 4 (some ⟨g, 0, none⟩) 1 (ucells [ua n]) :=
  Rd.of_blk h rfl (fun j u hu => by rw [← hu]; simp [ucells, ucells1])
theorem args_two {w : World} {g1 g2 go : Nat} (h1 : Blk w g1 38 #[.string sa, .int .i64 3, .int .i64 1, .string noS]) (h2 : Blk w g2 38 #[.string sa, .int .i64 3, .int .i64 2, .string noS]) (h3 : Blk w go 38 #[.string sa, .int .i64 3, .int .i64 3, .string noS]) :
    ArgsAt (w.alloc (.cells #[.int .i64 1, .int .i64 1, .slice (some ⟨g1, 0, none⟩) 1 1, .int .i64 1, .int .i64 1, .slice (some ⟨g2, 0, none⟩) 1 1] 27)) (some ⟨go, 0, none⟩) 1 [ua 3] (some ⟨w.heap.size, 0, none⟩) 2 [⟨1, 1, some ⟨g1, 0, none⟩, 1, [ua 1]⟩, ⟨1, 1, some ⟨g2, 0, none⟩, 1, [ua 2]⟩] :=
  ⟨rfl, ua_open (h3.alloc _), fun u hu => by rw [List.mem_singleton] at hu; subst hu; exact ua_wf 3 (by decide), rfl,
    Rd.of_blk (Blk.new w 27 _) rfl (fun j u hu => by rw [← hu]; simp [rcells, rcells1]),
    fun r hr => by
      simp only [List.mem_cons, List.not_mem_nil, or_false] at hr
      rcases hr with rfl | rfl
      · exact ua_round (h1.alloc _) (by decide)
      · exact ua_round (h2.alloc _) (by decide), by simp [flat], by omega⟩
theorem args_one {w : World} {g1 go : Nat} (h1 : Blk w g1 38 #[.string sa, .int .i64 3, .int .i64 1, .string noS]) (h3 : Blk w go 38 #[.string sa, .int .i64 3, .int .i64 3, .string noS]) :
    ArgsAt (w.alloc (.cells #[.int .i64 1, .int .i64 1, .slice (some ⟨g1, 0, none⟩) 1 1] 27)) (some ⟨go, 0, none⟩) 1 [ua 3] (some ⟨w.heap.size, 0, none⟩) 1 [⟨1, 1, some ⟨g1, 0, none⟩, 1, [ua 1]⟩] :=
  ⟨rfl, ua_open (h3.alloc _), fun u hu => by rw [List.mem_singleton] at hu; subst hu; exact ua_wf 3 (by decide), rfl,
    Rd.of_blk (Blk.new w 27 _) rfl (fun j u hu => by rw [← hu]; simp [rcells, rcells1]),
    fun r hr => by
      rw [List.mem_singleton] at hr
      subst hr
      exact ua_round (h1.alloc _) (by decide), by simp [flat], by omega⟩
theorem args_none (w : World) (A B : Option Addr) : ArgsAt w A 0 [] B 0 [] := ⟨rfl, Rd.nil _ _ _, by simp, rfl, Rd.nil _ _ _, by simp, by decide, by omega⟩

set_option maxHeartbeats 4000000 in
set_option maxRecDepth 10000 in
theorem awake14 (w : World) : Calls Try.prog 14 #[] w (BoolRet w true) := by
  have hb0 := Blk.new w 38 #[.string sa, .int .i64 3, .int .i64 3, .string noS]
  have hg0 := World.grownBy_alloc w (.cells #[.string sa, .int .i64 3, .int .i64 3, .string noS] 38) none
  obtain ⟨W0, hW0⟩ : ∃ W0, W0 = w.alloc (.cells #[.string sa, .int .i64 3, .int .i64 3, .string noS] 38) := ⟨_, rfl⟩
  rw [← hW0] at hb0 hg0
  have Hb0 := Lib.hid hb0; have Hg0 := Lib.hid hg0; have HW0 := Lib.hid hW0
  clear hb0 hg0 hW0
  go_enter Try.func14, Try.ntmps14
  go_wp2_with fail
  rw [← HW0.out]
  refine (add37 1 W0).mono ?_
  rintro e w1 ⟨g1, rfl, hg1, hb1⟩
  have b0 := Hb0.out.grown hg1 (by simp)
  have k1 := grown_tr Hg0.out hg1
  have B0 := Lib.hid b0; have B1 := Lib.hid hb1; have K1 := Lib.hid k1
  clear b0 hb1 k1 hg1 Hb0
  go_wp2_with fail
  refine (add37 2 w1).mono ?_
  rintro e w2 ⟨g2, rfl, hg2, hb2⟩
  have hargs := args_two (B1.out.grown hg2 (by simp)) hb2 (B0.out.grown hg2 (by simp))
  have k2 := grown_al (grown_tr K1.out hg2) (.cells #[.int .i64 1, .int .i64 1, .slice (some ⟨g1, 0, none⟩) 1 1, .int .i64 1, .int .i64 1, .slice (some ⟨g2, 0, none⟩) 1 1] 27)
  have b0 := (B0.out.grown hg2 (by simp)).alloc (.cells #[.int .i64 1, .int .i64 1, .slice (some ⟨g1, 0, none⟩) 1 1, .int .i64 1, .int .i64 1, .slice (some ⟨g2, 0, none⟩) 1 1] 27)
  have hrd := read16 hargs 1 2 sa (by decide) ⟨1, 6, noS⟩ aw8_read
  have Hrd := Lib.hid hrd; have K2 := Lib.hid k2; have B02 := Lib.hid b0
  clear hrd k2 b0 hargs hg2 hb2 B0 B1 K1
  go_wp2_with fail
  refine Hrd.out.mono ?_
  rintro e w3 ⟨rfl, hg3⟩
  have b0 := B02.out.grown hg3 (by simp)
  have k3 := grown_tr K2.out hg3
  have B0 := Lib.hid b0; have K3 := Lib.hid k3
  clear b0 k3 hg3 B02 K2 Hrd
  go_wp2_with fail
  refine (add37 1 w3).mono ?_
  rintro e w4 ⟨g4, rfl, hg4, hb4⟩
  have b0 := B0.out.grown hg4 (by simp)
  have hargs := args_one hb4 b0
  have k4 := grown_al (grown_tr K3.out hg4) (.cells #[.int .i64 1, .int .i64 1, .slice (some ⟨g4, 0, none⟩) 1 1] 27)
  have hln := len23 hargs 1 1 aw8_keys 1 rfl
  have Hln := Lib.hid hln; have K4 := Lib.hid k4
  clear hln k4 b0 hargs hg4 hb4 B0 K3
  go_wp2_with fail
  refine Hln.out.mono ?_
  rintro e w5 ⟨rfl, hg5⟩
  have K5 := Lib.hid (grown_tr K4.out hg5)
  clear hg5 K4 Hln
  go_wp2_with fail
  refine (len23 (args_none w5 none none) 0 0 aw8_none 0 rfl).mono ?_
  rintro e w6 ⟨rfl, hg6⟩
  have K6 := Lib.hid (grown_tr K5.out hg6)
  clear hg6 K5
  go_wp2_with fail
  refine (add37 1 w6).mono ?_
  rintro e w7 ⟨g7, rfl, hg7, hb7⟩
  have K7 := Lib.hid (grown_tr K6.out hg7)
  have B7 := Lib.hid hb7
  clear hg7 hb7 K6
  go_wp2_with fail
  refine (add37 2 w7).mono ?_
  rintro e w8 ⟨g8, rfl, hg8, hb8⟩
  have hb7 := B7.out.grown hg8 (by simp)
  have k8 := grown_al (grown_tr K7.out hg8) (.cells #[.int .i64 1, .int .i64 1, .slice (some ⟨g7, 0, none⟩) 1 1, .int .i64 1, .int .i64 1, .slice (some ⟨g8, 0, none⟩) 1 1] 27)
  have hto := touched17 (some ⟨w8.heap.size, 0, none⟩) 2 2 [⟨1, 1, some ⟨g7, 0, none⟩, 1, [ua 1]⟩, ⟨1, 1, some ⟨g8, 0, none⟩, 1, [ua 2]⟩] _ rfl (Rd.of_blk (Blk.new w8 27 #[.int .i64 1, .int .i64 1, .slice (some ⟨g7, 0, none⟩) 1 1, .int .i64 1, .int .i64 1, .slice (some ⟨g8, 0, none⟩) 1 1]) rfl (fun j u hu => by rw [← hu]; simp [rcells, rcells1]))
    (fun r hr => by
      simp only [List.mem_cons, List.not_mem_nil, or_false] at hr
      rcases hr with rfl | rfl
      · exact ua_round (hb7.alloc _) (by decide)
      · exact ua_round (hb8.alloc _) (by decide)) (by simp [flat]) (by omega) aw8_touch
  have Hto := Lib.hid hto; have K8 := Lib.hid k8
  clear hto k8 hb7 hb8 hg8 B7 K7
  go_wp2_with fail
  refine Hto.out.mono ?_
  rintro e w9 ⟨A', c', rfl, hnr⟩
  have k9 := grown_tr K8.out hnr.grown
  have r9 := hnr.rdN
  have K9 := Lib.hid (grown_al k9 (.cells #[.string sa] 9)); have R9 := Lib.hid (r9.alloc (by omega) (.cells #[.string sa] 9))
  clear k9 r9 hnr K8 Hto
  have hrB : Rd (w9.alloc (.cells #[.string sa] 9)) 1 (some ⟨w9.heap.size, 0, none⟩) 1 ([sa].map Value.string) :=
    Rd.of_blk (Blk.new w9 9 #[.string sa]) rfl (fun j u h => by rw [← h]; simp)
  have RB := Lib.hid hrB; clear hrB
  go_wp2_with fail
  refine (same31 A' _ 1 c' 1 [sa] _ R9.out RB.out (by omega)).mono ?_
  rintro e w10 ⟨rfl, mq, rfl⟩
  have Hend := Lib.hid (grown_tr K9.out (grown_drewN _ mq))
  clear K9 R9 RB
  go_wp2
  go_ret
  exact ⟨rfl, Hend.out⟩
end Go.Proofs.Ytihnldhdpiokhaa
