/- The walk of ReplayParts. -/
import Derived.Test.YtihnldhdpiokhaaReads08
namespace Go.Proofs.Ytihnldhdpiokhaa
open Go.RowKit
set_option linter.unusedVariables false

section
variable {w w0 w' : World} {A B : Option Addr} {n p : Nat} {os : List Upd} {rs : List Rnd}
/-- what is known of rounds with one more behind them -/
theorem ArgsAt.more (h : ArgsAt w A n os B p rs) (ro rn : Int) (c : Nat) (hc : n ≤ c) (hcm : c ≤ maxLen) (w' : World) (hg : w.grownBy w' none) (B' : Option Addr) (hr : Rd w' 3 B' (p + 1) (rcells (rs ++ [⟨ro, rn, A, c, os⟩]))) (hp : p + 1 ≤ 1000000) (A0 : Option Addr) :
    ArgsAt w' A0 0 [] B' (p + 1) (rs ++ [⟨ro, rn, A, c, os⟩]) ∧ flat (rs ++ [⟨ro, rn, A, c, os⟩]) ++ [] = flat rs ++ os := by
  have hf : flat (rs ++ [(⟨ro, rn, A, c, os⟩ : Rnd)]) ++ [] = flat rs ++ os := by simp [flat]
  refine ⟨⟨rfl, Rd.nil _ _ _, by simp, by simp [h.lr], hr, fun r hr' => ?_, by rw [hf]; exact h.len, hp⟩, hf⟩
  rcases List.mem_append.1 hr' with hr' | hr'
  · exact (h.wr r hr').kept hg
  · rw [List.mem_singleton] at hr'
    subst hr'
    exact ⟨by show os.length ≤ c; rw [h.lo]; exact hc, hcm, by show Rd w' 4 A os.length _; rw [h.lo]; exact h.ho.kept hg (by omega), h.wo⟩

set_option maxHeartbeats 4000000 in
set_option maxRecDepth 10000 in
theorem parts08 (h : Args0 w A n os B p rs) (c d : Nat) (hc : n ≤ c) (hcm : c ≤ maxLen) (key : ByteArray) (hk : key.size ≤ maxLen) : Calls Try.prog 12 #[.string key, .slice A n c, .slice B p d] w (BoolRet w true) := by
  obtain ⟨j0, hj, hy0, hy1, hy2⟩ := info_parts Try.info27
  have H := Lib.hid h; have Hk := Lib.hid hk; have Hcm := Lib.hid hcm; clear h hcm
  unfold maxLen at hk
  go_enter Try.func12, Try.ntmps12
  go_wp2_with fail
  refine (awake14 w).mono ?_
  rintro e w1 ⟨rfl, hg1⟩
  have K1 := Lib.hid hg1; clear hg1
  go_wp2_with fail
  refine (great15 (H.out.grown K1.out) c d).mono ?_
  rintro e w2 ⟨rfl, hg2⟩
  have K2 := Lib.hid (grown_tr K1.out hg2); clear hg2
  cases hgc : great08 os rs with
  | true =>
    go_wp2_with fail
    refine (awake14 w2).mono ?_
    rintro e w3 ⟨rfl, hg3⟩
    have K3 := Lib.hid (grown_tr K2.out hg3); clear hg3
    go_wp2
    go_ret
    exact ⟨rfl, K3.out⟩
  | false =>
    have harg := (H.out.grown K2.out).small hgc
    obtain ⟨hs1, hs2, hs3, hs4⟩ := great08_small hgc
    have hp12 : p ≤ 12 := by rw [← harg.lr]; exact hs2
    have Ha := Lib.hid harg; clear hgc harg hs1 hs2 hs3 hs4
    by_cases hk100 : 100 < key.size
    · go_wp2_with fail
      refine (awake14 w2).mono ?_
      rintro e w3 ⟨rfl, hg3⟩
      have K3 := Lib.hid (grown_tr K2.out hg3); clear hg3
      go_wp2
      go_ret
      exact ⟨rfl, K3.out⟩
    · obtain ⟨v, hv⟩ : ∃ v, stOf (flat rs ++ os) key = v := ⟨_, rfl⟩
      have Hv := Lib.hid hv; clear hv
      obtain ⟨ks, hks⟩ := keys_exist (flat rs ++ os)
      obtain ⟨q, hq⟩ : ∃ q, ks.length = q := ⟨_, rfl⟩
      have Hks := Lib.hid hks; have Hq := Lib.hid hq; clear hks hq
      have Hb := Lib.hid (Ha.out.hr.alloc (by omega) (.cells #[] 27))
      have hO0 : OwnS (w2.alloc (.cells #[] 27)) (give (fun _ => 0) w2.heap.size 1) 1 27 3 (some ⟨w2.heap.size, 0, none⟩) 0 0 [] := ⟨rfl, .inr ⟨w2.heap.size, #[], rfl, give_new (Nat.le_refl _), Blk.new w2 27 #[], by omega, by unfold maxLen; omega, rfl, rfl⟩⟩
      have HO0 := Lib.hid hO0; clear hO0
      have hst0 : Step 1 w2 (fun _ => 0) (w2.alloc (.cells #[] 27)) (give (fun _ => 0) w2.heap.size 1) := ((Step.refl 1 w2 (fun _ => 0)).give_ 1).alloc _
      have Hst0 := Lib.hid hst0; clear hst0
      go_wp2_with (first
        | (at_builtin; refine wpList_mine rfl (.tmp 21) (.tmp 22) 22 rfl 27 j0 (.agg #[.int .i64 0, .int .i64 0, .slice none 0 0]) 3 40 Try.underlying22 hj hy0 hy1 hy2 rfl (by decide) (give (fun _ => 0) w2.heap.size 1) 1 (some ⟨w2.heap.size, 0, none⟩) 0 0 [] (by rfl) HO0.out B p d (rcells rs) (by rfl) Hb.out (rcells_one rs) (by unfold maxLen; omega) (by omega) ?_; intro A3 c3 w3 own3 hO3 st3; rw [Nat.zero_add, List.nil_append] at hO3; have HO3 := Lib.hid hO3; have Hst3 := Lib.hid (Hst0.out.trans st3); clear hO3 st3)
        | (at_builtin; refine wpList_mine rfl (.tmp 23) (.tmp 26) 22 rfl 27 j0 (.agg #[.int .i64 0, .int .i64 0, .slice none 0 0]) 3 40 Try.underlying22 hj hy0 hy1 hy2 rfl (by decide) own3 1 A3 p c3 (rcells rs) (by rfl) (HO3.out.alloc _) (some ⟨w3.heap.size, 0, none⟩) 1 1 [.int .i64 9, .int .i64 9, .slice A n c] (by rfl) (Rd.of_blk (Blk.new w3 27 #[.int .i64 9, .int .i64 9, .slice A n c]) rfl (fun q u h => by rw [← h]; simp)) (by simp [Value.oneCell']) (by unfold maxLen; omega) (by omega) ?_; intro A4 c4 w4 own4 hO4 st4; have HO4 := Lib.hid hO4; have Hst4 := Lib.hid ((Hst3.out.alloc _).trans st4); clear hO4 st4))
      have hg4 := grown_of_step Hst4.out (by omega)
      obtain ⟨hargs, hfl⟩ := Ha.out.more 9 9 c hc Hcm.out w4 hg4 A4 (by rw [rcells_append, show rcells [(⟨9, 9, A, c, os⟩ : Rnd)] = [.int .i64 9, .int .i64 9, .slice A n c] by simp [rcells, rcells1, Ha.out.lo]]; exact HO4.out.row.rd) (by omega) none
      have Hargs := Lib.hid hargs; have Hfl := Lib.hid hfl; have Ha4 := Lib.hid (Ha.out.grown hg4); have K4 := Lib.hid (grown_tr K2.out hg4)
      clear hargs hfl hg4 HO4 Hst4 HO3 Hst3 HO0 Hst0 Hb
      go_wp2_with fail
      refine (read16 Ha4.out c d key Hk.out v Hv.out).mono ?_
      rintro e w5 ⟨rfl, hg5⟩
      have K5 := Lib.hid (grown_tr K4.out hg5); have Ha5 := Lib.hid (Ha4.out.grown hg5); have Hb5 := Lib.hid (Hargs.out.grown hg5)
      clear hg5
      go_wp2_with fail
      refine (read16 Hb5.out 0 c4 key Hk.out v (by rw [Hfl.out]; exact Hv.out)).mono ?_
      rintro e w6 ⟨rfl, hg6⟩
      have K6 := Lib.hid (grown_tr K5.out hg6); have Ha6 := Lib.hid (Ha5.out.grown hg6); have Hb6 := Lib.hid (Hb5.out.grown hg6)
      clear hg6
      go_wp2_with fail
      refine (len23 Ha6.out c d Hks.out (q : Int) (by rw [Hq.out])).mono ?_
      rintro e w7 ⟨rfl, hg7⟩
      have K7 := Lib.hid (grown_tr K6.out hg7); have Hb7 := Lib.hid (Hb6.out.grown hg7)
      clear hg7
      go_wp2_with fail
      refine (len23 Hb7.out 0 c4 (ks := ks) (by rw [Hfl.out]; exact Hks.out) (q : Int) (by rw [Hq.out])).mono ?_
      rintro e w8 ⟨rfl, hg8⟩
      have K8 := Lib.hid (grown_tr K7.out hg8); clear hg8
      go_wp2
      go_ret
      exact ⟨rfl, K8.out⟩
end
end Go.Proofs.Ytihnldhdpiokhaa
