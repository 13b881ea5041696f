/- The walk of ReplayReads. -/
import Derived.Test.YtihnldhdpiokhaaGre08
namespace Go.Proofs.Ytihnldhdpiokhaa
open Go.RowKit
set_option linter.unusedVariables false

theorem Try.info27 : (Try.prog.info? 27).map (fun i => (i.zero, i.size, i.bytes)) = some (some (.agg #[.int .i64 0, .int .i64 0, .slice none 0 0]), 3, 40) := by kernel_rfl
theorem rcells_one (l : List Rnd) : ∀ u ∈ rcells l, u.oneCell' = true := by
  intro u hu
  obtain ⟨x, _, hx⟩ := List.mem_flatMap.1 hu
  simp only [rcells1, List.mem_cons, List.not_mem_nil, or_false] at hx
  rcases hx with rfl | rfl | rfl <;> rfl
section
variable {w w0 w' : World} {A B : Option Addr} {n p : Nat} {os : List Upd} {rs : List Rnd}
set_option maxHeartbeats 4000000 in
set_option maxRecDepth 10000 in
theorem reads08 (h : Args0 w A n os B p rs) (c d : Nat) (key : ByteArray) (hk : key.size ≤ maxLen) : Calls Try.prog 10 #[.string key, .slice A n c, .slice B p d] w (BoolRet w true) := by
  obtain ⟨i0, hi, hz0, hz1, hz2⟩ := info_parts Try.info38
  obtain ⟨j0, hj, hy0, hy1, hy2⟩ := info_parts Try.info27
  have H := Lib.hid h; have Hk := Lib.hid hk; clear h
  unfold maxLen at hk
  go_enter Try.func10, Try.ntmps10
  go_wp2_with fail
  refine (awake14 w).mono ?_
  rintro e w1 ⟨rfl, hg1⟩
  have K1 := Lib.hid hg1; clear hg1
  go_wp2_with fail
  refine (great15 (H.out.grown K1.out) c d).mono ?_
  rintro e w2 ⟨rfl, hg2⟩
  have K2 := Lib.hid (grown_tr K1.out hg2); clear hg2
  cases hgc : great08 os rs with
  | true =>
    go_wp2_with fail
    refine (awake14 w2).mono ?_
    rintro e w3 ⟨rfl, hg3⟩
    have K3 := Lib.hid (grown_tr K2.out hg3); clear hg3
    go_wp2
    go_ret
    exact ⟨rfl, K3.out⟩
  | false =>
    have harg := (H.out.grown K2.out).small hgc
    have Ha := Lib.hid harg; clear hgc
    have hn1 : n ≤ 1000000 := by have := harg.len; rw [List.length_append, harg.lo] at this; omega
    have hp1 : p ≤ 1000000 := harg.rl
    clear harg
    by_cases hk100 : 100 < key.size
    · go_wp2_with fail
      refine (awake14 w2).mono ?_
      rintro e w3 ⟨rfl, hg3⟩
      have K3 := Lib.hid (grown_tr K2.out hg3); clear hg3
      go_wp2
      go_ret
      exact ⟨rfl, K3.out⟩
    · obtain ⟨v, hv⟩ : ∃ v, stOf (flat rs ++ os) key = v := ⟨_, rfl⟩
      have Hv := Lib.hid hv; clear hv
      have Ho := Lib.hid (Ha.out.ho.alloc (by omega) (.cells #[] 38))
      go_wp2_with (first
        | (at_builtin; refine wpList_copied rfl (.tmp 21) (.tmp 22) 25 rfl 38 i0 (.agg #[.string ByteArray.empty, .int .i64 0, .int .i64 0, .string ByteArray.empty]) 4 48 Try.underlying25 hi hz0 hz1 hz2 rfl (by decide) _ A n c (ucells os) (by rfl) (by rfl) Ho.out (ucells_one os) (by unfold maxLen; omega) (by omega) ?_; intro A3 c3 w3 hcp; have hg3 := grown_tr (World.grownBy_alloc w2 (.cells #[] 38) none) hcp.grown; have Hr3 := Lib.hid (NewRow.of_copied hcp Ha.out.ho.1).rdN; have Ha3 := Lib.hid (Ha.out.grown hg3); have K3 := Lib.hid (grown_tr K2.out hg3); have Hb3 := Lib.hid ((Ha.out.grown hg3).hr.alloc (by omega) (.cells #[] 27)); clear hg3 hcp)
        | (at_builtin; refine wpList_copied rfl (.tmp 24) (.tmp 25) 22 rfl 27 j0 (.agg #[.int .i64 0, .int .i64 0, .slice none 0 0]) 3 40 Try.underlying22 hj hy0 hy1 hy2 rfl (by decide) _ B p d (rcells rs) (by rfl) (by rfl) Hb3.out (rcells_one rs) (by unfold maxLen; omega) (by omega) ?_; intro A4 c4 w4 hcp; have hg4 := grown_tr (World.grownBy_alloc w3 (.cells #[] 27) none) hcp.grown; have Hr4 := Lib.hid (NewRow.of_copied hcp Ha.out.hr.1).rdN; have Ha4 := Lib.hid (Ha3.out.grown hg4); have Hs4 := Lib.hid (Hr3.out.kept hg4 (by omega)); have K4 := Lib.hid (grown_tr K3.out hg4); clear hg4 hcp))
      have hargs : ArgsAt w4 A3 n os A4 p rs := ⟨Ha4.out.lo, Hs4.out, Ha4.out.wo, Ha4.out.lr, Hr4.out, Ha4.out.wr, Ha4.out.len, Ha4.out.rl⟩
      refine (read16 hargs c3 c4 key Hk.out v Hv.out).mono ?_
      rintro e w5 ⟨rfl, hg5⟩
      have Ha5 := Lib.hid (Ha4.out.grown hg5); have K5 := Lib.hid (grown_tr K4.out hg5)
      clear hargs hg5
      go_wp2_with fail
      refine (read33 Ha5.out c d key Hk.out v Hv.out).mono ?_
      rintro e w6 ⟨rfl, hg6⟩
      have K6 := Lib.hid (grown_tr K5.out hg6); clear hg6
      go_wp2
      go_ret
      exact ⟨rfl, K6.out⟩
end
end Go.Proofs.Ytihnldhdpiokhaa
