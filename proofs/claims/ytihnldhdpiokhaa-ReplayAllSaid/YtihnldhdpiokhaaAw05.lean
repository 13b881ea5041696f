/- The walk of layer 5's awake. -/
import Derived.Test.YtihnldhdpiokhaaStb
import Derived.Test.YtihnldhdpiokhaaGre05
import Derived.Deep.CutRange
import Derived.Deep.DeepCutAuto
namespace Go.Proofs.Ytihnldhdpiokhaa
open Go.RowKit
set_option linter.unusedVariables false

@[reducible] def sa : ByteArray := { data := #[97] }
@[reducible] def sb : ByteArray := { data := #[98] }
@[reducible] def sx : ByteArray := { data := #[120] }
theorem sab : ¬ sa = sb := by decide
theorem ltAB : ltB sa sb := by
  unfold ltB
  decide
theorem aw_m (k : ByteArray) : doM (doM (doM noVals ⟨sb, 1, 1, noS⟩) ⟨sa, 2, 0, sx⟩) ⟨noS, 1, 0, noS⟩ k = if sa = k then ⟨2, 0, sx⟩ else if sb = k then ⟨1, 1, noS⟩ else zeroV := by
  have e1 : mayU ⟨sb, 1, 1, noS⟩ = 0 := by decide
  have e2 : mayU ⟨sa, 2, 0, sx⟩ = 0 := by decide
  have e3 : mayU ⟨noS, 1, 0, noS⟩ = 1 := by decide
  unfold doM noVals
  simp only [e1, e2, e3, and_true, show ¬ ((1 : Int) = 0) by decide, and_false, if_false]
  by_cases h : sa = k
  · subst h
    rw [if_pos rfl, if_pos rfl]; simp [applyV]
  · rw [if_neg h, if_neg h]
    split
    · simp [applyV]
    · rfl
theorem aw_m4 (k : ByteArray) : doM (doM (doM (doM noVals ⟨sb, 1, 1, noS⟩) ⟨sa, 2, 0, sx⟩) ⟨noS, 1, 0, noS⟩) ⟨sb, 5, 0, noS⟩ k = if sa = k then ⟨2, 0, sx⟩ else zeroV := by
  have e4 : mayU ⟨sb, 5, 0, noS⟩ = 0 := by decide
  rw [doM]
  simp only [e4, and_true]
  rw [aw_m]
  by_cases h : sb = k
  · subst h
    rw [if_pos rfl, if_neg sab]; simp [applyV]
  · rw [if_neg h, if_neg h]
theorem aw_keys : KeysOf (doM (doM (doM noVals ⟨sb, 1, 1, noS⟩) ⟨sa, 2, 0, sx⟩) ⟨noS, 1, 0, noS⟩) [sa, sb] := by
  refine ⟨by simp [ltAB], fun k => ?_⟩
  unfold hasV
  rw [aw_m]
  simp only [List.mem_cons, List.not_mem_nil, or_false]
  constructor
  · rintro (rfl | rfl)
    · rw [if_pos rfl]; decide
    · rw [if_neg sab, if_pos rfl]; decide
  · intro h
    by_cases h1 : sa = k
    · exact .inl h1.symm
    · rw [if_neg h1] at h
      by_cases h2 : sb = k
      · exact .inr h2.symm
      · rw [if_neg h2] at h
        exact absurd rfl h
theorem aw_keys4 : KeysOf (doM (doM (doM (doM noVals ⟨sb, 1, 1, noS⟩) ⟨sa, 2, 0, sx⟩) ⟨noS, 1, 0, noS⟩) ⟨sb, 5, 0, noS⟩) [sa] := by
  refine ⟨by simp, fun k => ?_⟩
  unfold hasV
  rw [aw_m4]
  simp only [List.mem_cons, List.not_mem_nil, or_false]
  constructor
  · rintro rfl
    rw [if_pos rfl]; decide
  · intro h
    by_cases h1 : sa = k
    · exact h1.symm
    · rw [if_neg h1] at h
      exact absurd rfl h

set_option maxHeartbeats 4000000 in
set_option maxRecDepth 10000 in
theorem awake25 (w : World) : Calls Try.prog 25 #[] w (BoolRet w true) := by
  have hk3 := aw_keys
  have hk4 := aw_keys4
  have hga := aw_m4 sa
  have hgb := aw_m4 sb
  rw [if_pos rfl] at hga
  rw [if_neg sab, show zeroV = ⟨0, 0, noS⟩ from rfl] at hgb
  have e1 : mayU ⟨sb, 1, 1, noS⟩ = 0 := by decide
  have e2 : mayU ⟨sa, 2, 0, sx⟩ = 0 := by decide
  have e3 : mayU ⟨noS, 1, 0, noS⟩ = 1 := by decide
  have e4 : mayU ⟨sb, 5, 0, noS⟩ = 0 := by decide
  have h1 := fun g n W (h : Stb w g noVals n (fun _ _ => True) W) => stb_do h Kept.none ⟨sb, 1, 1, noS⟩ (by decide) (by decide)
  rw [e1] at h1
  generalize doM noVals ⟨sb, 1, 1, noS⟩ = m1 at *
  have h2 := fun g n W (h : Stb w g m1 n (fun _ _ => True) W) => stb_do h Kept.none ⟨sa, 2, 0, sx⟩ (by decide) (by decide)
  rw [e2] at h2
  generalize doM m1 ⟨sa, 2, 0, sx⟩ = m2 at *
  have h3 := fun g n W (h : Stb w g m2 n (fun _ _ => True) W) => stb_do h Kept.none ⟨noS, 1, 0, noS⟩ (by decide) (by decide)
  rw [e3] at h3
  generalize doM m2 ⟨noS, 1, 0, noS⟩ = m3 at *
  have h4 := fun (A : Option Addr) g n W (h : Stb w g m3 n (fun w' own => True ∧ Row w' own 30 9 1 A 2 ([sa, sb].map Value.string)) W) => stb_do h (Kept.none.row 30 (by omega) 9 1 A 2 _) ⟨sb, 5, 0, noS⟩ (by decide) (by decide)
  rw [e4] at h4
  generalize doM m3 ⟨sb, 5, 0, noS⟩ = m4 at *
  have H1 := Lib.hid h1; have H2 := Lib.hid h2; have H3 := Lib.hid h3; have H4 := Lib.hid h4
  have Hk3 := Lib.hid hk3; have Hk4 := Lib.hid hk4; have Hga := Lib.hid hga; have Hgb := Lib.hid hgb
  clear h1 h2 h3 h4 hk3 hk4 hga hgb e1 e2 e3 e4
  go_enter Try.func25, Try.ntmps25
  go_wp2_with fail
  refine ((Pre.start w).new Kept.none).mono ?_
  rintro e w1 ⟨rfl, s1⟩
  go_wp2_with fail
  refine (H1.out _ _ _ s1 (by omega)).mono ?_
  rintro e w2 ⟨rfl, s2⟩
  clear s1
  go_wp2_with fail
  refine (H2.out _ _ _ s2 (by omega)).mono ?_
  rintro e w3 ⟨rfl, s3⟩
  clear s2
  go_wp2_with fail
  refine (H3.out _ _ _ s3 (by omega)).mono ?_
  rintro e w4 ⟨rfl, s4⟩
  clear s3
  go_wp2_with fail
  refine (stb_len s4 Hk3.out 2 rfl).mono ?_
  rintro e w5 ⟨rfl, rfl⟩
  go_wp2_with fail
  refine (stb_keys s4 Kept.none Hk3.out (by omega) 2 rfl).mono ?_
  rintro e w5 ⟨A, c, rfl, s5⟩
  clear s4
  go_wp2_with fail
  refine (H4.out A _ _ _ s5 (by omega)).mono ?_
  rintro e w6 ⟨rfl, s6⟩
  clear s5
  have K6 := Lib.hid (Kept.none.row 30 (by omega) 9 1 A 2 ([sa, sb].map Value.string))
  go_wp2_with fail
  have hA := (s6.grown K6.out (World.grownBy_alloc w6 (.cells #[.string sa, .string sb] 9) none))
  have hrA : Rd (w6.alloc (.cells #[.string sa, .string sb] 9)) 1 A 2 ([sa, sb].map Value.string) := hA.rd (fun _ _ h => h.2)
  have hrB : Rd (w6.alloc (.cells #[.string sa, .string sb] 9)) 1 (some ⟨w6.heap.size, 0, none⟩) 2 ([sa, sb].map Value.string) :=
    Rd.of_blk (Blk.new w6 9 #[.string sa, .string sb]) rfl (fun j u h => by rw [← h]; simp)
  refine (same31 A _ 2 c 2 [sa, sb] _ hrA hrB (by omega)).mono ?_
  rintro e w7 ⟨rfl, mq, rfl⟩
  have s7 := (hA.drewN K6.out mq).weaken (Y := fun _ _ => True) (fun _ _ _ => trivial)
  clear hA hrA hrB s6
  go_wp2_with fail
  refine (stb_len s7 Hk4.out 1 rfl).mono ?_
  rintro e w8 ⟨rfl, rfl⟩
  go_wp2_with fail
  refine (stb_get s7 Kept.none sa (by decide) _ Hga.out).mono ?_
  rintro e w9 ⟨rfl, s9⟩
  clear s7
  go_wp2_with fail
  refine (stb_get s9 Kept.none sb (by decide) _ Hgb.out).mono ?_
  rintro e w10 ⟨rfl, s10⟩
  clear s9
  have hend := s10.end_
  have Hend := Lib.hid hend; clear hend s10
  go_wp2
  go_ret
  exact ⟨rfl, Hend.out⟩
end Go.Proofs.Ytihnldhdpiokhaa
