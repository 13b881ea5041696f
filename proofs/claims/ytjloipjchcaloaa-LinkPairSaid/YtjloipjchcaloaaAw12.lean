/- awake of layer 12's statements: true; it changes nothing that was there. -/
import Derived.Test.YtjloipjchcaloaaEndsMore
namespace Go.Proofs.Ytjloipjchcaloaa
open Go.RowKit
set_option linter.unusedVariables false

set_option maxHeartbeats 4000000 in
set_option maxRecDepth 10000 in
theorem awake12 (w : World) : Calls Try.prog 46 #[] w (NewRet w (.bool true)) := by
  go_enter Try.func46, Try.ntmps46
  go_wp2_with fail
  refine (lnk_new 1 (fun _ => 0) 2 4 4 false w).mono ?_
  rintro e w1 ⟨rfl, own1, st1, h1⟩
  obtain ⟨ga, hga⟩ : ∃ ga, ga = w.heap.size := ⟨_, rfl⟩
  rw [← hga] at h1 ⊢
  clear hga
  go_wp2_with fail
  refine (lnk_new 2 own1 0 4 4 true w1).mono ?_
  rintro e w2 ⟨rfl, own2, st2, h2⟩
  obtain ⟨gb, hgb⟩ : ∃ gb, gb = w1.heap.size := ⟨_, rfl⟩
  rw [← hgb] at h2 ⊢
  clear hgb
  have hE : Ends w ga (Lnk.new 2 4 4 false) gb (Lnk.new 0 4 4 true) (fun _ _ => True) w2 :=
    ⟨own2, ((Base.start w).stepG st1 (by omega)).stepG st2 (by omega), h1.other st2 (by omega), h2, trivial⟩
  clear st1 st2 h1 h2
  have eF : (Lnk.new 0 4 4 true).frames = [] := by simp [Lnk.frames, Lnk.new, epochC, clampI]
  have EF := Lib.hid eF; clear eF
  go_wp2_with fail
  refine (ends_frames2 hE).mono ?_
  rw [EF.out]
  rintro e w3 ⟨A3, c3, rfl, hnr⟩
  have hE3 := hE.grown Kept.none hnr.grown
  clear hnr hE
  go_wp2_with fail
  refine (ends_offer1 hE3 Kept.none ⟨#[120]⟩ 0 ⟨4, 1125899906842624, 1, [⟨#[120]⟩]⟩ (by rfl) (by rfl)).mono ?_
  rintro e w4 ⟨rfl, hE4⟩
  clear hE3
  obtain ⟨La, hLa⟩ : ∃ La : Lnk, La = { Lnk.new 2 4 4 false with s := ⟨4, 1125899906842624, 1, [⟨#[120]⟩]⟩ } := ⟨_, rfl⟩
  rw [← hLa] at hE4
  have eF1 : La.frames = [⟨2, 1, 0, ⟨#[120]⟩⟩] := by rw [hLa]; simp [Lnk.frames, Lnk.new, epochC, clampI, frs, Rcv.new]
  have EF1 := Lib.hid eF1; clear eF1
  have HLa := Lib.hid hLa; clear hLa
  go_wp2_with fail
  refine (ends_frames1 hE4).mono ?_
  rw [EF1.out]
  rintro e w5 ⟨A5, c5, rfl, hnr⟩
  have hE5 := hE4.hold Kept.none hnr
  have hr5 := (hnr.row (fun _ => 0) w4.heap.size 30 (Nat.le_refl _)).rd
  clear hnr hE4
  go_wp2_with fail
  have hrb : Rd (w5.alloc (.cells #[.int .i64 2, .int .i64 1, .int .i64 0, .string ⟨#[120]⟩] 78)) 4 (some ⟨w5.heap.size, 0, none⟩) 1 (fcells [⟨2, 1, 0, ⟨#[120]⟩⟩]) := Rd.of_blk (Blk.new w5 78 _) (by simp [fcells]) (fun j u h => by simpa [fcells] using h)
  have hra := hr5.alloc (by omega) (.cells #[.int .i64 2, .int .i64 1, .int .i64 0, .string ⟨#[120]⟩] 78)
  have hK1 := Kept.row Kept.none 78 4 A5 1 (fcells [⟨2, 1, 0, ⟨#[120]⟩⟩])
  have hE6 := hE5.grown hK1 (World.grownBy_alloc w5 (.cells #[.int .i64 2, .int .i64 1, .int .i64 0, .string ⟨#[120]⟩] 78) none)
  clear hE5 hr5
  refine (sameFrames_yes _ _ _ _ _ _ _ hra hrb (by simp)).mono ?_
  rintro e w7 ⟨rfl, m, rfl⟩
  clear hra hrb
  have hE7 := hE6.grown hK1 (grown_drewN _ m)
  clear hE6
  generalize (w5.alloc (.cells #[.int .i64 2, .int .i64 1, .int .i64 0, .string ⟨#[120]⟩] 78)).drewN m = W7 at hE7 ⊢
  obtain ⟨b5, o5, rfl⟩ : ∃ b5 o5, A5 = some ⟨b5, o5, none⟩ := by
    obtain ⟨own, _, _, _, _, hr⟩ := hE7
    obtain ⟨b, off, _, e, _⟩ := hr.2 (by simp)
    exact ⟨b, off, e⟩
  obtain ⟨Lb, hLb⟩ : ∃ Lb : Lnk, Lb = ⟨2, 4, 4, true, Snd.new 4 1125899906842624, ⟨4, 1, [⟨#[120]⟩]⟩⟩ := ⟨_, rfl⟩
  have eh1 : (Lnk.new 0 4 4 true).hear 2 1 0 ⟨#[120]⟩ = Lb := by rw [hLb]; rfl
  have ea1 : (Lnk.new 0 4 4 true).anew 2 = true := by rfl
  have eh2 : Lb.hear 2 1 0 ⟨#[120]⟩ = Lb := by rw [hLb]; rfl
  have ea2 : Lb.anew 2 = false := by rw [hLb]; rfl
  have hka : (Lnk.new 0 4 4 true).r.acked ≤ 1125899906842624 := by decide
  have hkb : Lb.r.acked ≤ 1125899906842624 := by rw [hLb]; decide
  have Eh1 := Lib.hid eh1; clear eh1
  have Ea1 := Lib.hid ea1; clear ea1
  have Eh2 := Lib.hid eh2; clear eh2
  have Ea2 := Lib.hid ea2; clear ea2
  have HLb := Lib.hid hLb; clear hLb
  have hf : ∀ (W : World) (L1 L2 : Lnk), Ends w ga L1 gb L2 (fun w own => True ∧ Row w own 30 78 4 (some ⟨b5, o5, none⟩) 1 (fcells [⟨2, 1, 0, ⟨#[120]⟩⟩])) W →
      W.cell? ⟨b5, o5, none⟩ = some (.int .i64 2) ∧ W.cell? ⟨b5, o5 + 1, none⟩ = some (.int .i64 1) ∧ W.cell? ⟨b5, o5 + 2, none⟩ = some (.int .i64 0) ∧ W.cell? ⟨b5, o5 + 3, none⟩ = some (.string ⟨#[120]⟩) := fun W L1 L2 h => by
    simpa using held_frame h (k := 0) (by omega) (f := ⟨2, 1, 0, ⟨#[120]⟩⟩) rfl
  have Hf := Lib.hid hf; clear hf
  have hE7d := hE7.grown hK1 (grown_drewN _ 1)
  obtain ⟨q0, q1, q2, q3⟩ := Hf.out _ _ _ hE7d
  have q0' : W7.drew.cell? ⟨b5, o5, none⟩ = some (.int .i64 2) := q0
  have q1' : W7.drew.cell? ⟨b5, o5 + 1, none⟩ = some (.int .i64 1) := q1
  have q2' : W7.drew.cell? ⟨b5, o5 + 2, none⟩ = some (.int .i64 0) := q2
  have q3' : W7.drew.cell? ⟨b5, o5 + 3, none⟩ = some (.string ⟨#[120]⟩) := q3
  clear q0 q1 q2 q3
  have HK1 := Lib.hid hK1; clear hK1
  go_wp2_with fail
  go_region_held3 (fun w' => w'.cell? ⟨b5, o5, none⟩ = some (.int .i64 2) ∧ w'.cell? ⟨b5, o5 + 1, none⟩ = some (.int .i64 1) ∧ w'.cell? ⟨b5, o5 + 2, none⟩ = some (.int .i64 0) ∧ w'.cell? ⟨b5, o5 + 3, none⟩ = some (.string ⟨#[120]⟩)) (first | (go_keep; done) | (refine ⟨?_, ?_, ?_, ?_⟩ <;> assumption))
   (first
    | (go_at_call 50
       refine (ends_hear2 hE8 HK1.out 2 1 0 ⟨#[120]⟩ hkb).mono ?_
       rw [Eh2.out, Ea2.out]
       rintro e w9 ⟨rfl, hE9⟩
       have kk9 := Hf.out _ _ _ hE9
       rcases kk9 with ⟨r0, r1, r2, r3⟩)
    | (go_at_call 50
       refine (ends_hear2 hE7d HK1.out 2 1 0 ⟨#[120]⟩ hka).mono ?_
       rw [Eh1.out, Ea1.out]
       rintro e w8 ⟨rfl, hE8⟩
       have kk8 := Hf.out _ _ _ hE8
       rcases kk8 with ⟨s0, s1, s2, s3⟩))
  clear s0 s1 s2 s3 r0 r1 r2 r3 hE7d hE7
  have hp1 : Lb.r.popV = ⟨#[120]⟩ := by rw [HLb.out]; rfl
  have hp2 : Lb.r.popB = true := by rw [HLb.out]; rfl
  have Hp1 := Lib.hid hp1; clear hp1
  have Hp2 := Lib.hid hp2; clear hp2
  go_wp2_with fail
  refine (ends_pop2 hE9 HK1.out ⟨#[120]⟩ true _ Hp1.out Hp2.out rfl).mono ?_
  rintro e w10 ⟨rfl, hE10⟩
  clear hE9 hE8
  obtain ⟨Lc, hLc⟩ : ∃ Lc : Lnk, Lc = { Lb with r := Lb.r.pop } := ⟨_, rfl⟩
  rw [← hLc] at hE10
  have eF2 : Lc.frames = [⟨2, 0, 1, ByteArray.empty⟩] := by rw [hLc, HLb.out]; rfl
  have EF2 := Lib.hid eF2; clear eF2
  have HLc := Lib.hid hLc; clear hLc
  have hE10' := hE10.weaken (fun _ _ h => h.1)
  clear hE10
  go_wp2_with fail
  refine (ends_frames2 hE10').mono ?_
  rw [EF2.out]
  rintro e w11 ⟨A11, c11, rfl, hnr⟩
  have hE11 := hE10'.hold Kept.none hnr
  have hr11 := (hnr.row (fun _ => 0) w10.heap.size 30 (Nat.le_refl _)).rd
  clear hnr hE10'
  go_wp2_with fail
  have hrb : Rd (w11.alloc (.cells #[.int .i64 2, .int .i64 0, .int .i64 1, .string ⟨#[]⟩] 78)) 4 (some ⟨w11.heap.size, 0, none⟩) 1 (fcells [⟨2, 0, 1, ByteArray.empty⟩]) := Rd.of_blk (Blk.new w11 78 _) (by simp [fcells]) (fun j u h => by rw [Nat.zero_add, List.getElem?_toArray]; exact h)
  have hra := hr11.alloc (by omega) (.cells #[.int .i64 2, .int .i64 0, .int .i64 1, .string ⟨#[]⟩] 78)
  have hK2 := Kept.row Kept.none 78 4 A11 1 (fcells [⟨2, 0, 1, ByteArray.empty⟩])
  have hE12 := hE11.grown hK2 (World.grownBy_alloc w11 (.cells #[.int .i64 2, .int .i64 0, .int .i64 1, .string ⟨#[]⟩] 78) none)
  clear hE11 hr11
  refine (sameFrames_yes _ _ _ _ _ _ _ hra hrb (by simp)).mono ?_
  rintro e w13 ⟨rfl, m, rfl⟩
  clear hra hrb
  have hE13 := hE12.grown hK2 (grown_drewN _ m)
  clear hE12
  generalize (w11.alloc (.cells #[.int .i64 2, .int .i64 0, .int .i64 1, .string ⟨#[]⟩] 78)).drewN m = W13 at hE13 ⊢
  obtain ⟨b6, o6, rfl⟩ : ∃ b6 o6, A11 = some ⟨b6, o6, none⟩ := by
    obtain ⟨own, _, _, _, _, hr⟩ := hE13
    obtain ⟨b, off, _, e, _⟩ := hr.2 (by simp)
    exact ⟨b, off, e⟩
  have kk := held_frame hE13 (k := 0) (Nat.zero_lt_one) (f := ⟨2, 0, 1, ByteArray.empty⟩) rfl
  simp only [Nat.zero_mul, Nat.add_zero] at kk
  obtain ⟨y0, y1, y2, y3⟩ := kk
  obtain ⟨Ld, hLd⟩ : ∃ Ld : Lnk, Ld = La.hear 2 0 1 ByteArray.empty := ⟨_, rfl⟩
  have hu : (Ld.s.ds.length : Int) = 0 := by rw [hLd, HLa.out]; rfl
  have hka' : La.r.acked ≤ 1125899906842624 := by rw [HLa.out]; decide
  have he : (Lc.epoch : Int) = 2 := by rw [HLc.out, HLb.out]; rfl
  have hw : (Lc.r.q.length : Int) = 0 := by rw [HLc.out, HLb.out]; rfl
  have Hu := Lib.hid hu; clear hu
  have He := Lib.hid he; clear he
  have Hw := Lib.hid hw; clear hw
  have HK2 := Lib.hid hK2; clear hK2
  go_wp2_with fail
  refine (ends_hear1 hE13 HK2.out 2 0 1 ByteArray.empty hka').mono ?_
  rw [← hLd]
  clear hLd y0 y1 y2 y3
  rintro e w14 ⟨rfl, hE14⟩
  clear hE13
  go_wp2_with fail
  refine (ends_epoch2 hE14 2 He.out).mono ?_
  rintro e w15 ⟨rfl, rfl⟩
  go_wp2_with fail
  refine (ends_unacked1 hE14 0 Hu.out).mono ?_
  rintro e w16 ⟨rfl, rfl⟩
  go_wp2_with fail
  refine (ends_waiting2 hE14 0 Hw.out).mono ?_
  rintro e w17 ⟨rfl, rfl⟩
  go_wp2
  go_ret
  exact ⟨rfl, hE14.end_⟩
end Go.Proofs.Ytjloipjchcaloaa
