/- do of layer 19's statements: an act, on the bag and on the reference's: what is told is the same. -/
import Derived.Test.YtiipioifjjemoaaTwo
import Derived.Test.YtiipioifjjemoaaActsC
import Derived.Outline
namespace Go.Proofs.Ytiipioifjjemoaa
open Go.RowKit
set_option linter.unusedVariables false

def stepC (s : BSt) (a : ActC) : BSt :=
  if a.kind = 1 then addS s a.ps else if a.kind = 2 then takeS s a.n else if a.kind = 3 then (twiceB s a.n).2 else if a.kind = 4 then (spoilB s a.n a.bit a.mask).2 else s

def SmallB (s : BSt) : Prop := ∀ q ∈ s, q.1.bytes.size ≤ 1099511627776

def DoRet (w0 : World) (g r : Nat) (X : Hold) (s : BSt) (e : Ending) (w' : World) : Prop := e = .returned (.bool true) ∧ Two w0 g s r s X w'

section
variable {w0 w w' : World} {g r : Nat} {s t : BSt} {X Y : Hold}
set_option maxHeartbeats 8000000 in
set_option maxRecDepth 10000 in
theorem do19 (h : Two w0 g s r s X w) (hX : Kept X) (a : ActC) (hwf : ActWf w0 a) (hsm : SmallB s) (hp20 : a.ps.length ≤ 20) :
    Calls Try.prog 10 #[.pointer (some ⟨g, 0, none⟩), .pointer (some ⟨r, 0, none⟩), .agg #[.int .i64 a.kind, .int .i64 a.n, .int .i64 a.bit, .int .u32 a.mask, .slice a.A a.ps.length a.c]] w
      (DoRet w0 g r X (stepC s a)) := by
  obtain ⟨i0, hi, hz0, hz1, hz2⟩ := info_parts Try.info39
  obtain ⟨hac, hcm, hm0, hm1, hrd⟩ := hwf
  obtain ⟨kd, an, bit, mask, A, c, ps⟩ := a
  dsimp only at hac hcm hm0 hm1 hrd hp20 ⊢
  obtain ⟨m, hm⟩ : ∃ m, ps.length = m := ⟨_, rfl⟩
  have hpl : (pcells ps).length = m * 3 := by rw [pcells_length, hm]
  rw [hm] at hac hrd hp20 ⊢
  have Hm := Lib.hid hm; clear hm
  have Hpl := Lib.hid hpl; clear hpl
  have Hrd := Lib.hid hrd; clear hrd
  have Hone := Lib.hid (pcells_one ps)
  have Hsm := Lib.hid hsm; clear hsm
  have hS1 : ∀ (e : Ending) (w' : World), kd = 1 → DoRet w0 g r X (addS s ps) e w' → DoRet w0 g r X (stepC s ⟨kd, an, bit, mask, A, c, ps⟩) e w' := fun e w' h1 h2 => by
    rw [show stepC s ⟨kd, an, bit, mask, A, c, ps⟩ = addS s ps by unfold stepC; rw [if_pos h1]]
    exact h2
  have HS1 := Lib.hid hS1; clear hS1
  have hS2 : ∀ (e : Ending) (w' : World), kd = 2 → DoRet w0 g r X (takeS s an) e w' → DoRet w0 g r X (stepC s ⟨kd, an, bit, mask, A, c, ps⟩) e w' := fun e w' h1 h2 => by
    rw [show stepC s ⟨kd, an, bit, mask, A, c, ps⟩ = takeS s an by unfold stepC; simp [h1]]
    exact h2
  have HS2 := Lib.hid hS2; clear hS2
  have hS3 : ∀ (e : Ending) (w' : World), kd = 3 → DoRet w0 g r X ((twiceB s an).2) e w' → DoRet w0 g r X (stepC s ⟨kd, an, bit, mask, A, c, ps⟩) e w' := fun e w' h1 h2 => by
    rw [show stepC s ⟨kd, an, bit, mask, A, c, ps⟩ = (twiceB s an).2 by unfold stepC; simp [h1]]
    exact h2
  have HS3 := Lib.hid hS3; clear hS3
  have hS4 : ∀ (e : Ending) (w' : World), kd = 4 → DoRet w0 g r X ((spoilB s an bit mask).2) e w' → DoRet w0 g r X (stepC s ⟨kd, an, bit, mask, A, c, ps⟩) e w' := fun e w' h1 h2 => by
    rw [show stepC s ⟨kd, an, bit, mask, A, c, ps⟩ = (spoilB s an bit mask).2 by unfold stepC; simp [h1]]
    exact h2
  have HS4 := Lib.hid hS4; clear hS4
  have hS5 : ∀ (e : Ending) (w' : World), (kd ≠ 1 ∧ kd ≠ 2 ∧ kd ≠ 3 ∧ kd ≠ 4) → DoRet w0 g r X (s) e w' → DoRet w0 g r X (stepC s ⟨kd, an, bit, mask, A, c, ps⟩) e w' := fun e w' h1 h2 => by
    rw [show stepC s ⟨kd, an, bit, mask, A, c, ps⟩ = s by unfold stepC; simp [h1.1, h1.2.1, h1.2.2.1, h1.2.2.2]]
    exact h2
  have HS5 := Lib.hid hS5; clear hS5
  generalize DoRet w0 g r X (stepC s ⟨kd, an, bit, mask, A, c, ps⟩) = R at *
  have h1 := h.alloc hX 34 #[.int .i64 kd, .int .i64 an, .int .i64 bit, .int .u32 mask, .slice A m c]
  have K1 := Lib.hid (Kept.blk hX 31 (by omega) w.heap.size 34 #[.int .i64 kd, .int .i64 an, .int .i64 bit, .int .u32 mask, .slice A m c])
  clear h
  by_cases hk1 : kd = 1
  · subst hk1
    go_enter Try.func10, Try.ntmps10
    go_wp2_with fail
    generalize w.alloc (.cells #[.int .i64 1, .int .i64 an, .int .i64 bit, .int .u32 mask, .slice A m c] 34) = W1 at h1 ⊢
    have hb1 := h1.blk (fun _ _ h => h.2.2)
    have y4 : W1.drew.cell? ⟨w.heap.size, 4, none⟩ = some (.slice A m c) := hb1.cell 4
    have y4' : W1.cell? ⟨w.heap.size, 4, none⟩ = some (.slice A m c) := hb1.cell 4
    clear hb1
    go_region_held3 (fun w' => w'.cell? ⟨w.heap.size, 4, none⟩ = some (.slice A m c)) (first | assumption | (go_keep; done))
     (first
      | (go_at_call 20
         refine (tw_radd hE2 K2.out ps _ m _ Hm.out Hrd.out).mono ?_
         rintro e w3 ⟨rfl, hE3⟩
         have z4 : w3.cell? ⟨w.heap.size, 4, none⟩ = some (.slice A m c) := (hE3.blk (fun _ _ h => h.1.2.2)).cell 4)
      | (go_at_call 15
         refine (tw_add hE1 K2.out ps _ m _ 30 Hm.out rfl (fun _ _ h => h.2) hle hmx).mono ?_
         rintro e w2 ⟨rfl, hE2⟩
         have z3 : w2.cell? ⟨w.heap.size, 4, none⟩ = some (.slice A m c) := (hE2.blk (fun _ _ h => h.1.2.2)).cell 4)
      | (refine step_copied rfl (.tmp 16) (.tmp 18) 26 rfl 39 i0 (.agg #[.int .i64 0, .int .i64 0, .string ByteArray.empty]) 3 32 Try.underlying26 hi hz0 hz1 hz2 rfl (by decide) _ A m c (pcells ps) (by rfl) (by rfl) ((h1.grown K1.out (by repeat' (first | exact World.grownBy.refl _ none | apply grow_alloc | apply grow_drew))).old Hrd.out (by omega)) Hone.out (by unfold maxLen; omega) (by omega) ?_
         intro A1 c1 w1 hcp
         have hE1 := (h1.grown K1.out (by repeat' (first | exact World.grownBy.refl _ none | apply grow_alloc | apply grow_drew))).hold K1.out (NewRow.of_copied hcp Hpl.out)
         have hle := hcp.le
         have hmx := hcp.max
         have z2 : w1.cell? ⟨w.heap.size, 4, none⟩ = some (.slice A m c) := (hE1.blk (fun _ _ h => h.1.2.2)).cell 4
         have K2 := Lib.hid (Kept.row K1.out 30 (by omega) 39 3 A1 m (pcells ps))
         clear hcp))
    all_goals go_wp2
    all_goals (exact HS1.out _ _ (by simp) ⟨rfl, hE3.weaken (fun _ _ h => h.1.1)⟩)
  · have hd1 : (kd == 1) = false := by simpa using hk1
    by_cases hk2 : kd = 2
    · subst hk2
      obtain ⟨tp, htp⟩ : ∃ tp, takeP s an = tp := ⟨_, rfl⟩
      obtain ⟨⟨p1, p2, p3⟩, pt⟩ := tp
      have hta := fun (t : BSt) (Y : Hold) (W : World) (h : Two w0 g s r t Y W) (hY : Kept Y) => tw_take h hY an
      have htb := fun (s' : BSt) (Y : Hold) (W : World) (h : Two w0 g s' r s Y W) (hY : Kept Y) => tw_rtake h hY an
      rw [htp] at hta htb
      have Hta := Lib.hid hta; clear hta
      have Htb := Lib.hid htb; clear htb htp
      have hb1 := h1.blk (fun _ _ h => h.2.2)
      have y1 := hb1.cell 1
      simp only [List.getElem?_toArray, List.getElem?_cons_zero, List.getElem?_cons_succ] at y1
      clear hb1
      go_enter Try.func10, Try.ntmps10
      go_wp2_with fail
      refine (Hta.out _ _ _ h1 K1.out).mono ?_
      rintro e w2 ⟨rfl, h2⟩
      clear h1 y1
      have h3 := h2.alloc K1.out 39 #[.int .i64 p1, .int .i64 p2, .string p3]
      have K3 := Lib.hid (Kept.blk K1.out 31 (by omega) w2.heap.size 39 #[.int .i64 p1, .int .i64 p2, .string p3])
      have hb1 := h2.blk (fun _ _ h => h.2.2)
      have y1 := hb1.cell 1
      have hbl := hb1.lt
      simp only [List.getElem?_toArray, List.getElem?_cons_zero, List.getElem?_cons_succ] at y1
      clear hb1 h2
      go_wp2_with fail
      refine (Htb.out _ _ _ h3 K3.out).mono ?_
      rintro e w4 ⟨rfl, h4⟩
      clear h3 y1 hbl
      have hb4 := h4.blk (fun _ _ h => h.2.2)
      have z0 := hb4.cell 0
      have z1 := hb4.cell 1
      have z2 := hb4.cell 2
      have hbl := hb4.lt
      simp only [List.getElem?_toArray, List.getElem?_cons_zero, List.getElem?_cons_succ] at z0 z1 z2
      have h5 := h4.grown K3.out (World.grownBy_alloc w4 (.cells #[.int .i64 p1, .int .i64 p2, .string p3] 39) none)
      have H5 := Lib.hid h5; clear h5 h4 hb4
      go_wp2
      exact HS2.out _ _ (by simp) ⟨rfl, H5.out.weaken (fun _ _ h => h.1.1)⟩
    · have hd2 : (kd == 2) = false := by simpa using hk2
      by_cases hk3 : kd = 3
      · subst hk3
        obtain ⟨tv, htv⟩ : ∃ tv, twiceB s an = tv := ⟨_, rfl⟩
        obtain ⟨te, tS⟩ := tv
        have hta := fun (t : BSt) (Y : Hold) (W : World) (h : Two w0 g s r t Y W) (hY : Kept Y) => tw_twice h hY an
        have htb := fun (s' : BSt) (Y : Hold) (W : World) (h : Two w0 g s' r s Y W) (hY : Kept Y) => tw_rtwice h hY an
        rw [htv] at hta htb HS3
        have Hta := Lib.hid hta; clear hta
        have Htb := Lib.hid htb; clear htb htv
        have hb1 := h1.blk (fun _ _ h => h.2.2)
        have y1 := hb1.cell 1
        simp only [List.getElem?_toArray, List.getElem?_cons_zero, List.getElem?_cons_succ] at y1
        go_enter Try.func10, Try.ntmps10
        go_wp2_with fail
        generalize w.alloc (.cells #[.int .i64 3, .int .i64 an, .int .i64 bit, .int .u32 mask, .slice A m c] 34) = W1 at h1 y1 hb1 ⊢
        have hE1 : Two w0 g s r s _ W1.drew := h1.drewN K1.out 1
        have y1' : W1.drew.cell? ⟨w.heap.size, 1, none⟩ = some (.int .i64 an) := y1
        clear h1 hb1
        go_region_held3 (fun w' => w'.cell? ⟨w.heap.size, 1, none⟩ = some (.int .i64 an)) (first | assumption | (go_keep; done))
         (first
          | (go_at_call 22
             refine (Htb.out _ _ _ hE2 K1.out).mono ?_
             rintro e w3 ⟨rfl, hE3⟩
             have z4 : w3.cell? ⟨w.heap.size, 1, none⟩ = some (.int .i64 an) := (hE3.blk (fun _ _ h => h.2.2)).cell 1)
          | (go_at_call 17
             refine (Hta.out _ _ _ hE1 K1.out).mono ?_
             rintro e w2 ⟨rfl, hE2⟩
             have z3 : w2.cell? ⟨w.heap.size, 1, none⟩ = some (.int .i64 an) := (hE2.blk (fun _ _ h => h.2.2)).cell 1))
        all_goals go_wp2
        all_goals (exact HS3.out _ _ (by simp) ⟨rfl, hE3.weaken (fun _ _ h => h.1)⟩)
      · have hd3 : (kd == 3) = false := by simpa using hk3
        by_cases hk4 : kd = 4
        · subst hk4
          obtain ⟨tv, htv⟩ : ∃ tv, spoilB s an bit mask = tv := ⟨_, rfl⟩
          obtain ⟨te, tS⟩ := tv
          have hta := fun (t : BSt) (Y : Hold) (W : World) (h : Two w0 g s r t Y W) (hY : Kept Y) => tw_spoil h hY an bit mask hm0 hm1 Hsm.out
          have htb := fun (s' : BSt) (Y : Hold) (W : World) (h : Two w0 g s' r s Y W) (hY : Kept Y) => tw_rspoil h hY an bit mask hm0 hm1 Hsm.out
          rw [htv] at hta htb HS4
          have Hta := Lib.hid hta; clear hta
          have Htb := Lib.hid htb; clear htb htv
          have hcl : ∀ (s1 s2 : BSt) (W : World), Two w0 g s1 r s2 (fun w' own => X w' own ∧ own w.heap.size = 31 ∧ Blk w' w.heap.size 34 #[.int .i64 4, .int .i64 an, .int .i64 bit, .int .u32 mask, .slice A m c]) W → W.cell? ⟨w.heap.size, 1, none⟩ = some (.int .i64 an) ∧ W.cell? ⟨w.heap.size, 2, none⟩ = some (.int .i64 bit) ∧ W.cell? ⟨w.heap.size, 3, none⟩ = some (.int .u32 mask) := fun s1 s2 W h => by
            have hb := h.blk (fun _ _ h => h.2.2)
            exact ⟨hb.cell 1, hb.cell 2, hb.cell 3⟩
          have Hcl := Lib.hid hcl; clear hcl
          have y0 := Hcl.out _ _ _ h1
          go_enter Try.func10, Try.ntmps10
          go_wp2_with fail
          generalize w.alloc (.cells #[.int .i64 4, .int .i64 an, .int .i64 bit, .int .u32 mask, .slice A m c] 34) = W1 at h1 y0 ⊢
          have hE1 : Two w0 g s r s _ W1.drew := h1.drewN K1.out 1
          obtain ⟨y1, y2, y3⟩ := Hcl.out _ _ _ hE1
          clear h1 y0
          go_region_held3 (fun w' => w'.cell? ⟨w.heap.size, 1, none⟩ = some (.int .i64 an) ∧ w'.cell? ⟨w.heap.size, 2, none⟩ = some (.int .i64 bit) ∧ w'.cell? ⟨w.heap.size, 3, none⟩ = some (.int .u32 mask)) (first | (refine ⟨?_, ?_, ?_⟩ <;> assumption) | (go_keep; done))
           (first
            | (go_at_call 23
               refine (Htb.out _ _ _ hE2 K1.out).mono ?_
               rintro e w3 ⟨rfl, hE3⟩
               have kk3 := Hcl.out _ _ _ hE3
               rcases kk3 with ⟨z4, z5, z6⟩)
            | (go_at_call 18
               refine (Hta.out _ _ _ hE1 K1.out).mono ?_
               rintro e w2 ⟨rfl, hE2⟩
               have kk2 := Hcl.out _ _ _ hE2
               rcases kk2 with ⟨z1, z2, z3⟩))
          all_goals go_wp2
          all_goals (exact HS4.out _ _ (by simp) ⟨rfl, hE3.weaken (fun _ _ h => h.1)⟩)
        · have hd4 : (kd == 4) = false := by simpa using hk4
          go_enter Try.func10, Try.ntmps10
          go_wp2
          exact HS5.out _ _ ⟨hk1, hk2, hk3, hk4⟩ ⟨rfl, h1.weaken (fun _ _ h => h.1)⟩
end
end Go.Proofs.Ytiipioifjjemoaa
