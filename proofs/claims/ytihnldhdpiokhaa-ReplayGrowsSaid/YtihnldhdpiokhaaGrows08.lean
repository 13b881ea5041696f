/- The walk of ReplayGrows. (Printed by mkgrows.py.) -/
import Derived.Test.YtihnldhdpiokhaaGro0
namespace Go.Proofs.Ytihnldhdpiokhaa
open Go.RowKit
set_option linter.unusedVariables false
attribute [local go_sem ↓] Go.wp_at_zero Go.wp_at_succ

section
variable {w w0 : World} {g n : Nat} {m : Vals} {X : Hold}
theorem Stb.keepB (h : Stb w0 g m n X w) {b : Nat} {t : TypeId} {cs : Array Value} (hb : Blk w0 b t cs) : Blk w b t cs := by
  obtain ⟨own, hB, _⟩ := h
  exact (hB.below.block _ hb.lt).trans hb
theorem stb_getg (h : Stb w0 g m n X w) (hX : Kept X) (k : ByteArray) (hk : k.size ≤ maxLen) (v : Val) (hv : m k = v) :
    Calls Try.prog 21 #[.pointer (some ⟨g, 0, none⟩), .string k] w (fun e w' => e = .returned (.agg #[.int .i64 v.kind, .int .i64 v.n, .string v.s]) ∧ Stb w0 g m n X w' ∧ w.grownBy w' none) := by
  subst hv
  obtain ⟨own, hB, hb, hx⟩ := h
  refine (sto_get hb k hk).mono ?_
  rintro e w' ⟨he, hg⟩
  exact ⟨he, Stb.grown ⟨own, hB, hb, hx⟩ hX hg, hg⟩
end

set_option maxHeartbeats 16000000 in
set_option maxRecDepth 10000 in
theorem grows08 {B : Option Addr} {p : Nat} {rs : List Rnd} {w : World} (h : Args0 w none 0 [] B p rs) (hp : (p + 1) * 40 ≤ 140737488355328) (d : Nat) (r : Rnd) (hwf : RndWf w r) (key : ByteArray) (hk : key.size ≤ maxLen) : Calls Try.prog 4 #[.slice B p d, .agg #[.int .i64 r.origin, .int .i64 r.number, .slice r.A r.us.length r.c], .string key] w (BoolRet w true) := by
  obtain ⟨j0, hj, hy0, hy1, hy2⟩ := info_parts Try.info27
  have H := Lib.hid h; have Hk := Lib.hid hk; have Hwf := Lib.hid hwf; have HL := Lib.hid h.lr; clear h hwf
  unfold maxLen at hk
  have hg0 := World.grownBy_alloc w (.cells #[.int .i64 r.origin, .int .i64 r.number, .slice r.A r.us.length r.c] 27) none
  have hb0 := Blk.new w 27 #[.int .i64 r.origin, .int .i64 r.number, .slice r.A r.us.length r.c]
  obtain ⟨rs', hrs'⟩ : ∃ rs', rs' = rs ++ [r] := ⟨_, rfl⟩
  have hrc : rcells rs' = rcells rs ++ [.int .i64 r.origin, .int .i64 r.number, .slice r.A r.us.length r.c] := by rw [hrs', rcells_append]; rfl
  have hA0 : ∀ (W : World) (A : Option Addr), w.grownBy W none → Rd W 3 A (p + 1) (rcells rs ++ [.int .i64 r.origin, .int .i64 r.number, .slice r.A r.us.length r.c]) → Args0 W none 0 [] A (p + 1) rs' := fun W A hg hr => by
    rw [← hrc] at hr
    refine ⟨rfl, Rd.nil _ _ _, by simp, by rw [hrs']; simp [HL.out], hr, fun x hx => ?_⟩
    rw [hrs'] at hx
    rcases List.mem_append.1 hx with hx | hx
    · exact (H.out.wr x hx).kept hg
    · rw [List.mem_singleton] at hx
      subst hx
      exact Hwf.out.kept hg
  have hus : ∀ W, w.grownBy W none → Rd W 4 r.A r.us.length (ucells r.us) := fun W hg => (Hwf.out.kept hg).2.2.1
  have huw : ∀ u ∈ r.us, UpdWf u := Hwf.out.2.2.2
  have hfl : flat rs' = flat rs ++ r.us := by rw [hrs']; simp [flat]
  have hrm : r ∈ rs' := by rw [hrs']; simp
  have HLr := Lib.hid (show rs'.length = p + 1 by rw [hrs']; simp [HL.out])
  have HA0 := Lib.hid hA0; have Hus := Lib.hid hus; have Huw := Lib.hid huw; have Hfl := Lib.hid hfl
  clear hrc hA0 hus huw hfl
  clear hrs'
  obtain ⟨us, hUs⟩ : ∃ us, us = r.us := ⟨_, rfl⟩
  have Hm0 := Lib.hid (show ∀ (h : ∀ x ∈ rs', x.us.length ≤ 20), us.length ≤ 20 from fun h => by rw [hUs]; exact h r hrm)
  rw [← hUs] at Hus Huw Hfl hg0 hb0 HA0 ⊢
  clear hUs hrm Hwf
  obtain ⟨m, hm⟩ : ∃ m, us.length = m := ⟨_, rfl⟩
  rw [hm] at Hus hg0 hb0 HA0 Hm0 ⊢
  have Hm := Lib.hid hm; clear hm
  obtain ⟨ro, rn, rA, rc, _⟩ := r
  dsimp only at Hus hg0 hb0 HA0 ⊢
  obtain ⟨bb0, hgc⟩ : ∃ b, great08 [] rs' = b := ⟨_, rfl⟩
  have Hgc := Lib.hid hgc; clear hgc
  go_enter Try.func4, Try.ntmps4
  go_wp2_with fail
  go_upto_region 1 with fail
  obtain ⟨W0, hW0⟩ : ∃ W0, W0 = w.alloc (.cells #[.int .i64 ro, .int .i64 rn, .slice rA m rc] 27) := ⟨_, rfl⟩
  rw [← hW0] at hg0 hb0 ⊢
  clear hW0
  have HS0 := Lib.hid (show ∀ W, W0.grownBy W none → W.cell? ⟨w.heap.size, 0, none⟩ = some (.int .i64 ro) ∧ W.cell? ⟨w.heap.size, 1, none⟩ = some (.int .i64 rn) ∧ W.cell? ⟨w.heap.size, 2, none⟩ = some (.slice rA m rc) from fun W hg => ⟨(hb0.grown hg (by simp)).cell 0, (hb0.grown hg (by simp)).cell 1, (hb0.grown hg (by simp)).cell 2⟩)
  have HR0 := Lib.hid (show ∀ W, W0.grownBy W none → Rd W 3 B p (rcells rs) from fun W hg => H.out.hr.kept (World.grownBy.trans hg0 hg) (by omega))
  have HG := Lib.hid (show ∀ (W : World) (A : Option Addr) (c : Nat), W0.grownBy W none → Rd W 3 A (p + 1) (rcells rs ++ [.int .i64 ro, .int .i64 rn, .slice rA m rc]) → Calls Try.prog 15 #[.slice none 0 0, .slice A (p + 1) c] W (BoolRet W bb0) from fun W A c hg hr => by
    have := great15 (HA0.out W A (World.grownBy.trans hg0 hg) hr) 0 c
    rwa [Hgc.out] at this)
  have Hg0 := Lib.hid hg0; have Hb0 := Lib.hid hb0; clear hg0 hb0
  have hpp : p + 1 ≤ 3518437208884 := by omega
  go_cut [26] (fun v26 wx => ∃ bb : Bool, v26 = .bool bb ∧ Hid (bb = false → great08 [] rs' = false ∧ key.size ≤ 100) ∧ W0.grownBy wx none)
  case first =>
    cases bb0 with
    | true =>
      refine wp_region_held_drew (S := fun w' => w'.cell? ⟨w.heap.size, 0, none⟩ = some (.int .i64 ro) ∧ w'.cell? ⟨w.heap.size, 1, none⟩ = some (.int .i64 rn) ∧ w'.cell? ⟨w.heap.size, 2, none⟩ = some (.slice rA m rc)) (by kernel_rfl) (HS0.out _ (show W0.grownBy W0.drew none from grown_drewN W0 1)) (fun hHeld => ?_)
      refine wpAnyH_ready (rs := [0]) (by kernel_rfl) (by simp) ?_
      refine AllReadyH.cons rfl (fun K hK => ?_) AllReadyH.nil
      go_simp
      refine (awake14 _).mono ?_
      rintro e w1 ⟨rfl, hg1⟩
      have hg1' := World.grownBy.trans (show W0.grownBy W0.drew none from grown_drewN W0 1) hg1
      have HS := Lib.hid (show ∀ W, w1.grownBy W none → _ from fun W hg => HS0.out W (World.grownBy.trans hg1' hg))
      have HR := Lib.hid (show ∀ W, w1.grownBy W none → Rd W 3 B p (rcells rs) from fun W hg => HR0.out W (World.grownBy.trans hg1' hg))
      go_simp
      refine hK.out _ _ (by exact HS.out _ (World.grownBy.refl _ none)) (fun hHeld => ?_)
      clear hK K
      try simp only [Act.put, List.getElem_toArray, List.getElem_cons_zero, List.getElem_cons_succ, List.setIfInBounds_toArray, List.set_cons_zero, List.set_cons_succ]
      refine wpAnyH_take (i := 1) (v := ?_) rfl (by kernel_rfl) (by kernel_rfl) (by kernel_rfl) (fun _ _ _ h => h) (Or.inl ⟨by rfl, ?_⟩) (by assumption) ?_
      rotate_left 1
      · (intro w hSw; (try dsimp only at hSw); go_simp; try (with_reducible rfl))
      simp only [Act.put, List.getElem_toArray, List.getElem_cons_zero, List.getElem_cons_succ, List.setIfInBounds_toArray, List.set_cons_zero, List.set_cons_succ]
      refine wpAnyH_take (i := 2) (v := ?_) rfl (by kernel_rfl) (by kernel_rfl) (by kernel_rfl) (fun _ _ _ h => h) (Or.inl ⟨by rfl, ?_⟩) (by assumption) ?_
      rotate_left 1
      · (intro w hSw; (try dsimp only at hSw); go_simp; try (with_reducible rfl))
      simp only [Act.put, List.getElem_toArray, List.getElem_cons_zero, List.getElem_cons_succ, List.setIfInBounds_toArray, List.set_cons_zero, List.set_cons_succ]
      refine wpAnyH_take (i := 4) (v := ?_) rfl (by kernel_rfl) (by kernel_rfl) (by kernel_rfl) (fun _ _ _ h => h) (Or.inl ⟨by rfl, ?_⟩) (by assumption) ?_
      rotate_left 1
      · (intro w hSw; (try dsimp only at hSw); go_simp; try (with_reducible rfl))
      simp only [Act.put, List.getElem_toArray, List.getElem_cons_zero, List.getElem_cons_succ, List.setIfInBounds_toArray, List.set_cons_zero, List.set_cons_succ]
      refine wpAnyH_take (i := 6) (v := ?_) rfl (by kernel_rfl) (by kernel_rfl) (by kernel_rfl) (fun _ _ _ h => h) (Or.inl ⟨by rfl, ?_⟩) (by assumption) ?_
      rotate_left 1
      · (intro w hSw; (try dsimp only at hSw); go_simp; try (with_reducible rfl))
      simp only [Act.put, List.getElem_toArray, List.getElem_cons_zero, List.getElem_cons_succ, List.setIfInBounds_toArray, List.set_cons_zero, List.set_cons_succ]
      refine wpAnyH_ready (rs := [3, 7]) (by kernel_rfl) (by simp) ?_
      refine AllReadyH.cons rfl (fun K hK => ?_) ?_
      · go_simp
        refine hK.out _ _ (by exact HS.out _ (by repeat' (first | exact World.grownBy.refl _ none | exact World.grownBy.refl _ none | apply grow_alloc))) (fun hHeld => ?_)
        clear hK K
        try simp only [Act.put, List.getElem_toArray, List.getElem_cons_zero, List.getElem_cons_succ, List.setIfInBounds_toArray, List.set_cons_zero, List.set_cons_succ]
        refine wpAnyH_ready (rs := [5, 7]) (by kernel_rfl) (by simp) ?_
        refine AllReadyH.cons rfl (fun K hK => ?_) ?_
        · refine step_copiedw (by rfl) (.tmp 14) (.tmp 15) 22 rfl 27 j0 (.agg #[.int .i64 0, .int .i64 0, .slice none 0 0]) 3 40 Try.underlying22 hj hy0 hy1 hy2 rfl (by decide) _ B p d (rcells rs) (by rfl) (by rfl) (HR.out _ (by repeat' (first | exact World.grownBy.refl _ none | exact World.grownBy.refl _ none | apply grow_alloc))) (rcells_one rs) (by unfold maxLen; omega) (by omega) ?_
          intro A2 c2 w2 hcp
          have g2 : w1.grownBy w2 none := World.grownBy.trans (by repeat' (first | exact World.grownBy.refl _ none | exact World.grownBy.refl _ none | apply grow_alloc)) hcp.grown
          refine hK.out _ _ (by exact HS.out _ g2) (fun hHeld => ?_)
          clear hK K
          try simp only [Act.put, List.getElem_toArray, List.getElem_cons_zero, List.getElem_cons_succ, List.setIfInBounds_toArray, List.set_cons_zero, List.set_cons_succ]
          refine wpAnyH_ready (rs := [7]) (by kernel_rfl) (by simp) ?_
          refine AllReadyH.cons rfl (fun K hK => ?_) AllReadyH.nil
          go_simp
          refine hK.out _ _ (by exact HS.out _ (by repeat' (first | exact g2 | exact World.grownBy.refl _ none | apply grow_alloc))) (fun hHeld => ?_)
          clear hK K
          try simp only [Act.put, List.getElem_toArray, List.getElem_cons_zero, List.getElem_cons_succ, List.setIfInBounds_toArray, List.set_cons_zero, List.set_cons_succ]
          refine wpAnyH_ready (rs := [8]) (by kernel_rfl) (by simp) ?_
          refine AllReadyH.cons rfl (fun K hK => ?_) AllReadyH.nil
          refine step_onto2w (by rfl) (.tmp 16) (.tmp 18) 22 rfl 27 j0 (.agg #[.int .i64 0, .int .i64 0, .slice none 0 0]) 3 40 Try.underlying22 hj hy0 hy1 hy2 rfl (by decide) A2 p c2 (rcells rs) (by rfl) hcp (by rw [rcells_length]; exact congrArg (· * 3) HL.out) (by repeat' (first | exact World.grownBy.refl _ none | exact World.grownBy.refl _ none | apply grow_alloc)) _ 1 1 [.int .i64 ro, .int .i64 rn, .slice rA m rc] (by rfl) (Rd.of_blk (Blk.new _ 27 #[.int .i64 ro, .int .i64 rn, .slice rA m rc]) rfl (fun q u h => by rw [← h]; simp)) (by simp [Value.oneCell']) (by unfold maxLen; omega) (by omega) ?_
          intro A3 c3 w3 hno
          have g3 : w1.grownBy w3 none := World.grownBy.trans (by repeat' (first | exact World.grownBy.refl _ none | exact World.grownBy.refl _ none | apply grow_alloc)) hno.grown
          refine hK.out _ _ (by exact HS.out _ g3) (fun hHeld => ?_)
          clear hK K
          try simp only [Act.put, List.getElem_toArray, List.getElem_cons_zero, List.getElem_cons_succ, List.setIfInBounds_toArray, List.set_cons_zero, List.set_cons_succ]
          refine wpAnyH_ready (rs := [9]) (by kernel_rfl) (by simp) ?_
          refine AllReadyH.cons rfl (fun K hK => ?_) AllReadyH.nil
          go_simp
          refine (HG.out _ _ c3 (World.grownBy.trans hg1' g3) hno.rdN).mono ?_
          rintro e w4 ⟨rfl, hg4⟩
          have g4 := World.grownBy.trans g3 hg4
          go_simp
          refine hK.out _ _ (by exact HS.out _ g4) (fun hHeld => ?_)
          clear hK K
          try simp only [Act.put, List.getElem_toArray, List.getElem_cons_zero, List.getElem_cons_succ, List.setIfInBounds_toArray, List.set_cons_zero, List.set_cons_succ]
          refine wpAnyH_take (i := 10) (v := ?_) rfl (by kernel_rfl) (by kernel_rfl) (by kernel_rfl) (fun _ _ _ h => h) (Or.inl ⟨by rfl, ?_⟩) (by assumption) ?_
          rotate_left 1
          · (intro w hSw; (try dsimp only at hSw); go_simp; try (with_reducible rfl))
          simp only [Act.put, List.getElem_toArray, List.getElem_cons_zero, List.getElem_cons_succ, List.setIfInBounds_toArray, List.set_cons_zero, List.set_cons_succ]
          refine wpAnyH_take (i := 11) (v := ?_) rfl (by kernel_rfl) (by kernel_rfl) (by kernel_rfl) (fun _ _ _ h => h) (Or.inl ⟨by rfl, ?_⟩) (by assumption) ?_
          rotate_left 1
          · (intro w hSw; (try dsimp only at hSw); go_simp; try (with_reducible rfl))
          simp only [Act.put, List.getElem_toArray, List.getElem_cons_zero, List.getElem_cons_succ, List.setIfInBounds_toArray, List.set_cons_zero, List.set_cons_succ]
          refine wpAnyH_take (i := 12) (v := undef) rfl (by kernel_rfl) (by kernel_rfl) (by kernel_rfl) (fun _ _ _ h => h) (Or.inr ⟨by rfl, rfl⟩) (by assumption) ?_
          simp only [Act.put, List.getElem_toArray, List.getElem_cons_zero, List.getElem_cons_succ, List.setIfInBounds_toArray, List.set_cons_zero, List.set_cons_succ]
          refine wpAnyH_take (i := 13) (v := undef) rfl (by kernel_rfl) (by kernel_rfl) (by kernel_rfl) (fun _ _ _ h => h) (Or.inr ⟨by rfl, rfl⟩) (by assumption) ?_
          simp only [Act.put, List.getElem_toArray, List.getElem_cons_zero, List.getElem_cons_succ, List.setIfInBounds_toArray, List.set_cons_zero, List.set_cons_succ]
          refine wpAnyH_take (i := 14) (v := undef) rfl (by kernel_rfl) (by kernel_rfl) (by kernel_rfl) (fun _ _ _ h => h) (Or.inr ⟨by rfl, rfl⟩) (by assumption) ?_
          simp only [Act.put, List.getElem_toArray, List.getElem_cons_zero, List.getElem_cons_succ, List.setIfInBounds_toArray, List.set_cons_zero, List.set_cons_succ]
          refine wpAnyH_take (i := 15) (v := ?_) rfl (by kernel_rfl) (by kernel_rfl) (by kernel_rfl) (fun _ _ _ h => h) (Or.inl ⟨by rfl, ?_⟩) (by assumption) ?_
          rotate_left 1
          · (intro w hSw; (try dsimp only at hSw); go_simp; try (with_reducible rfl))
          simp only [Act.put, List.getElem_toArray, List.getElem_cons_zero, List.getElem_cons_succ, List.setIfInBounds_toArray, List.set_cons_zero, List.set_cons_succ]
          refine wpAnyH_done (by kernel_rfl) ?_ _
          have Hend := Lib.hid (World.grownBy.trans hg1' g4)
          clear g2 g3 g4 hcp hno hg4 hg1 hg1' HS HR hHeld
          go_wp2
          go_meet
          exact ⟨_, rfl, Lib.hid (fun h => by cases h), Hend.out⟩
        refine AllReadyH.cons rfl (fun K hK => ?_) AllReadyH.nil
        go_simp
        refine hK.out _ _ (by exact HS.out _ (by repeat' (first | exact World.grownBy.refl _ none | exact World.grownBy.refl _ none | apply grow_alloc))) (fun hHeld => ?_)
        clear hK K
        try simp only [Act.put, List.getElem_toArray, List.getElem_cons_zero, List.getElem_cons_succ, List.setIfInBounds_toArray, List.set_cons_zero, List.set_cons_succ]
        have hb1 := Blk.new (w1.alloc (.cells #[] 27)) 27 #[.int .i64 ro, .int .i64 rn, .slice rA m rc]
        rw [show (w1.alloc (.cells #[] 27)).heap.size = w1.heap.size + 1 by simp] at hb1
        refine wpAnyH_ready (rs := [5]) (by kernel_rfl) (by simp) ?_
        refine AllReadyH.cons rfl (fun K hK => ?_) AllReadyH.nil
        refine step_copiedw (by rfl) (.tmp 14) (.tmp 15) 22 rfl 27 j0 (.agg #[.int .i64 0, .int .i64 0, .slice none 0 0]) 3 40 Try.underlying22 hj hy0 hy1 hy2 rfl (by decide) _ B p d (rcells rs) (by rfl) (by rfl) (HR.out _ (by repeat' (first | exact World.grownBy.refl _ none | exact World.grownBy.refl _ none | apply grow_alloc))) (rcells_one rs) (by unfold maxLen; omega) (by omega) ?_
        intro A2 c2 w2 hcp
        have g2 : w1.grownBy w2 none := World.grownBy.trans (by repeat' (first | exact World.grownBy.refl _ none | exact World.grownBy.refl _ none | apply grow_alloc)) hcp.grown
        refine hK.out _ _ (by exact HS.out _ g2) (fun hHeld => ?_)
        clear hK K
        try simp only [Act.put, List.getElem_toArray, List.getElem_cons_zero, List.getElem_cons_succ, List.setIfInBounds_toArray, List.set_cons_zero, List.set_cons_succ]
        refine wpAnyH_ready (rs := [8]) (by kernel_rfl) (by simp) ?_
        refine AllReadyH.cons rfl (fun K hK => ?_) AllReadyH.nil
        refine step_onto2w (by rfl) (.tmp 16) (.tmp 18) 22 rfl 27 j0 (.agg #[.int .i64 0, .int .i64 0, .slice none 0 0]) 3 40 Try.underlying22 hj hy0 hy1 hy2 rfl (by decide) A2 p c2 (rcells rs) (by rfl) hcp (by rw [rcells_length]; exact congrArg (· * 3) HL.out) (World.grownBy.refl _ none) (some ⟨w1.heap.size + 1, 0, none⟩) 1 1 [.int .i64 ro, .int .i64 rn, .slice rA m rc] (by rfl) ((Rd.of_blk hb1 rfl (fun q u h => by rw [← h]; simp)).kept hcp.grown (by omega)) (by simp [Value.oneCell']) (by unfold maxLen; omega) (by omega) ?_
        intro A3 c3 w3 hno
        have g3 : w1.grownBy w3 none := World.grownBy.trans (by repeat' (first | exact World.grownBy.refl _ none | exact World.grownBy.refl _ none | apply grow_alloc)) hno.grown
        refine hK.out _ _ (by exact HS.out _ g3) (fun hHeld => ?_)
        clear hK K
        try simp only [Act.put, List.getElem_toArray, List.getElem_cons_zero, List.getElem_cons_succ, List.setIfInBounds_toArray, List.set_cons_zero, List.set_cons_succ]
        refine wpAnyH_ready (rs := [9]) (by kernel_rfl) (by simp) ?_
        refine AllReadyH.cons rfl (fun K hK => ?_) AllReadyH.nil
        go_simp
        refine (HG.out _ _ c3 (World.grownBy.trans hg1' g3) hno.rdN).mono ?_
        rintro e w4 ⟨rfl, hg4⟩
        have g4 := World.grownBy.trans g3 hg4
        go_simp
        refine hK.out _ _ (by exact HS.out _ g4) (fun hHeld => ?_)
        clear hK K
        try simp only [Act.put, List.getElem_toArray, List.getElem_cons_zero, List.getElem_cons_succ, List.setIfInBounds_toArray, List.set_cons_zero, List.set_cons_succ]
        refine wpAnyH_take (i := 10) (v := ?_) rfl (by kernel_rfl) (by kernel_rfl) (by kernel_rfl) (fun _ _ _ h => h) (Or.inl ⟨by rfl, ?_⟩) (by assumption) ?_
        rotate_left 1
        · (intro w hSw; (try dsimp only at hSw); go_simp; try (with_reducible rfl))
        simp only [Act.put, List.getElem_toArray, List.getElem_cons_zero, List.getElem_cons_succ, List.setIfInBounds_toArray, List.set_cons_zero, List.set_cons_succ]
        refine wpAnyH_take (i := 11) (v := ?_) rfl (by kernel_rfl) (by kernel_rfl) (by kernel_rfl) (fun _ _ _ h => h) (Or.inl ⟨by rfl, ?_⟩) (by assumption) ?_
        rotate_left 1
        · (intro w hSw; (try dsimp only at hSw); go_simp; try (with_reducible rfl))
        simp only [Act.put, List.getElem_toArray, List.getElem_cons_zero, List.getElem_cons_succ, List.setIfInBounds_toArray, List.set_cons_zero, List.set_cons_succ]
        refine wpAnyH_take (i := 12) (v := undef) rfl (by kernel_rfl) (by kernel_rfl) (by kernel_rfl) (fun _ _ _ h => h) (Or.inr ⟨by rfl, rfl⟩) (by assumption) ?_
        simp only [Act.put, List.getElem_toArray, List.getElem_cons_zero, List.getElem_cons_succ, List.setIfInBounds_toArray, List.set_cons_zero, List.set_cons_succ]
        refine wpAnyH_take (i := 13) (v := undef) rfl (by kernel_rfl) (by kernel_rfl) (by kernel_rfl) (fun _ _ _ h => h) (Or.inr ⟨by rfl, rfl⟩) (by assumption) ?_
        simp only [Act.put, List.getElem_toArray, List.getElem_cons_zero, List.getElem_cons_succ, List.setIfInBounds_toArray, List.set_cons_zero, List.set_cons_succ]
        refine wpAnyH_take (i := 14) (v := undef) rfl (by kernel_rfl) (by kernel_rfl) (by kernel_rfl) (fun _ _ _ h => h) (Or.inr ⟨by rfl, rfl⟩) (by assumption) ?_
        simp only [Act.put, List.getElem_toArray, List.getElem_cons_zero, List.getElem_cons_succ, List.setIfInBounds_toArray, List.set_cons_zero, List.set_cons_succ]
        refine wpAnyH_take (i := 15) (v := ?_) rfl (by kernel_rfl) (by kernel_rfl) (by kernel_rfl) (fun _ _ _ h => h) (Or.inl ⟨by rfl, ?_⟩) (by assumption) ?_
        rotate_left 1
        · (intro w hSw; (try dsimp only at hSw); go_simp; try (with_reducible rfl))
        simp only [Act.put, List.getElem_toArray, List.getElem_cons_zero, List.getElem_cons_succ, List.setIfInBounds_toArray, List.set_cons_zero, List.set_cons_succ]
        refine wpAnyH_done (by kernel_rfl) ?_ _
        have Hend := Lib.hid (World.grownBy.trans hg1' g4)
        clear g2 g3 g4 hcp hno hg4 hg1 hg1' HS HR hHeld
        go_wp2
        go_meet
        exact ⟨_, rfl, Lib.hid (fun h => by cases h), Hend.out⟩
      refine AllReadyH.cons rfl (fun K hK => ?_) AllReadyH.nil
      go_simp
      refine hK.out _ _ (by exact HS.out _ (by repeat' (first | exact World.grownBy.refl _ none | exact World.grownBy.refl _ none | apply grow_alloc))) (fun hHeld => ?_)
      clear hK K
      try simp only [Act.put, List.getElem_toArray, List.getElem_cons_zero, List.getElem_cons_succ, List.setIfInBounds_toArray, List.set_cons_zero, List.set_cons_succ]
      refine wpAnyH_ready (rs := [3]) (by kernel_rfl) (by simp) ?_
      refine AllReadyH.cons rfl (fun K hK => ?_) AllReadyH.nil
      go_simp
      refine hK.out _ _ (by exact HS.out _ (by repeat' (first | exact World.grownBy.refl _ none | exact World.grownBy.refl _ none | apply grow_alloc))) (fun hHeld => ?_)
      clear hK K
      try simp only [Act.put, List.getElem_toArray, List.getElem_cons_zero, List.getElem_cons_succ, List.setIfInBounds_toArray, List.set_cons_zero, List.set_cons_succ]
      refine wpAnyH_ready (rs := [5]) (by kernel_rfl) (by simp) ?_
      refine AllReadyH.cons rfl (fun K hK => ?_) AllReadyH.nil
      refine step_copiedw (by rfl) (.tmp 14) (.tmp 15) 22 rfl 27 j0 (.agg #[.int .i64 0, .int .i64 0, .slice none 0 0]) 3 40 Try.underlying22 hj hy0 hy1 hy2 rfl (by decide) _ B p d (rcells rs) (by rfl) (by rfl) (HR.out _ (by repeat' (first | exact World.grownBy.refl _ none | exact World.grownBy.refl _ none | apply grow_alloc))) (rcells_one rs) (by unfold maxLen; omega) (by omega) ?_
      intro A2 c2 w2 hcp
      have g2 : w1.grownBy w2 none := World.grownBy.trans (by repeat' (first | exact World.grownBy.refl _ none | exact World.grownBy.refl _ none | apply grow_alloc)) hcp.grown
      refine hK.out _ _ (by exact HS.out _ g2) (fun hHeld => ?_)
      clear hK K
      try simp only [Act.put, List.getElem_toArray, List.getElem_cons_zero, List.getElem_cons_succ, List.setIfInBounds_toArray, List.set_cons_zero, List.set_cons_succ]
      refine wpAnyH_ready (rs := [8]) (by kernel_rfl) (by simp) ?_
      refine AllReadyH.cons rfl (fun K hK => ?_) AllReadyH.nil
      refine step_onto2w (by rfl) (.tmp 16) (.tmp 18) 22 rfl 27 j0 (.agg #[.int .i64 0, .int .i64 0, .slice none 0 0]) 3 40 Try.underlying22 hj hy0 hy1 hy2 rfl (by decide) A2 p c2 (rcells rs) (by rfl) hcp (by rw [rcells_length]; exact congrArg (· * 3) HL.out) (World.grownBy.refl _ none) _ 1 1 [.int .i64 ro, .int .i64 rn, .slice rA m rc] (by rfl) (((Rd.of_blk (Blk.new _ 27 #[.int .i64 ro, .int .i64 rn, .slice rA m rc]) rfl (fun q u h => by rw [← h]; simp)).alloc (by omega) _).kept hcp.grown (by omega)) (by simp [Value.oneCell']) (by unfold maxLen; omega) (by omega) ?_
      intro A3 c3 w3 hno
      have g3 : w1.grownBy w3 none := World.grownBy.trans (by repeat' (first | exact World.grownBy.refl _ none | exact World.grownBy.refl _ none | apply grow_alloc)) hno.grown
      refine hK.out _ _ (by exact HS.out _ g3) (fun hHeld => ?_)
      clear hK K
      try simp only [Act.put, List.getElem_toArray, List.getElem_cons_zero, List.getElem_cons_succ, List.setIfInBounds_toArray, List.set_cons_zero, List.set_cons_succ]
      refine wpAnyH_ready (rs := [9]) (by kernel_rfl) (by simp) ?_
      refine AllReadyH.cons rfl (fun K hK => ?_) AllReadyH.nil
      go_simp
      refine (HG.out _ _ c3 (World.grownBy.trans hg1' g3) hno.rdN).mono ?_
      rintro e w4 ⟨rfl, hg4⟩
      have g4 := World.grownBy.trans g3 hg4
      go_simp
      refine hK.out _ _ (by exact HS.out _ g4) (fun hHeld => ?_)
      clear hK K
      try simp only [Act.put, List.getElem_toArray, List.getElem_cons_zero, List.getElem_cons_succ, List.setIfInBounds_toArray, List.set_cons_zero, List.set_cons_succ]
      refine wpAnyH_take (i := 10) (v := ?_) rfl (by kernel_rfl) (by kernel_rfl) (by kernel_rfl) (fun _ _ _ h => h) (Or.inl ⟨by rfl, ?_⟩) (by assumption) ?_
      rotate_left 1
      · (intro w hSw; (try dsimp only at hSw); go_simp; try (with_reducible rfl))
      simp only [Act.put, List.getElem_toArray, List.getElem_cons_zero, List.getElem_cons_succ, List.setIfInBounds_toArray, List.set_cons_zero, List.set_cons_succ]
      refine wpAnyH_take (i := 11) (v := ?_) rfl (by kernel_rfl) (by kernel_rfl) (by kernel_rfl) (fun _ _ _ h => h) (Or.inl ⟨by rfl, ?_⟩) (by assumption) ?_
      rotate_left 1
      · (intro w hSw; (try dsimp only at hSw); go_simp; try (with_reducible rfl))
      simp only [Act.put, List.getElem_toArray, List.getElem_cons_zero, List.getElem_cons_succ, List.setIfInBounds_toArray, List.set_cons_zero, List.set_cons_succ]
      refine wpAnyH_take (i := 12) (v := undef) rfl (by kernel_rfl) (by kernel_rfl) (by kernel_rfl) (fun _ _ _ h => h) (Or.inr ⟨by rfl, rfl⟩) (by assumption) ?_
      simp only [Act.put, List.getElem_toArray, List.getElem_cons_zero, List.getElem_cons_succ, List.setIfInBounds_toArray, List.set_cons_zero, List.set_cons_succ]
      refine wpAnyH_take (i := 13) (v := undef) rfl (by kernel_rfl) (by kernel_rfl) (by kernel_rfl) (fun _ _ _ h => h) (Or.inr ⟨by rfl, rfl⟩) (by assumption) ?_
      simp only [Act.put, List.getElem_toArray, List.getElem_cons_zero, List.getElem_cons_succ, List.setIfInBounds_toArray, List.set_cons_zero, List.set_cons_succ]
      refine wpAnyH_take (i := 14) (v := undef) rfl (by kernel_rfl) (by kernel_rfl) (by kernel_rfl) (fun _ _ _ h => h) (Or.inr ⟨by rfl, rfl⟩) (by assumption) ?_
      simp only [Act.put, List.getElem_toArray, List.getElem_cons_zero, List.getElem_cons_succ, List.setIfInBounds_toArray, List.set_cons_zero, List.set_cons_succ]
      refine wpAnyH_take (i := 15) (v := ?_) rfl (by kernel_rfl) (by kernel_rfl) (by kernel_rfl) (fun _ _ _ h => h) (Or.inl ⟨by rfl, ?_⟩) (by assumption) ?_
      rotate_left 1
      · (intro w hSw; (try dsimp only at hSw); go_simp; try (with_reducible rfl))
      simp only [Act.put, List.getElem_toArray, List.getElem_cons_zero, List.getElem_cons_succ, List.setIfInBounds_toArray, List.set_cons_zero, List.set_cons_succ]
      refine wpAnyH_done (by kernel_rfl) ?_ _
      have Hend := Lib.hid (World.grownBy.trans hg1' g4)
      clear g2 g3 g4 hcp hno hg4 hg1 hg1' HS HR hHeld
      go_wp2
      go_meet
      exact ⟨_, rfl, Lib.hid (fun h => by cases h), Hend.out⟩
    | false =>
      refine wp_region_held_drew (S := fun w' => w'.cell? ⟨w.heap.size, 0, none⟩ = some (.int .i64 ro) ∧ w'.cell? ⟨w.heap.size, 1, none⟩ = some (.int .i64 rn) ∧ w'.cell? ⟨w.heap.size, 2, none⟩ = some (.slice rA m rc)) (by kernel_rfl) (HS0.out _ (show W0.grownBy W0.drew none from grown_drewN W0 1)) (fun hHeld => ?_)
      refine wpAnyH_ready (rs := [0]) (by kernel_rfl) (by simp) ?_
      refine AllReadyH.cons rfl (fun K hK => ?_) AllReadyH.nil
      go_simp
      refine (awake14 _).mono ?_
      rintro e w1 ⟨rfl, hg1⟩
      have hg1' := World.grownBy.trans (show W0.grownBy W0.drew none from grown_drewN W0 1) hg1
      have HS := Lib.hid (show ∀ W, w1.grownBy W none → _ from fun W hg => HS0.out W (World.grownBy.trans hg1' hg))
      have HR := Lib.hid (show ∀ W, w1.grownBy W none → Rd W 3 B p (rcells rs) from fun W hg => HR0.out W (World.grownBy.trans hg1' hg))
      go_simp
      refine hK.out _ _ (by exact HS.out _ (World.grownBy.refl _ none)) (fun hHeld => ?_)
      clear hK K
      try simp only [Act.put, List.getElem_toArray, List.getElem_cons_zero, List.getElem_cons_succ, List.setIfInBounds_toArray, List.set_cons_zero, List.set_cons_succ]
      refine wpAnyH_take (i := 1) (v := ?_) rfl (by kernel_rfl) (by kernel_rfl) (by kernel_rfl) (fun _ _ _ h => h) (Or.inl ⟨by rfl, ?_⟩) (by assumption) ?_
      rotate_left 1
      · (intro w hSw; (try dsimp only at hSw); go_simp; try (with_reducible rfl))
      simp only [Act.put, List.getElem_toArray, List.getElem_cons_zero, List.getElem_cons_succ, List.setIfInBounds_toArray, List.set_cons_zero, List.set_cons_succ]
      refine wpAnyH_take (i := 2) (v := ?_) rfl (by kernel_rfl) (by kernel_rfl) (by kernel_rfl) (fun _ _ _ h => h) (Or.inl ⟨by rfl, ?_⟩) (by assumption) ?_
      rotate_left 1
      · (intro w hSw; (try dsimp only at hSw); go_simp; try (with_reducible rfl))
      simp only [Act.put, List.getElem_toArray, List.getElem_cons_zero, List.getElem_cons_succ, List.setIfInBounds_toArray, List.set_cons_zero, List.set_cons_succ]
      refine wpAnyH_take (i := 4) (v := ?_) rfl (by kernel_rfl) (by kernel_rfl) (by kernel_rfl) (fun _ _ _ h => h) (Or.inl ⟨by rfl, ?_⟩) (by assumption) ?_
      rotate_left 1
      · (intro w hSw; (try dsimp only at hSw); go_simp; try (with_reducible rfl))
      simp only [Act.put, List.getElem_toArray, List.getElem_cons_zero, List.getElem_cons_succ, List.setIfInBounds_toArray, List.set_cons_zero, List.set_cons_succ]
      refine wpAnyH_take (i := 6) (v := ?_) rfl (by kernel_rfl) (by kernel_rfl) (by kernel_rfl) (fun _ _ _ h => h) (Or.inl ⟨by rfl, ?_⟩) (by assumption) ?_
      rotate_left 1
      · (intro w hSw; (try dsimp only at hSw); go_simp; try (with_reducible rfl))
      simp only [Act.put, List.getElem_toArray, List.getElem_cons_zero, List.getElem_cons_succ, List.setIfInBounds_toArray, List.set_cons_zero, List.set_cons_succ]
      refine wpAnyH_ready (rs := [3, 7]) (by kernel_rfl) (by simp) ?_
      refine AllReadyH.cons rfl (fun K hK => ?_) ?_
      · go_simp
        refine hK.out _ _ (by exact HS.out _ (by repeat' (first | exact World.grownBy.refl _ none | exact World.grownBy.refl _ none | apply grow_alloc))) (fun hHeld => ?_)
        clear hK K
        try simp only [Act.put, List.getElem_toArray, List.getElem_cons_zero, List.getElem_cons_succ, List.setIfInBounds_toArray, List.set_cons_zero, List.set_cons_succ]
        refine wpAnyH_ready (rs := [5, 7]) (by kernel_rfl) (by simp) ?_
        refine AllReadyH.cons rfl (fun K hK => ?_) ?_
        · refine step_copiedw (by rfl) (.tmp 14) (.tmp 15) 22 rfl 27 j0 (.agg #[.int .i64 0, .int .i64 0, .slice none 0 0]) 3 40 Try.underlying22 hj hy0 hy1 hy2 rfl (by decide) _ B p d (rcells rs) (by rfl) (by rfl) (HR.out _ (by repeat' (first | exact World.grownBy.refl _ none | exact World.grownBy.refl _ none | apply grow_alloc))) (rcells_one rs) (by unfold maxLen; omega) (by omega) ?_
          intro A2 c2 w2 hcp
          have g2 : w1.grownBy w2 none := World.grownBy.trans (by repeat' (first | exact World.grownBy.refl _ none | exact World.grownBy.refl _ none | apply grow_alloc)) hcp.grown
          refine hK.out _ _ (by exact HS.out _ g2) (fun hHeld => ?_)
          clear hK K
          try simp only [Act.put, List.getElem_toArray, List.getElem_cons_zero, List.getElem_cons_succ, List.setIfInBounds_toArray, List.set_cons_zero, List.set_cons_succ]
          refine wpAnyH_ready (rs := [7]) (by kernel_rfl) (by simp) ?_
          refine AllReadyH.cons rfl (fun K hK => ?_) AllReadyH.nil
          go_simp
          refine hK.out _ _ (by exact HS.out _ (by repeat' (first | exact g2 | exact World.grownBy.refl _ none | apply grow_alloc))) (fun hHeld => ?_)
          clear hK K
          try simp only [Act.put, List.getElem_toArray, List.getElem_cons_zero, List.getElem_cons_succ, List.setIfInBounds_toArray, List.set_cons_zero, List.set_cons_succ]
          refine wpAnyH_ready (rs := [8]) (by kernel_rfl) (by simp) ?_
          refine AllReadyH.cons rfl (fun K hK => ?_) AllReadyH.nil
          refine step_onto2w (by rfl) (.tmp 16) (.tmp 18) 22 rfl 27 j0 (.agg #[.int .i64 0, .int .i64 0, .slice none 0 0]) 3 40 Try.underlying22 hj hy0 hy1 hy2 rfl (by decide) A2 p c2 (rcells rs) (by rfl) hcp (by rw [rcells_length]; exact congrArg (· * 3) HL.out) (by repeat' (first | exact World.grownBy.refl _ none | exact World.grownBy.refl _ none | apply grow_alloc)) _ 1 1 [.int .i64 ro, .int .i64 rn, .slice rA m rc] (by rfl) (Rd.of_blk (Blk.new _ 27 #[.int .i64 ro, .int .i64 rn, .slice rA m rc]) rfl (fun q u h => by rw [← h]; simp)) (by simp [Value.oneCell']) (by unfold maxLen; omega) (by omega) ?_
          intro A3 c3 w3 hno
          have g3 : w1.grownBy w3 none := World.grownBy.trans (by repeat' (first | exact World.grownBy.refl _ none | exact World.grownBy.refl _ none | apply grow_alloc)) hno.grown
          refine hK.out _ _ (by exact HS.out _ g3) (fun hHeld => ?_)
          clear hK K
          try simp only [Act.put, List.getElem_toArray, List.getElem_cons_zero, List.getElem_cons_succ, List.setIfInBounds_toArray, List.set_cons_zero, List.set_cons_succ]
          refine wpAnyH_ready (rs := [9]) (by kernel_rfl) (by simp) ?_
          refine AllReadyH.cons rfl (fun K hK => ?_) AllReadyH.nil
          go_simp
          refine (HG.out _ _ c3 (World.grownBy.trans hg1' g3) hno.rdN).mono ?_
          rintro e w4 ⟨rfl, hg4⟩
          have g4 := World.grownBy.trans g3 hg4
          go_simp
          refine hK.out _ _ (by exact HS.out _ g4) (fun hHeld => ?_)
          clear hK K
          try simp only [Act.put, List.getElem_toArray, List.getElem_cons_zero, List.getElem_cons_succ, List.setIfInBounds_toArray, List.set_cons_zero, List.set_cons_succ]
          refine wpAnyH_take (i := 10) (v := ?_) rfl (by kernel_rfl) (by kernel_rfl) (by kernel_rfl) (fun _ _ _ h => h) (Or.inl ⟨by rfl, ?_⟩) (by assumption) ?_
          rotate_left 1
          · (intro w hSw; (try dsimp only at hSw); go_simp; try (with_reducible rfl))
          simp only [Act.put, List.getElem_toArray, List.getElem_cons_zero, List.getElem_cons_succ, List.setIfInBounds_toArray, List.set_cons_zero, List.set_cons_succ]
          refine wpAnyH_take (i := 11) (v := ?_) rfl (by kernel_rfl) (by kernel_rfl) (by kernel_rfl) (fun _ _ _ h => h) (Or.inl ⟨by rfl, ?_⟩) (by assumption) ?_
          rotate_left 1
          · (intro w hSw; (try dsimp only at hSw); go_simp; try (with_reducible rfl))
          simp only [Act.put, List.getElem_toArray, List.getElem_cons_zero, List.getElem_cons_succ, List.setIfInBounds_toArray, List.set_cons_zero, List.set_cons_succ]
          refine wpAnyH_take (i := 12) (v := ?_) rfl (by kernel_rfl) (by kernel_rfl) (by kernel_rfl) (fun _ _ _ h => h) (Or.inl ⟨by rfl, ?_⟩) (by assumption) ?_
          rotate_left 1
          · (intro w hSw; (try dsimp only at hSw); go_simp; try (with_reducible rfl))
          simp only [Act.put, List.getElem_toArray, List.getElem_cons_zero, List.getElem_cons_succ, List.setIfInBounds_toArray, List.set_cons_zero, List.set_cons_succ]
          refine wpAnyH_take (i := 13) (v := ?_) rfl (by kernel_rfl) (by kernel_rfl) (by kernel_rfl) (fun _ _ _ h => h) (Or.inl ⟨by rfl, ?_⟩) (by assumption) ?_
          rotate_left 1
          · (intro w hSw; (try dsimp only at hSw); go_simp; try (with_reducible rfl))
          simp only [Act.put, List.getElem_toArray, List.getElem_cons_zero, List.getElem_cons_succ, List.setIfInBounds_toArray, List.set_cons_zero, List.set_cons_succ]
          refine wpAnyH_take (i := 14) (v := ?_) rfl (by kernel_rfl) (by kernel_rfl) (by kernel_rfl) (fun _ _ _ h => h) (Or.inl ⟨by rfl, ?_⟩) (by assumption) ?_
          rotate_left 1
          · (intro w hSw; (try dsimp only at hSw); go_simp; try (with_reducible rfl))
          simp only [Act.put, List.getElem_toArray, List.getElem_cons_zero, List.getElem_cons_succ, List.setIfInBounds_toArray, List.set_cons_zero, List.set_cons_succ]
          refine wpAnyH_take (i := 15) (v := ?_) rfl (by kernel_rfl) (by kernel_rfl) (by kernel_rfl) (fun _ _ _ h => h) (Or.inl ⟨by rfl, ?_⟩) (by assumption) ?_
          rotate_left 1
          · (intro w hSw; (try dsimp only at hSw); go_simp; try (with_reducible rfl))
          simp only [Act.put, List.getElem_toArray, List.getElem_cons_zero, List.getElem_cons_succ, List.setIfInBounds_toArray, List.set_cons_zero, List.set_cons_succ]
          refine wpAnyH_done (by kernel_rfl) ?_ _
          have Hend := Lib.hid (World.grownBy.trans hg1' g4)
          clear g2 g3 g4 hcp hno hg4 hg1 hg1' HS HR hHeld
          go_wp2
          go_meet
          exact ⟨_, rfl, Lib.hid (fun h => ⟨Hgc.out, by have h' := of_decide_eq_false h; omega⟩), Hend.out⟩
        refine AllReadyH.cons rfl (fun K hK => ?_) AllReadyH.nil
        go_simp
        refine hK.out _ _ (by exact HS.out _ (by repeat' (first | exact World.grownBy.refl _ none | exact World.grownBy.refl _ none | apply grow_alloc))) (fun hHeld => ?_)
        clear hK K
        try simp only [Act.put, List.getElem_toArray, List.getElem_cons_zero, List.getElem_cons_succ, List.setIfInBounds_toArray, List.set_cons_zero, List.set_cons_succ]
        have hb1 := Blk.new (w1.alloc (.cells #[] 27)) 27 #[.int .i64 ro, .int .i64 rn, .slice rA m rc]
        rw [show (w1.alloc (.cells #[] 27)).heap.size = w1.heap.size + 1 by simp] at hb1
        refine wpAnyH_ready (rs := [5]) (by kernel_rfl) (by simp) ?_
        refine AllReadyH.cons rfl (fun K hK => ?_) AllReadyH.nil
        refine step_copiedw (by rfl) (.tmp 14) (.tmp 15) 22 rfl 27 j0 (.agg #[.int .i64 0, .int .i64 0, .slice none 0 0]) 3 40 Try.underlying22 hj hy0 hy1 hy2 rfl (by decide) _ B p d (rcells rs) (by rfl) (by rfl) (HR.out _ (by repeat' (first | exact World.grownBy.refl _ none | exact World.grownBy.refl _ none | apply grow_alloc))) (rcells_one rs) (by unfold maxLen; omega) (by omega) ?_
        intro A2 c2 w2 hcp
        have g2 : w1.grownBy w2 none := World.grownBy.trans (by repeat' (first | exact World.grownBy.refl _ none | exact World.grownBy.refl _ none | apply grow_alloc)) hcp.grown
        refine hK.out _ _ (by exact HS.out _ g2) (fun hHeld => ?_)
        clear hK K
        try simp only [Act.put, List.getElem_toArray, List.getElem_cons_zero, List.getElem_cons_succ, List.setIfInBounds_toArray, List.set_cons_zero, List.set_cons_succ]
        refine wpAnyH_ready (rs := [8]) (by kernel_rfl) (by simp) ?_
        refine AllReadyH.cons rfl (fun K hK => ?_) AllReadyH.nil
        refine step_onto2w (by rfl) (.tmp 16) (.tmp 18) 22 rfl 27 j0 (.agg #[.int .i64 0, .int .i64 0, .slice none 0 0]) 3 40 Try.underlying22 hj hy0 hy1 hy2 rfl (by decide) A2 p c2 (rcells rs) (by rfl) hcp (by rw [rcells_length]; exact congrArg (· * 3) HL.out) (World.grownBy.refl _ none) (some ⟨w1.heap.size + 1, 0, none⟩) 1 1 [.int .i64 ro, .int .i64 rn, .slice rA m rc] (by rfl) ((Rd.of_blk hb1 rfl (fun q u h => by rw [← h]; simp)).kept hcp.grown (by omega)) (by simp [Value.oneCell']) (by unfold maxLen; omega) (by omega) ?_
        intro A3 c3 w3 hno
        have g3 : w1.grownBy w3 none := World.grownBy.trans (by repeat' (first | exact World.grownBy.refl _ none | exact World.grownBy.refl _ none | apply grow_alloc)) hno.grown
        refine hK.out _ _ (by exact HS.out _ g3) (fun hHeld => ?_)
        clear hK K
        try simp only [Act.put, List.getElem_toArray, List.getElem_cons_zero, List.getElem_cons_succ, List.setIfInBounds_toArray, List.set_cons_zero, List.set_cons_succ]
        refine wpAnyH_ready (rs := [9]) (by kernel_rfl) (by simp) ?_
        refine AllReadyH.cons rfl (fun K hK => ?_) AllReadyH.nil
        go_simp
        refine (HG.out _ _ c3 (World.grownBy.trans hg1' g3) hno.rdN).mono ?_
        rintro e w4 ⟨rfl, hg4⟩
        have g4 := World.grownBy.trans g3 hg4
        go_simp
        refine hK.out _ _ (by exact HS.out _ g4) (fun hHeld => ?_)
        clear hK K
        try simp only [Act.put, List.getElem_toArray, List.getElem_cons_zero, List.getElem_cons_succ, List.setIfInBounds_toArray, List.set_cons_zero, List.set_cons_succ]
        refine wpAnyH_take (i := 10) (v := ?_) rfl (by kernel_rfl) (by kernel_rfl) (by kernel_rfl) (fun _ _ _ h => h) (Or.inl ⟨by rfl, ?_⟩) (by assumption) ?_
        rotate_left 1
        · (intro w hSw; (try dsimp only at hSw); go_simp; try (with_reducible rfl))
        simp only [Act.put, List.getElem_toArray, List.getElem_cons_zero, List.getElem_cons_succ, List.setIfInBounds_toArray, List.set_cons_zero, List.set_cons_succ]
        refine wpAnyH_take (i := 11) (v := ?_) rfl (by kernel_rfl) (by kernel_rfl) (by kernel_rfl) (fun _ _ _ h => h) (Or.inl ⟨by rfl, ?_⟩) (by assumption) ?_
        rotate_left 1
        · (intro w hSw; (try dsimp only at hSw); go_simp; try (with_reducible rfl))
        simp only [Act.put, List.getElem_toArray, List.getElem_cons_zero, List.getElem_cons_succ, List.setIfInBounds_toArray, List.set_cons_zero, List.set_cons_succ]
        refine wpAnyH_take (i := 12) (v := ?_) rfl (by kernel_rfl) (by kernel_rfl) (by kernel_rfl) (fun _ _ _ h => h) (Or.inl ⟨by rfl, ?_⟩) (by assumption) ?_
        rotate_left 1
        · (intro w hSw; (try dsimp only at hSw); go_simp; try (with_reducible rfl))
        simp only [Act.put, List.getElem_toArray, List.getElem_cons_zero, List.getElem_cons_succ, List.setIfInBounds_toArray, List.set_cons_zero, List.set_cons_succ]
        refine wpAnyH_take (i := 13) (v := ?_) rfl (by kernel_rfl) (by kernel_rfl) (by kernel_rfl) (fun _ _ _ h => h) (Or.inl ⟨by rfl, ?_⟩) (by assumption) ?_
        rotate_left 1
        · (intro w hSw; (try dsimp only at hSw); go_simp; try (with_reducible rfl))
        simp only [Act.put, List.getElem_toArray, List.getElem_cons_zero, List.getElem_cons_succ, List.setIfInBounds_toArray, List.set_cons_zero, List.set_cons_succ]
        refine wpAnyH_take (i := 14) (v := ?_) rfl (by kernel_rfl) (by kernel_rfl) (by kernel_rfl) (fun _ _ _ h => h) (Or.inl ⟨by rfl, ?_⟩) (by assumption) ?_
        rotate_left 1
        · (intro w hSw; (try dsimp only at hSw); go_simp; try (with_reducible rfl))
        simp only [Act.put, List.getElem_toArray, List.getElem_cons_zero, List.getElem_cons_succ, List.setIfInBounds_toArray, List.set_cons_zero, List.set_cons_succ]
        refine wpAnyH_take (i := 15) (v := ?_) rfl (by kernel_rfl) (by kernel_rfl) (by kernel_rfl) (fun _ _ _ h => h) (Or.inl ⟨by rfl, ?_⟩) (by assumption) ?_
        rotate_left 1
        · (intro w hSw; (try dsimp only at hSw); go_simp; try (with_reducible rfl))
        simp only [Act.put, List.getElem_toArray, List.getElem_cons_zero, List.getElem_cons_succ, List.setIfInBounds_toArray, List.set_cons_zero, List.set_cons_succ]
        refine wpAnyH_done (by kernel_rfl) ?_ _
        have Hend := Lib.hid (World.grownBy.trans hg1' g4)
        clear g2 g3 g4 hcp hno hg4 hg1 hg1' HS HR hHeld
        go_wp2
        go_meet
        exact ⟨_, rfl, Lib.hid (fun h => ⟨Hgc.out, by have h' := of_decide_eq_false h; omega⟩), Hend.out⟩
      refine AllReadyH.cons rfl (fun K hK => ?_) AllReadyH.nil
      go_simp
      refine hK.out _ _ (by exact HS.out _ (by repeat' (first | exact World.grownBy.refl _ none | exact World.grownBy.refl _ none | apply grow_alloc))) (fun hHeld => ?_)
      clear hK K
      try simp only [Act.put, List.getElem_toArray, List.getElem_cons_zero, List.getElem_cons_succ, List.setIfInBounds_toArray, List.set_cons_zero, List.set_cons_succ]
      refine wpAnyH_ready (rs := [3]) (by kernel_rfl) (by simp) ?_
      refine AllReadyH.cons rfl (fun K hK => ?_) AllReadyH.nil
      go_simp
      refine hK.out _ _ (by exact HS.out _ (by repeat' (first | exact World.grownBy.refl _ none | exact World.grownBy.refl _ none | apply grow_alloc))) (fun hHeld => ?_)
      clear hK K
      try simp only [Act.put, List.getElem_toArray, List.getElem_cons_zero, List.getElem_cons_succ, List.setIfInBounds_toArray, List.set_cons_zero, List.set_cons_succ]
      refine wpAnyH_ready (rs := [5]) (by kernel_rfl) (by simp) ?_
      refine AllReadyH.cons rfl (fun K hK => ?_) AllReadyH.nil
      refine step_copiedw (by rfl) (.tmp 14) (.tmp 15) 22 rfl 27 j0 (.agg #[.int .i64 0, .int .i64 0, .slice none 0 0]) 3 40 Try.underlying22 hj hy0 hy1 hy2 rfl (by decide) _ B p d (rcells rs) (by rfl) (by rfl) (HR.out _ (by repeat' (first | exact World.grownBy.refl _ none | exact World.grownBy.refl _ none | apply grow_alloc))) (rcells_one rs) (by unfold maxLen; omega) (by omega) ?_
      intro A2 c2 w2 hcp
      have g2 : w1.grownBy w2 none := World.grownBy.trans (by repeat' (first | exact World.grownBy.refl _ none | exact World.grownBy.refl _ none | apply grow_alloc)) hcp.grown
      refine hK.out _ _ (by exact HS.out _ g2) (fun hHeld => ?_)
      clear hK K
      try simp only [Act.put, List.getElem_toArray, List.getElem_cons_zero, List.getElem_cons_succ, List.setIfInBounds_toArray, List.set_cons_zero, List.set_cons_succ]
      refine wpAnyH_ready (rs := [8]) (by kernel_rfl) (by simp) ?_
      refine AllReadyH.cons rfl (fun K hK => ?_) AllReadyH.nil
      refine step_onto2w (by rfl) (.tmp 16) (.tmp 18) 22 rfl 27 j0 (.agg #[.int .i64 0, .int .i64 0, .slice none 0 0]) 3 40 Try.underlying22 hj hy0 hy1 hy2 rfl (by decide) A2 p c2 (rcells rs) (by rfl) hcp (by rw [rcells_length]; exact congrArg (· * 3) HL.out) (World.grownBy.refl _ none) _ 1 1 [.int .i64 ro, .int .i64 rn, .slice rA m rc] (by rfl) (((Rd.of_blk (Blk.new _ 27 #[.int .i64 ro, .int .i64 rn, .slice rA m rc]) rfl (fun q u h => by rw [← h]; simp)).alloc (by omega) _).kept hcp.grown (by omega)) (by simp [Value.oneCell']) (by unfold maxLen; omega) (by omega) ?_
      intro A3 c3 w3 hno
      have g3 : w1.grownBy w3 none := World.grownBy.trans (by repeat' (first | exact World.grownBy.refl _ none | exact World.grownBy.refl _ none | apply grow_alloc)) hno.grown
      refine hK.out _ _ (by exact HS.out _ g3) (fun hHeld => ?_)
      clear hK K
      try simp only [Act.put, List.getElem_toArray, List.getElem_cons_zero, List.getElem_cons_succ, List.setIfInBounds_toArray, List.set_cons_zero, List.set_cons_succ]
      refine wpAnyH_ready (rs := [9]) (by kernel_rfl) (by simp) ?_
      refine AllReadyH.cons rfl (fun K hK => ?_) AllReadyH.nil
      go_simp
      refine (HG.out _ _ c3 (World.grownBy.trans hg1' g3) hno.rdN).mono ?_
      rintro e w4 ⟨rfl, hg4⟩
      have g4 := World.grownBy.trans g3 hg4
      go_simp
      refine hK.out _ _ (by exact HS.out _ g4) (fun hHeld => ?_)
      clear hK K
      try simp only [Act.put, List.getElem_toArray, List.getElem_cons_zero, List.getElem_cons_succ, List.setIfInBounds_toArray, List.set_cons_zero, List.set_cons_succ]
      refine wpAnyH_take (i := 10) (v := ?_) rfl (by kernel_rfl) (by kernel_rfl) (by kernel_rfl) (fun _ _ _ h => h) (Or.inl ⟨by rfl, ?_⟩) (by assumption) ?_
      rotate_left 1
      · (intro w hSw; (try dsimp only at hSw); go_simp; try (with_reducible rfl))
      simp only [Act.put, List.getElem_toArray, List.getElem_cons_zero, List.getElem_cons_succ, List.setIfInBounds_toArray, List.set_cons_zero, List.set_cons_succ]
      refine wpAnyH_take (i := 11) (v := ?_) rfl (by kernel_rfl) (by kernel_rfl) (by kernel_rfl) (fun _ _ _ h => h) (Or.inl ⟨by rfl, ?_⟩) (by assumption) ?_
      rotate_left 1
      · (intro w hSw; (try dsimp only at hSw); go_simp; try (with_reducible rfl))
      simp only [Act.put, List.getElem_toArray, List.getElem_cons_zero, List.getElem_cons_succ, List.setIfInBounds_toArray, List.set_cons_zero, List.set_cons_succ]
      refine wpAnyH_take (i := 12) (v := ?_) rfl (by kernel_rfl) (by kernel_rfl) (by kernel_rfl) (fun _ _ _ h => h) (Or.inl ⟨by rfl, ?_⟩) (by assumption) ?_
      rotate_left 1
      · (intro w hSw; (try dsimp only at hSw); go_simp; try (with_reducible rfl))
      simp only [Act.put, List.getElem_toArray, List.getElem_cons_zero, List.getElem_cons_succ, List.setIfInBounds_toArray, List.set_cons_zero, List.set_cons_succ]
      refine wpAnyH_take (i := 13) (v := ?_) rfl (by kernel_rfl) (by kernel_rfl) (by kernel_rfl) (fun _ _ _ h => h) (Or.inl ⟨by rfl, ?_⟩) (by assumption) ?_
      rotate_left 1
      · (intro w hSw; (try dsimp only at hSw); go_simp; try (with_reducible rfl))
      simp only [Act.put, List.getElem_toArray, List.getElem_cons_zero, List.getElem_cons_succ, List.setIfInBounds_toArray, List.set_cons_zero, List.set_cons_succ]
      refine wpAnyH_take (i := 14) (v := ?_) rfl (by kernel_rfl) (by kernel_rfl) (by kernel_rfl) (fun _ _ _ h => h) (Or.inl ⟨by rfl, ?_⟩) (by assumption) ?_
      rotate_left 1
      · (intro w hSw; (try dsimp only at hSw); go_simp; try (with_reducible rfl))
      simp only [Act.put, List.getElem_toArray, List.getElem_cons_zero, List.getElem_cons_succ, List.setIfInBounds_toArray, List.set_cons_zero, List.set_cons_succ]
      refine wpAnyH_take (i := 15) (v := ?_) rfl (by kernel_rfl) (by kernel_rfl) (by kernel_rfl) (fun _ _ _ h => h) (Or.inl ⟨by rfl, ?_⟩) (by assumption) ?_
      rotate_left 1
      · (intro w hSw; (try dsimp only at hSw); go_simp; try (with_reducible rfl))
      simp only [Act.put, List.getElem_toArray, List.getElem_cons_zero, List.getElem_cons_succ, List.setIfInBounds_toArray, List.set_cons_zero, List.set_cons_succ]
      refine wpAnyH_done (by kernel_rfl) ?_ _
      have Hend := Lib.hid (World.grownBy.trans hg1' g4)
      clear g2 g3 g4 hcp hno hg4 hg1 hg1' HS HR hHeld
      go_wp2
      go_meet
      exact ⟨_, rfl, Lib.hid (fun h => ⟨Hgc.out, by have h' := of_decide_eq_false h; omega⟩), Hend.out⟩
  case rest =>
    obtain ⟨bb, rfl, Hbb, hg1⟩ := hcut
    have K1 := Lib.hid (grown_tr Hg0.out hg1)
    cases bb with
    | true =>
      clear hg1
      go_wp2_with fail
      refine (awake14 wc).mono ?_
      rintro e w3 ⟨rfl, hg3⟩
      have K3 := Lib.hid (grown_tr K1.out hg3); clear hg3
      go_wp2
      go_ret
      exact ⟨rfl, K3.out⟩
    | false =>
      obtain ⟨hgr, hk100⟩ := Hbb.out rfl
      obtain ⟨hs1, hs2, hs3, hs4⟩ := great08_small hgr
      have hm20 := Hm0.out hs3
      rw [HLr.out] at hs2
      rw [Hfl.out, List.length_append, Hm.out] at hs4
      have Ha := Lib.hid (show ArgsAt wc none 0 [] B p rs from ⟨rfl, Rd.nil _ _ _, by simp, HL.out, HR0.out wc hg1, fun x hx => (H.out.wr x hx).kept K1.out, by rw [List.append_nil]; omega, by omega⟩)
      have HB1 := Lib.hid (Hb0.out.grown hg1 (by simp))
      have Hgr := Lib.hid hgr
      obtain ⟨q, hq⟩ : ∃ q, (flat rs ++ []).length = q := ⟨_, rfl⟩
      have hq240 : q ≤ 240 := by rw [← hq, List.append_nil]; omega
      have hst := Ha.out.state 0 d
      have Hst := Lib.hid hst; have Hq := Lib.hid hq
      clear hst hq hgr hs1 hs3 hs4 hg1 HR0 HS0 HG Hb0
      go_wp2_with fail
      refine Hst.out.mono ?_
      rintro e w2 ⟨rfl, s2⟩
      rw [Hq.out] at s2
      have s3 : Stb wc (wc.heap.size + 1) (stOf (flat rs ++ us.take 0)) (q + 0) (fun _ _ => True) w2 := by rw [List.take_zero]; exact s2
      have e2 := (s2.keepB HB1.out).cell 2
      simp only [List.getElem?_toArray, List.getElem?_cons_zero, List.getElem?_cons_succ] at e2
      clear s2
      go_wp2_with fail
      go_loopw [35] (fun v wx => ∃ j : Nat, j ≤ m ∧ v = .int .i64 j ∧ Stb wc (wc.heap.size + 1) (stOf (flat rs ++ us.take j)) (q + j) (fun _ _ => True) wx) (fun v _ => m - (intOf v).toNat)
      case atStart => exact ⟨0, by omega, rfl, s3⟩
      case round =>
       clear s3 e2
       obtain ⟨j, hjm, rfl, hS⟩ := hrel
       by_cases hlt2 : j < m
       · obtain ⟨b2, off2, u, rfl, hlu, d0, d1, d2, d3⟩ := upds_atn (hS.old (Hus.out wc K1.out) (by omega)) hlt2
         have hwf := Huw.out u (List.mem_of_getElem? hlu)
         have hsn : stOf (flat rs ++ us.take (j + 1)) = doM (stOf (flat rs ++ us.take j)) u := by rw [stOf_append, stOf_append, stFrom_take _ _ _ _ hlu]
         have K5 := Lib.hid (Kept.blk Kept.none 31 (by omega) wr.heap.size 38 #[.string u.key, .int .i64 u.kind, .int .i64 u.n, .string u.s])
         have s5 := hS.alloc Kept.none 38 #[.string u.key, .int .i64 u.kind, .int .i64 u.n, .string u.s]
         have hdo := fun (W : World) h => stb_do (w := W) (w0 := wc) (g := wc.heap.size + 1) (m := stOf (flat rs ++ us.take j)) (n := q + j) h K5.out u hwf.1 hwf.2.1 (by omega)
         rw [← hsn] at hdo
         clear hS hwf hsn hlu
         obtain ⟨e0, he0⟩ : ∃ e0, mayU u = e0 := ⟨_, rfl⟩
         rw [he0] at hdo
         clear he0
         obtain ⟨uk, ukd, un, us'⟩ := u
         dsimp only at d0 d1 d2 d3 s5 K5 hdo
         have Hdo := Lib.hid hdo; clear hdo
         go_wp2_with fail
         refine (Hdo.out _ s5).mono ?_
         rintro e w6 ⟨rfl, s6⟩
         clear s5 d0 d1 d2 d3
         have Hend := Lib.hid (s6.weaken (Y := fun _ _ => True) (fun _ _ h => trivial))
         clear s6
         go_wp2_with fail
         go_roundw
         case rel => exact ⟨j + 1, by omega, by go_num, Hend.out⟩
         case measure => simp [intOf]; omega
       · obtain rfl : m = j := by omega
         rw [show us.take m = us from List.take_of_length_le (by rw [Hm.out]; exact Nat.le_refl _)] at hS
         have hgw := hS.end_
         have HS := Lib.hid (show ∀ W, wr.drew.grownBy W none → W.cell? ⟨w.heap.size, 0, none⟩ = some (.int .i64 ro) ∧ W.cell? ⟨w.heap.size, 1, none⟩ = some (.int .i64 rn) ∧ W.cell? ⟨w.heap.size, 2, none⟩ = some (.slice rA m rc) from fun W hg => by
           have hb := (hS.keepB HB1.out).grown (World.grownBy.trans (show wr.grownBy wr.drew none from grown_drewN wr 1) hg) (by simp)
           exact ⟨hb.cell 0, hb.cell 1, hb.cell 2⟩)
         have HR := Lib.hid (show ∀ W, wr.drew.grownBy W none → Rd W 3 B p (rcells rs) from fun W hg => Ha.out.hr.kept (World.grownBy.trans hgw (World.grownBy.trans (show wr.grownBy wr.drew none from grown_drewN wr 1) hg)) (by omega))
         have HSt := Lib.hid hS; have Hgw := Lib.hid hgw; clear hS hgw
         obtain ⟨v, hv⟩ : ∃ v, stOf (flat rs ++ us) key = v := ⟨_, rfl⟩
         obtain ⟨ks, hks⟩ := keys_exist (flat rs ++ us)
         obtain ⟨x, hx⟩ : ∃ x, ((ks.length : Nat) : Int) = x := ⟨_, rfl⟩
         obtain ⟨v1, v2, v3⟩ := v
         have Hv := Lib.hid hv; have Hks := Lib.hid hks; have Hx := Lib.hid hx; clear hv hks hx
         go_wp2_with fail
         refine wp_region_held_drew (S := fun w' => w'.cell? ⟨w.heap.size, 0, none⟩ = some (.int .i64 ro) ∧ w'.cell? ⟨w.heap.size, 1, none⟩ = some (.int .i64 rn) ∧ w'.cell? ⟨w.heap.size, 2, none⟩ = some (.slice rA m rc)) (by kernel_rfl) (HS.out _ (World.grownBy.refl _ none)) (fun hHeld => ?_)
         obtain ⟨wd, hwd⟩ : ∃ wd, wd = wr.drew := ⟨_, rfl⟩
         have hgd : wr.grownBy wd none := by rw [hwd]; exact grown_drewN wr 1
         rw [← hwd] at HS HR hHeld ⊢
         clear hwd
         refine wpAnyH_take (i := 1) (v := ?_) rfl (by kernel_rfl) (by kernel_rfl) (by kernel_rfl) (fun _ _ _ h => h) (Or.inl ⟨by rfl, ?_⟩) (by assumption) ?_
         rotate_left 1
         · (intro w hSw; (try dsimp only at hSw); go_simp; try (with_reducible rfl))
         simp only [Act.put, List.getElem_toArray, List.getElem_cons_zero, List.getElem_cons_succ, List.setIfInBounds_toArray, List.set_cons_zero, List.set_cons_succ]
         refine wpAnyH_take (i := 3) (v := ?_) rfl (by kernel_rfl) (by kernel_rfl) (by kernel_rfl) (fun _ _ _ h => h) (Or.inl ⟨by rfl, ?_⟩) (by assumption) ?_
         rotate_left 1
         · (intro w hSw; (try dsimp only at hSw); go_simp; try (with_reducible rfl))
         simp only [Act.put, List.getElem_toArray, List.getElem_cons_zero, List.getElem_cons_succ, List.setIfInBounds_toArray, List.set_cons_zero, List.set_cons_succ]
         refine wpAnyH_ready (rs := [0, 4]) (by kernel_rfl) (by simp) ?_
         refine AllReadyH.cons rfl (fun K hK => ?_) ?_
         · go_simp
           refine hK.out _ _ (by exact HS.out _ (by repeat' (first | exact World.grownBy.refl _ none | exact World.grownBy.refl _ none | apply grow_alloc))) (fun hHeld => ?_)
           clear hK K
           try simp only [Act.put, List.getElem_toArray, List.getElem_cons_zero, List.getElem_cons_succ, List.setIfInBounds_toArray, List.set_cons_zero, List.set_cons_succ]
           refine wpAnyH_ready (rs := [2, 4]) (by kernel_rfl) (by simp) ?_
           refine AllReadyH.cons rfl (fun K hK => ?_) ?_
           · refine step_copiedw (by rfl) (.tmp 43) (.tmp 44) 22 rfl 27 j0 (.agg #[.int .i64 0, .int .i64 0, .slice none 0 0]) 3 40 Try.underlying22 hj hy0 hy1 hy2 rfl (by decide) _ B p d (rcells rs) (by rfl) (by rfl) (HR.out _ (by repeat' (first | exact World.grownBy.refl _ none | exact World.grownBy.refl _ none | apply grow_alloc))) (rcells_one rs) (by unfold maxLen; omega) (by omega) ?_
             intro A2 c2 w2 hcp
             have g2 : wd.grownBy w2 none := World.grownBy.trans (by repeat' (first | exact World.grownBy.refl _ none | exact World.grownBy.refl _ none | apply grow_alloc)) hcp.grown
             refine hK.out _ _ (by exact HS.out _ g2) (fun hHeld => ?_)
             clear hK K
             try simp only [Act.put, List.getElem_toArray, List.getElem_cons_zero, List.getElem_cons_succ, List.setIfInBounds_toArray, List.set_cons_zero, List.set_cons_succ]
             refine wpAnyH_ready (rs := [4]) (by kernel_rfl) (by simp) ?_
             refine AllReadyH.cons rfl (fun K hK => ?_) AllReadyH.nil
             go_simp
             refine hK.out _ _ (by exact HS.out _ (by repeat' (first | exact g2 | exact World.grownBy.refl _ none | apply grow_alloc))) (fun hHeld => ?_)
             clear hK K
             try simp only [Act.put, List.getElem_toArray, List.getElem_cons_zero, List.getElem_cons_succ, List.setIfInBounds_toArray, List.set_cons_zero, List.set_cons_succ]
             refine wpAnyH_ready (rs := [5]) (by kernel_rfl) (by simp) ?_
             refine AllReadyH.cons rfl (fun K hK => ?_) AllReadyH.nil
             refine step_onto2w (by rfl) (.tmp 45) (.tmp 47) 22 rfl 27 j0 (.agg #[.int .i64 0, .int .i64 0, .slice none 0 0]) 3 40 Try.underlying22 hj hy0 hy1 hy2 rfl (by decide) A2 p c2 (rcells rs) (by rfl) hcp (by rw [rcells_length]; exact congrArg (· * 3) HL.out) (by repeat' (first | exact World.grownBy.refl _ none | exact World.grownBy.refl _ none | apply grow_alloc)) _ 1 1 [.int .i64 ro, .int .i64 rn, .slice rA m rc] (by rfl) (Rd.of_blk (Blk.new _ 27 #[.int .i64 ro, .int .i64 rn, .slice rA m rc]) rfl (fun q u h => by rw [← h]; simp)) (by simp [Value.oneCell']) (by unfold maxLen; omega) (by omega) ?_
             intro A3 c3 w3 hno
             have g3 : wd.grownBy w3 none := World.grownBy.trans (by repeat' (first | exact World.grownBy.refl _ none | exact World.grownBy.refl _ none | apply grow_alloc)) hno.grown
             refine hK.out _ _ (by exact HS.out _ g3) (fun hHeld => ?_)
             clear hK K
             try simp only [Act.put, List.getElem_toArray, List.getElem_cons_zero, List.getElem_cons_succ, List.setIfInBounds_toArray, List.set_cons_zero, List.set_cons_succ]
             refine wpAnyH_take (i := 6) (v := ?_) rfl (by kernel_rfl) (by kernel_rfl) (by kernel_rfl) (fun _ _ _ h => h) (Or.inl ⟨by rfl, ?_⟩) (by assumption) ?_
             rotate_left 1
             · (intro w hSw; (try dsimp only at hSw); go_simp; try (with_reducible rfl))
             simp only [Act.put, List.getElem_toArray, List.getElem_cons_zero, List.getElem_cons_succ, List.setIfInBounds_toArray, List.set_cons_zero, List.set_cons_succ]
             refine wpAnyH_done (by kernel_rfl) ?_ _
             have hgw3 := grown_tr K1.out (grown_tr Hgw.out (grown_tr hgd g3))
             have Hargs := Lib.hid ((HA0.out w3 A3 hgw3 hno.rdN).small Hgr.out)
             have s4 := HSt.out.grown Kept.none (grown_tr hgd g3)
             have K4 := Lib.hid hgw3
             clear g2 g3 hcp hno hHeld HS HR hgw3 hgd HSt Hgw HB1
             go_wp2_with fail
             refine (stb_getg s4 Kept.none key Hk.out ⟨v1, v2, v3⟩ Hv.out).mono ?_
             rintro e w5 ⟨rfl, s5, hg5⟩
             have K5 := Lib.hid (grown_tr K4.out hg5)
             have Ha5 := Lib.hid (Hargs.out.grown hg5)
             clear s4 hg5
             go_wp2_with fail
             refine (read16 Ha5.out 0 c3 key Hk.out ⟨v1, v2, v3⟩ (by rw [Hfl.out, List.append_nil]; exact Hv.out)).mono ?_
             rintro e w6 ⟨rfl, hg6⟩
             have s6 := s5.grown Kept.none hg6
             have K6 := Lib.hid (grown_tr K5.out hg6)
             have Ha6 := Lib.hid (Ha5.out.grown hg6)
             clear s5 hg6
             go_wp2_with fail
             refine (stb_len s6 Hks.out x Hx.out).mono ?_
             rintro e w7 ⟨rfl, rfl⟩
             go_wp2_with fail
             refine (len23 Ha6.out 0 c3 (ks := ks) (by rw [Hfl.out, List.append_nil]; exact Hks.out) x Hx.out).mono ?_
             rintro e w8 ⟨rfl, hg8⟩
             have K8 := Lib.hid (grown_tr K6.out hg8)
             clear hg8 s6
             go_wp2
             go_ret
             exact ⟨rfl, K8.out⟩
           refine AllReadyH.cons rfl (fun K hK => ?_) AllReadyH.nil
           go_simp
           refine hK.out _ _ (by exact HS.out _ (by repeat' (first | exact World.grownBy.refl _ none | exact World.grownBy.refl _ none | apply grow_alloc))) (fun hHeld => ?_)
           clear hK K
           try simp only [Act.put, List.getElem_toArray, List.getElem_cons_zero, List.getElem_cons_succ, List.setIfInBounds_toArray, List.set_cons_zero, List.set_cons_succ]
           have hb1 := Blk.new (wd.alloc (.cells #[] 27)) 27 #[.int .i64 ro, .int .i64 rn, .slice rA m rc]
           rw [show (wd.alloc (.cells #[] 27)).heap.size = wd.heap.size + 1 by simp] at hb1
           refine wpAnyH_ready (rs := [2]) (by kernel_rfl) (by simp) ?_
           refine AllReadyH.cons rfl (fun K hK => ?_) AllReadyH.nil
           refine step_copiedw (by rfl) (.tmp 43) (.tmp 44) 22 rfl 27 j0 (.agg #[.int .i64 0, .int .i64 0, .slice none 0 0]) 3 40 Try.underlying22 hj hy0 hy1 hy2 rfl (by decide) _ B p d (rcells rs) (by rfl) (by rfl) (HR.out _ (by repeat' (first | exact World.grownBy.refl _ none | exact World.grownBy.refl _ none | apply grow_alloc))) (rcells_one rs) (by unfold maxLen; omega) (by omega) ?_
           intro A2 c2 w2 hcp
           have g2 : wd.grownBy w2 none := World.grownBy.trans (by repeat' (first | exact World.grownBy.refl _ none | exact World.grownBy.refl _ none | apply grow_alloc)) hcp.grown
           refine hK.out _ _ (by exact HS.out _ g2) (fun hHeld => ?_)
           clear hK K
           try simp only [Act.put, List.getElem_toArray, List.getElem_cons_zero, List.getElem_cons_succ, List.setIfInBounds_toArray, List.set_cons_zero, List.set_cons_succ]
           refine wpAnyH_ready (rs := [5]) (by kernel_rfl) (by simp) ?_
           refine AllReadyH.cons rfl (fun K hK => ?_) AllReadyH.nil
           refine step_onto2w (by rfl) (.tmp 45) (.tmp 47) 22 rfl 27 j0 (.agg #[.int .i64 0, .int .i64 0, .slice none 0 0]) 3 40 Try.underlying22 hj hy0 hy1 hy2 rfl (by decide) A2 p c2 (rcells rs) (by rfl) hcp (by rw [rcells_length]; exact congrArg (· * 3) HL.out) (World.grownBy.refl _ none) (some ⟨wd.heap.size + 1, 0, none⟩) 1 1 [.int .i64 ro, .int .i64 rn, .slice rA m rc] (by rfl) ((Rd.of_blk hb1 rfl (fun q u h => by rw [← h]; simp)).kept hcp.grown (by omega)) (by simp [Value.oneCell']) (by unfold maxLen; omega) (by omega) ?_
           intro A3 c3 w3 hno
           have g3 : wd.grownBy w3 none := World.grownBy.trans (by repeat' (first | exact World.grownBy.refl _ none | exact World.grownBy.refl _ none | apply grow_alloc)) hno.grown
           refine hK.out _ _ (by exact HS.out _ g3) (fun hHeld => ?_)
           clear hK K
           try simp only [Act.put, List.getElem_toArray, List.getElem_cons_zero, List.getElem_cons_succ, List.setIfInBounds_toArray, List.set_cons_zero, List.set_cons_succ]
           refine wpAnyH_take (i := 6) (v := ?_) rfl (by kernel_rfl) (by kernel_rfl) (by kernel_rfl) (fun _ _ _ h => h) (Or.inl ⟨by rfl, ?_⟩) (by assumption) ?_
           rotate_left 1
           · (intro w hSw; (try dsimp only at hSw); go_simp; try (with_reducible rfl))
           simp only [Act.put, List.getElem_toArray, List.getElem_cons_zero, List.getElem_cons_succ, List.setIfInBounds_toArray, List.set_cons_zero, List.set_cons_succ]
           refine wpAnyH_done (by kernel_rfl) ?_ _
           have hgw3 := grown_tr K1.out (grown_tr Hgw.out (grown_tr hgd g3))
           have Hargs := Lib.hid ((HA0.out w3 A3 hgw3 hno.rdN).small Hgr.out)
           have s4 := HSt.out.grown Kept.none (grown_tr hgd g3)
           have K4 := Lib.hid hgw3
           clear g2 g3 hcp hno hHeld HS HR hgw3 hgd HSt Hgw HB1
           go_wp2_with fail
           refine (stb_getg s4 Kept.none key Hk.out ⟨v1, v2, v3⟩ Hv.out).mono ?_
           rintro e w5 ⟨rfl, s5, hg5⟩
           have K5 := Lib.hid (grown_tr K4.out hg5)
           have Ha5 := Lib.hid (Hargs.out.grown hg5)
           clear s4 hg5
           go_wp2_with fail
           refine (read16 Ha5.out 0 c3 key Hk.out ⟨v1, v2, v3⟩ (by rw [Hfl.out, List.append_nil]; exact Hv.out)).mono ?_
           rintro e w6 ⟨rfl, hg6⟩
           have s6 := s5.grown Kept.none hg6
           have K6 := Lib.hid (grown_tr K5.out hg6)
           have Ha6 := Lib.hid (Ha5.out.grown hg6)
           clear s5 hg6
           go_wp2_with fail
           refine (stb_len s6 Hks.out x Hx.out).mono ?_
           rintro e w7 ⟨rfl, rfl⟩
           go_wp2_with fail
           refine (len23 Ha6.out 0 c3 (ks := ks) (by rw [Hfl.out, List.append_nil]; exact Hks.out) x Hx.out).mono ?_
           rintro e w8 ⟨rfl, hg8⟩
           have K8 := Lib.hid (grown_tr K6.out hg8)
           clear hg8 s6
           go_wp2
           go_ret
           exact ⟨rfl, K8.out⟩
         refine AllReadyH.cons rfl (fun K hK => ?_) AllReadyH.nil
         go_simp
         refine hK.out _ _ (by exact HS.out _ (by repeat' (first | exact World.grownBy.refl _ none | exact World.grownBy.refl _ none | apply grow_alloc))) (fun hHeld => ?_)
         clear hK K
         try simp only [Act.put, List.getElem_toArray, List.getElem_cons_zero, List.getElem_cons_succ, List.setIfInBounds_toArray, List.set_cons_zero, List.set_cons_succ]
         refine wpAnyH_ready (rs := [0]) (by kernel_rfl) (by simp) ?_
         refine AllReadyH.cons rfl (fun K hK => ?_) AllReadyH.nil
         go_simp
         refine hK.out _ _ (by exact HS.out _ (by repeat' (first | exact World.grownBy.refl _ none | exact World.grownBy.refl _ none | apply grow_alloc))) (fun hHeld => ?_)
         clear hK K
         try simp only [Act.put, List.getElem_toArray, List.getElem_cons_zero, List.getElem_cons_succ, List.setIfInBounds_toArray, List.set_cons_zero, List.set_cons_succ]
         refine wpAnyH_ready (rs := [2]) (by kernel_rfl) (by simp) ?_
         refine AllReadyH.cons rfl (fun K hK => ?_) AllReadyH.nil
         refine step_copiedw (by rfl) (.tmp 43) (.tmp 44) 22 rfl 27 j0 (.agg #[.int .i64 0, .int .i64 0, .slice none 0 0]) 3 40 Try.underlying22 hj hy0 hy1 hy2 rfl (by decide) _ B p d (rcells rs) (by rfl) (by rfl) (HR.out _ (by repeat' (first | exact World.grownBy.refl _ none | exact World.grownBy.refl _ none | apply grow_alloc))) (rcells_one rs) (by unfold maxLen; omega) (by omega) ?_
         intro A2 c2 w2 hcp
         have g2 : wd.grownBy w2 none := World.grownBy.trans (by repeat' (first | exact World.grownBy.refl _ none | exact World.grownBy.refl _ none | apply grow_alloc)) hcp.grown
         refine hK.out _ _ (by exact HS.out _ g2) (fun hHeld => ?_)
         clear hK K
         try simp only [Act.put, List.getElem_toArray, List.getElem_cons_zero, List.getElem_cons_succ, List.setIfInBounds_toArray, List.set_cons_zero, List.set_cons_succ]
         refine wpAnyH_ready (rs := [5]) (by kernel_rfl) (by simp) ?_
         refine AllReadyH.cons rfl (fun K hK => ?_) AllReadyH.nil
         refine step_onto2w (by rfl) (.tmp 45) (.tmp 47) 22 rfl 27 j0 (.agg #[.int .i64 0, .int .i64 0, .slice none 0 0]) 3 40 Try.underlying22 hj hy0 hy1 hy2 rfl (by decide) A2 p c2 (rcells rs) (by rfl) hcp (by rw [rcells_length]; exact congrArg (· * 3) HL.out) (World.grownBy.refl _ none) _ 1 1 [.int .i64 ro, .int .i64 rn, .slice rA m rc] (by rfl) (((Rd.of_blk (Blk.new _ 27 #[.int .i64 ro, .int .i64 rn, .slice rA m rc]) rfl (fun q u h => by rw [← h]; simp)).alloc (by omega) _).kept hcp.grown (by omega)) (by simp [Value.oneCell']) (by unfold maxLen; omega) (by omega) ?_
         intro A3 c3 w3 hno
         have g3 : wd.grownBy w3 none := World.grownBy.trans (by repeat' (first | exact World.grownBy.refl _ none | exact World.grownBy.refl _ none | apply grow_alloc)) hno.grown
         refine hK.out _ _ (by exact HS.out _ g3) (fun hHeld => ?_)
         clear hK K
         try simp only [Act.put, List.getElem_toArray, List.getElem_cons_zero, List.getElem_cons_succ, List.setIfInBounds_toArray, List.set_cons_zero, List.set_cons_succ]
         refine wpAnyH_take (i := 6) (v := ?_) rfl (by kernel_rfl) (by kernel_rfl) (by kernel_rfl) (fun _ _ _ h => h) (Or.inl ⟨by rfl, ?_⟩) (by assumption) ?_
         rotate_left 1
         · (intro w hSw; (try dsimp only at hSw); go_simp; try (with_reducible rfl))
         simp only [Act.put, List.getElem_toArray, List.getElem_cons_zero, List.getElem_cons_succ, List.setIfInBounds_toArray, List.set_cons_zero, List.set_cons_succ]
         refine wpAnyH_done (by kernel_rfl) ?_ _
         have hgw3 := grown_tr K1.out (grown_tr Hgw.out (grown_tr hgd g3))
         have Hargs := Lib.hid ((HA0.out w3 A3 hgw3 hno.rdN).small Hgr.out)
         have s4 := HSt.out.grown Kept.none (grown_tr hgd g3)
         have K4 := Lib.hid hgw3
         clear g2 g3 hcp hno hHeld HS HR hgw3 hgd HSt Hgw HB1
         go_wp2_with fail
         refine (stb_getg s4 Kept.none key Hk.out ⟨v1, v2, v3⟩ Hv.out).mono ?_
         rintro e w5 ⟨rfl, s5, hg5⟩
         have K5 := Lib.hid (grown_tr K4.out hg5)
         have Ha5 := Lib.hid (Hargs.out.grown hg5)
         clear s4 hg5
         go_wp2_with fail
         refine (read16 Ha5.out 0 c3 key Hk.out ⟨v1, v2, v3⟩ (by rw [Hfl.out, List.append_nil]; exact Hv.out)).mono ?_
         rintro e w6 ⟨rfl, hg6⟩
         have s6 := s5.grown Kept.none hg6
         have K6 := Lib.hid (grown_tr K5.out hg6)
         have Ha6 := Lib.hid (Ha5.out.grown hg6)
         clear s5 hg6
         go_wp2_with fail
         refine (stb_len s6 Hks.out x Hx.out).mono ?_
         rintro e w7 ⟨rfl, rfl⟩
         go_wp2_with fail
         refine (len23 Ha6.out 0 c3 (ks := ks) (by rw [Hfl.out, List.append_nil]; exact Hks.out) x Hx.out).mono ?_
         rintro e w8 ⟨rfl, hg8⟩
         have K8 := Lib.hid (grown_tr K6.out hg8)
         clear hg8 s6
         go_wp2
         go_ret
         exact ⟨rfl, K8.out⟩
end Go.Proofs.Ytihnldhdpiokhaa
