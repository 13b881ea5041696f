/- The reference's bag: Spoil. -/
import Derived.Test.YtiipioifjjemoaaRBag3
import Derived.Test.YtiipioifjjemoaaFlip1
namespace Go.Proofs.Ytiipioifjjemoaa
open Go.RowKit
set_option linter.unusedVariables false

theorem list_set_same {α : Type} {xs : List α} {i : Nat} {u : α} (h : xs[i]? = some u) : xs.set i u = xs := by
  apply List.ext_getElem?
  intro j
  rw [List.getElem?_set]
  split
  · rename_i e
    subst e
    rw [if_pos (List.getElem?_eq_some_iff.1 h).1, h]
  · rfl
theorem pcells_set : ∀ (l : List Pkt) (k : Nat) (p : Pkt) (sb : ByteArray), l[k]? = some p → pcells (l.set k { p with bytes := sb }) = (pcells l).set (k * 3 + 2) (.string sb)
  | [], k, p, sb, h => by simp at h
  | x :: l, 0, p, sb, h => by
    simp only [List.getElem?_cons_zero, Option.some.injEq] at h
    subst h
    rfl
  | x :: l, k + 1, p, sb, h => by
    have ih := pcells_set l k p sb (by simpa using h)
    rw [show (k + 1) * 3 + 2 = k * 3 + 2 + 1 + 1 + 1 by omega]
    simp only [List.set_cons_succ, pcells]
    rw [ih]
theorem pks_set (s : BSt) (k : Nat) (p : Pkt) (sp sp' : Bool) (sb : ByteArray) (h : s[k]? = some (p, sp)) : pks (s.set k ({ p with bytes := sb }, sp')) = (pks s).set (k * 3 + 2) (.string sb) := by
  unfold pks
  rw [List.map_set]
  exact pcells_set _ k p sb (by simp [h])
theorem marks_set (s : BSt) (k : Nat) (q : Pkt × Bool) : marks (s.set k q) = (marks s).set k (.bool q.2) := by
  unfold marks
  rw [List.map_set]
theorem copied_set {e size n c g i : Nat} {xs : List Value} {w0 w1 w2 : World} (h : Copied e size xs w0 (some ⟨g, 0, none⟩) n c w1) (hxl : xs.length = n * size) (hn : 0 < n) (hg : w1.grownBy w2 none) (hi : i < n * size) (u : Value) :
    NewRow e size (xs.set i u) w0 (some ⟨g, 0, none⟩) n c (w2.setCell ⟨g, i, none⟩ u) := by
  obtain ⟨g', cs, e1, hb, ht, hge, hs⟩ := h.row hn
  injection e1 with e1
  injection e1 with e1
  subst e1
  refine ⟨h.le, h.max, grown_set (grown_tr h.grown hg) hge u, fun own b0 j hb0 => ⟨by rw [List.length_set]; exact hxl, fun _ => ⟨g, 0, cs.setIfInBounds i u, rfl, give_new (by omega), (hb.grown hg (by simp)).set_ i u, fun q v hq => ?_⟩⟩⟩
  rw [← ht, ← List.take_set, List.getElem?_take] at hq
  split at hq
  · rw [Nat.zero_add, ← hq, ← Array.toList_setIfInBounds, Array.getElem?_toList]
  · cases hq
theorem copied_blk {e size n c : Nat} {xs : List Value} {w0 w1 : World} {A : Option Addr} (h : Copied e size xs w0 A n c w1) (hn : 0 < n) : ∃ g cs, A = some ⟨g, 0, none⟩ ∧ Blk w1 g e cs ∧ cs.toList.take (n * size) = xs ∧ w0.heap.size ≤ g ∧ cs.size = c * size := h.row hn

section
variable {w : World} {own : Nat → Nat} {l g : Nat} {s : BSt}
theorem rbag_spoil_none (h : RBagAt w own l g s) (x bit mask : Int) (hx : x < 0 ∨ (s.length : Int) ≤ x) :
    Calls Try.prog 23 #[.pointer (some ⟨g, 0, none⟩), .int .i64 x, .int .i64 bit, .int .u32 mask] w fun e w' => e = .returned (.int .i64 11) ∧ w = w' := by
  obtain ⟨ho, hl, A, c, A2, c2, hb, _⟩ := h
  have Hb := Lib.hid hb; clear hb
  have Hx := Lib.hid hx; clear hx
  go_enter Try.func23, Try.ntmps23
  go_wp2_with fail
  refine (rthere_no Hb.out x Hx.out).mono ?_
  rintro e w' ⟨rfl, rfl⟩
  go_wp2
  go_ret
  exact ⟨rfl, rfl⟩
theorem rbag_spoil_twice (h : RBagAt w own l g s) (k : Nat) (p : Pkt) (bit mask : Int) (hk : s[k]? = some (p, true)) :
    Calls Try.prog 23 #[.pointer (some ⟨g, 0, none⟩), .int .i64 (k : Int), .int .i64 bit, .int .u32 mask] w fun e w' => e = .returned (.int .i64 12) ∧ w = w' := by
  obtain ⟨ho, hl, A, c, A2, c2, hb, hr, hr2, _⟩ := h
  have hkl : k < s.length := (List.getElem?_eq_some_iff.1 hk).1
  obtain ⟨b2, off2, cs2, rfl, _, hcb2, hcx2⟩ := hr2.2 (by omega)
  have c3 := (hcb2.cell (off2 + k)).trans (hcx2 _ _ (marks_get k s _ hk))
  obtain ⟨n, hn⟩ : ∃ n, s.length = n := ⟨_, rfl⟩
  rw [hn] at hb hkl
  have h1 := hb.cell 1
  simp only [List.getElem?_toArray, List.getElem?_cons_zero, List.getElem?_cons_succ] at h1
  have Hb := Lib.hid hb; clear hb hr hr2 hcb2 hcx2 hl hk hn
  have hk0 : (0 : Int) ≤ (k : Int) := by omega
  have hkn : (k : Int) < (n : Int) := by omega
  go_enter Try.func23, Try.ntmps23
  go_wp2_with fail
  refine (rthere_yes Hb.out k hkl).mono ?_
  rintro e w' ⟨rfl, rfl⟩
  go_wp2
  go_ret
  exact ⟨rfl, rfl⟩

set_option maxHeartbeats 8000000 in
set_option maxRecDepth 10000 in
theorem rbag_spoil (h : RBagAt w own l g s) (k : Nat) (p : Pkt) (bit mask : Int) (hk : s[k]? = some (p, false)) (hm0 : 0 ≤ mask) (hm1 : mask ≤ 4294967295) (hsz : p.bytes.size ≤ 1099511627776) :
    Calls Try.prog 23 #[.pointer (some ⟨g, 0, none⟩), .int .i64 (k : Int), .int .i64 bit, .int .u32 mask] w (RBagRet l own w g (.int .i64 0) (s.set k ({ p with bytes := spoilt p.bytes bit mask }, true))) := by
  obtain ⟨i0, hi, hz0, hz1, hz2⟩ := info_parts Try.info39
  obtain ⟨j0, hj0, hy0, hy1, hy2⟩ := info_parts Try.info4
  obtain ⟨ho, hl, A, c, A2, c2, hb, hr, hr2, hnc, hcm, hnc2, hcm2⟩ := h
  have hkl : k < s.length := (List.getElem?_eq_some_iff.1 hk).1
  obtain ⟨b, off, cs, rfl, _, hcb, hcx⟩ := hr.2 (by omega)
  obtain ⟨b2, off2, cs2, rfl, _, hcb2, hcx2⟩ := hr2.2 (by omega)
  have q3 := marks_get k s _ hk
  have c3 := (hcb2.cell (off2 + k)).trans (hcx2 _ _ q3)
  have hp2 := (pks_get k s _ hk).2.2
  have hps := pks_set s k p false true (spoilt p.bytes bit mask) hk
  have hms := marks_set s k ({ p with bytes := spoilt p.bytes bit mask }, true)
  have Hps := Lib.hid hps; clear hps
  have Hms := Lib.hid hms; clear hms
  have Hcb2 := Lib.hid hcb2
  clear hcx hcb hcx2 q3 hcb2
  obtain ⟨n, hn⟩ : ∃ n, s.length = n := ⟨_, rfl⟩
  have hpl : (pks s).length = n * 3 := by rw [pks_length, hn]
  have hml : (marks s).length = n * 1 := by rw [marks_length, hn]; omega
  have Hpl := Lib.hid hpl; clear hpl
  have Hml := Lib.hid hml; clear hml
  have hsl : (s.set k ({ p with bytes := spoilt p.bytes bit mask }, true)).length = n := by rw [List.length_set, hn]
  have Hsl := Lib.hid hsl; clear hsl
  rw [hn] at hb hkl hr hr2 hl hnc hnc2
  have h0 := hb.cell 0
  have h1 := hb.cell 1
  simp only [List.getElem?_toArray, List.getElem?_cons_zero, List.getElem?_cons_succ] at h0 h1
  have hgl := hb.lt
  have Hb := Lib.hid hb; clear hb
  have Hr := Lib.hid hr.rd; clear hr
  have Hr2 := Lib.hid hr2.rd; clear hr2
  clear hn
  have Hone := Lib.hid (pks_one s)
  have Hone2 := Lib.hid (marks_one s)
  obtain ⟨PS, hPS⟩ : ∃ PS, s.set k ({ p with bytes := spoilt p.bytes bit mask }, true) = PS := ⟨_, rfl⟩
  rw [hPS] at Hps Hms Hsl ⊢
  clear hPS hk
  obtain ⟨pb, hpb⟩ : ∃ pb, p.bytes = pb := ⟨_, rfl⟩
  rw [hpb] at Hps hsz hp2
  have hp2' : (pks s)[k * 3 + 2]? = some (.string pb) := by rw [← hpb]; rw [← hpb] at hp2; exact hp2
  have Hp2 := Lib.hid hp2'; clear hp2 hp2' hpb
  unfold maxLen at hcm hcm2
  have hk0 : (0 : Int) ≤ (k : Int) := by omega
  have hkn : (k : Int) < (n : Int) := by omega
  have hn0 : 0 < n := by omega
  have hki : k * 3 + 2 < n * 3 := by omega
  go_enter Try.func23, Try.ntmps23
  go_wp2_with fail
  refine (rthere_yes Hb.out k hkl).mono ?_
  rintro e w' ⟨rfl, rfl⟩
  by_cases hin : -32 ≤ bit ∧ bit < 8 * (pb.size : Int)
  · obtain ⟨hin1, hin2⟩ := hin
    have hw8 : wrap64 (8 * (pb.size : Int)) = 8 * (pb.size : Int) := by unfold wrap64; omega
    have Hsz := Lib.hid hsz; clear hsz
    go_wp2_with (at_builtin; refine wpList_copied rfl (.tmp 22) (.tmp 26) 26 rfl 39 i0 (.agg #[.int .i64 0, .int .i64 0, .string ByteArray.empty]) 3 32 Try.underlying26 hi hz0 hz1 hz2 rfl (by decide) _ (some ⟨b, off, none⟩) n c _ (by rfl) (by rfl) (Hr.out.alloc (by omega) _) Hone.out (by unfold maxLen; omega) (by omega) ?_; intro A1 c1 w1 hcp; obtain ⟨g1, cs1, rfl, hb1, ht1, hge1, hs1⟩ := hcp.row hn0; have hw1 : w.grownBy w1 none := World.grownBy.trans (World.grownBy_alloc w _ none) hcp.grown; have k2 : w1.cell? ⟨g1, k * 3 + 2, none⟩ = some (.string pb) := (hb1.cell _).trans (take_get ht1 Hp2.out); have f2 := hb1.free (k * 3 + 2); have Hb1 := Lib.hid hb1; clear hb1; clear ht1; have Hge1 := Lib.hid hge1; clear hge1; have Hcp := Lib.hid hcp; clear hcp)
    refine (flip27 w1 pb bit mask hm0 hm1 hin1 hin2 Hsz.out).mono ?_
    rintro e w2 ⟨rfl, hg2⟩
    generalize spoilt pb bit mask = sb at Hps ⊢
    have hb2 := Hb1.out.grown hg2 (by simp)
    have k2' : w2.cell? ⟨g1, k * 3 + 2, none⟩ = some (.string pb) := World.grownBy.cell hg2 k2 (by simp)
    have f2' := hb2.free (k * 3 + 2)
    have Hg2 := Lib.hid hg2; clear hg2 hb2 k2 f2
    go_upto_region 8 with fail
    have hno1' : NewRow 39 3 (pks PS) w (some ⟨g1, 0, none⟩) n c1 (w2.setCell ⟨g1, k * 3 + 2, none⟩ (.string sb)) := by
      rw [Hps.out]
      exact (copied_set Hcp.out Hpl.out hn0 Hg2.out hki (.string sb)).behind (World.grownBy_alloc w _ none)
    generalize w2.setCell ⟨g1, k * 3 + 2, none⟩ (.string sb) = W2 at hno1' ⊢
    have hbW0 := Hb.out.grown hno1'.grown (by simp)
    have x0 := hbW0.cell 0
    have fx := hbW0.free 0
    simp only [List.getElem?_toArray, List.getElem?_cons_zero] at x0
    have hbW := hbW0.set_ 0 (.slice (some ⟨g1, 0, none⟩) n c1)
    have hr3 : Rd (W2.setCell ⟨g, 0, none⟩ (.slice (some ⟨g1, 0, none⟩) n c1)) 1 (some ⟨b2, off2, none⟩) n (marks s) := Hr2.out.keep (fun b' off' h0 hA hb' => by
      injection hA with hA
      injection hA with hA
      subst hA
      exact (Below.heap_setCell _ _ _ _ (fun e => Hb.out.ne_ Hcb2.out (by decide) e.symm)).trans (hno1'.grown.block _ hb' (by simp))) (by omega)
    have Hno1 := Lib.hid hno1'; clear hno1' hbW0
    clear h0 h1 c3
    go_upto_region 9 with fail
    obtain ⟨W3, hW3⟩ : ∃ W3, W3 = W2.setCell ⟨g, 0, none⟩ (.slice (some ⟨g1, 0, none⟩) n c1) := ⟨_, rfl⟩
    rw [← hW3] at hbW hr3 ⊢
    have HW3 := Lib.hid hW3; clear hW3
    have h1 := hbW.cell 1
    simp only [List.setIfInBounds_toArray, List.set_cons_zero, List.getElem?_toArray, List.getElem?_cons_zero, List.getElem?_cons_succ] at h1
    have hgl3 := hbW.lt
    have HbW := Lib.hid hbW; clear hbW x0 fx hgl
    have Hr3 := Lib.hid hr3; clear hr3
    go_wp2_with (at_builtin; refine wpList_copied rfl (.tmp 57) (.tmp 61) 27 rfl 4 j0 (.bool false) 1 1 Try.underlying27 hj0 hy0 hy1 hy2 rfl (by decide) _ (some ⟨b2, off2, none⟩) n c2 _ (by rfl) (by rfl) (Hr3.out.alloc (by omega) _) Hone2.out (by unfold maxLen; omega) (by omega) ?_; intro A5 c5 w5 hcp; have hle5 := hcp.le; obtain ⟨g2, cs2, rfl, hb2, ht2, hge2, hs2⟩ := hcp.row hn0; have hw5 : W3.grownBy w5 none := World.grownBy.trans (World.grownBy_alloc W3 _ none) hcp.grown; have hbw5 := HbW.out.grown hw5 (by simp); have ff := hbw5.free 1; have kk : w5.cell? ⟨g, 1, none⟩ = some (.slice (some ⟨b2, off2, none⟩) n c2) := hbw5.cell 1; have hne : g2 ≠ g := hb2.ne_ hbw5 (by decide); have hne' : g ≠ g2 := fun e => hne e.symm; have k3 : (w5.cell? ⟨g2, k, none⟩).isSome = true := by { rw [hb2.cell, Array.getElem?_eq_getElem (by omega)]; rfl }; obtain ⟨u3, k3⟩ := Option.isSome_iff_exists.1 k3; have f3 := hb2.free k; clear hbw5 ht2; have Hb2 := Lib.hid hb2; clear hb2; have Hge2 := Lib.hid hge2; clear hge2; have Hcp2 := Lib.hid hcp; clear hcp)
    go_ret
    have hno2 : NewRow 4 1 (marks PS) W3 (some ⟨g2, 0, none⟩) n c5 (w5.setCell ⟨g2, k, none⟩ (.bool true)) := by
      rw [Hms.out]
      exact (copied_set Hcp2.out Hml.out hn0 (World.grownBy.refl _ none) (by omega) (.bool true)).behind (World.grownBy_alloc W3 _ none)
    exact rbag_mkR (s' := PS) ho Hb.out Hsl.out hl Hno1.out (by rw [← HW3.out]; exact hno2) (.int .i64 0)
  · have hsame : spoilt pb bit mask = pb := by unfold spoilt; rw [if_neg hin]
    rw [hsame] at Hps
    rcases Int.lt_or_le bit (-32) with hlo | hlo
    · have hd : decide (-32 ≤ bit) = false := by simp; omega
      have hw8 : wrap64 (8 * (pb.size : Int)) = 8 * (pb.size : Int) := by unfold wrap64; omega
      clear hin
      go_upto_region 8 with (at_builtin; refine wpList_copied rfl (.tmp 22) (.tmp 26) 26 rfl 39 i0 (.agg #[.int .i64 0, .int .i64 0, .string ByteArray.empty]) 3 32 Try.underlying26 hi hz0 hz1 hz2 rfl (by decide) _ (some ⟨b, off, none⟩) n c _ (by rfl) (by rfl) (Hr.out.alloc (by omega) _) Hone.out (by unfold maxLen; omega) (by omega) ?_; intro A1 c1 w1 hcp; obtain ⟨g1, cs1, rfl, hb1, ht1, hge1, hs1⟩ := hcp.row hn0; have hw1 : w.grownBy w1 none := World.grownBy.trans (World.grownBy_alloc w _ none) hcp.grown; have k2 : w1.cell? ⟨g1, k * 3 + 2, none⟩ = some (.string pb) := (hb1.cell _).trans (take_get ht1 Hp2.out); have f2 := hb1.free (k * 3 + 2); have Hb1 := Lib.hid hb1; clear hb1; clear ht1; have Hge1 := Lib.hid hge1; clear hge1; have Hcp := Lib.hid hcp; clear hcp)
      have hno1' : NewRow 39 3 (pks PS) w (some ⟨g1, 0, none⟩) n c1 (w1) := by
        rw [Hps.out]
        exact (by rw [list_set_same Hp2.out]; exact (NewRow.of_copied Hcp.out Hpl.out).behind (World.grownBy_alloc w _ none))
      generalize w1 = W2 at hno1' ⊢
      have hbW0 := Hb.out.grown hno1'.grown (by simp)
      have x0 := hbW0.cell 0
      have fx := hbW0.free 0
      simp only [List.getElem?_toArray, List.getElem?_cons_zero] at x0
      have hbW := hbW0.set_ 0 (.slice (some ⟨g1, 0, none⟩) n c1)
      have hr3 : Rd (W2.setCell ⟨g, 0, none⟩ (.slice (some ⟨g1, 0, none⟩) n c1)) 1 (some ⟨b2, off2, none⟩) n (marks s) := Hr2.out.keep (fun b' off' h0 hA hb' => by
        injection hA with hA
        injection hA with hA
        subst hA
        exact (Below.heap_setCell _ _ _ _ (fun e => Hb.out.ne_ Hcb2.out (by decide) e.symm)).trans (hno1'.grown.block _ hb' (by simp))) (by omega)
      have Hno1 := Lib.hid hno1'; clear hno1' hbW0
      clear h0 h1 c3
      go_upto_region 9 with fail
      obtain ⟨W3, hW3⟩ : ∃ W3, W3 = W2.setCell ⟨g, 0, none⟩ (.slice (some ⟨g1, 0, none⟩) n c1) := ⟨_, rfl⟩
      rw [← hW3] at hbW hr3 ⊢
      have HW3 := Lib.hid hW3; clear hW3
      have h1 := hbW.cell 1
      simp only [List.setIfInBounds_toArray, List.set_cons_zero, List.getElem?_toArray, List.getElem?_cons_zero, List.getElem?_cons_succ] at h1
      have hgl3 := hbW.lt
      have HbW := Lib.hid hbW; clear hbW x0 fx hgl
      have Hr3 := Lib.hid hr3; clear hr3
      go_wp2_with (at_builtin; refine wpList_copied rfl (.tmp 57) (.tmp 61) 27 rfl 4 j0 (.bool false) 1 1 Try.underlying27 hj0 hy0 hy1 hy2 rfl (by decide) _ (some ⟨b2, off2, none⟩) n c2 _ (by rfl) (by rfl) (Hr3.out.alloc (by omega) _) Hone2.out (by unfold maxLen; omega) (by omega) ?_; intro A5 c5 w5 hcp; have hle5 := hcp.le; obtain ⟨g2, cs2, rfl, hb2, ht2, hge2, hs2⟩ := hcp.row hn0; have hw5 : W3.grownBy w5 none := World.grownBy.trans (World.grownBy_alloc W3 _ none) hcp.grown; have hbw5 := HbW.out.grown hw5 (by simp); have ff := hbw5.free 1; have kk : w5.cell? ⟨g, 1, none⟩ = some (.slice (some ⟨b2, off2, none⟩) n c2) := hbw5.cell 1; have hne : g2 ≠ g := hb2.ne_ hbw5 (by decide); have hne' : g ≠ g2 := fun e => hne e.symm; have k3 : (w5.cell? ⟨g2, k, none⟩).isSome = true := by { rw [hb2.cell, Array.getElem?_eq_getElem (by omega)]; rfl }; obtain ⟨u3, k3⟩ := Option.isSome_iff_exists.1 k3; have f3 := hb2.free k; clear hbw5 ht2; have Hb2 := Lib.hid hb2; clear hb2; have Hge2 := Lib.hid hge2; clear hge2; have Hcp2 := Lib.hid hcp; clear hcp)
      go_ret
      have hno2 : NewRow 4 1 (marks PS) W3 (some ⟨g2, 0, none⟩) n c5 (w5.setCell ⟨g2, k, none⟩ (.bool true)) := by
        rw [Hms.out]
        exact (copied_set Hcp2.out Hml.out hn0 (World.grownBy.refl _ none) (by omega) (.bool true)).behind (World.grownBy_alloc W3 _ none)
      exact rbag_mkR (s' := PS) ho Hb.out Hsl.out hl Hno1.out (by rw [← HW3.out]; exact hno2) (.int .i64 0)
    · have hd : decide (bit < 8 * (pb.size : Int)) = false := by simp; omega
      have hw8 : wrap64 (8 * (pb.size : Int)) = 8 * (pb.size : Int) := by unfold wrap64; omega
      clear hin
      go_upto_region 8 with (at_builtin; refine wpList_copied rfl (.tmp 22) (.tmp 26) 26 rfl 39 i0 (.agg #[.int .i64 0, .int .i64 0, .string ByteArray.empty]) 3 32 Try.underlying26 hi hz0 hz1 hz2 rfl (by decide) _ (some ⟨b, off, none⟩) n c _ (by rfl) (by rfl) (Hr.out.alloc (by omega) _) Hone.out (by unfold maxLen; omega) (by omega) ?_; intro A1 c1 w1 hcp; obtain ⟨g1, cs1, rfl, hb1, ht1, hge1, hs1⟩ := hcp.row hn0; have hw1 : w.grownBy w1 none := World.grownBy.trans (World.grownBy_alloc w _ none) hcp.grown; have k2 : w1.cell? ⟨g1, k * 3 + 2, none⟩ = some (.string pb) := (hb1.cell _).trans (take_get ht1 Hp2.out); have f2 := hb1.free (k * 3 + 2); have Hb1 := Lib.hid hb1; clear hb1; clear ht1; have Hge1 := Lib.hid hge1; clear hge1; have Hcp := Lib.hid hcp; clear hcp)
      have hno1' : NewRow 39 3 (pks PS) w (some ⟨g1, 0, none⟩) n c1 (w1) := by
        rw [Hps.out]
        exact (by rw [list_set_same Hp2.out]; exact (NewRow.of_copied Hcp.out Hpl.out).behind (World.grownBy_alloc w _ none))
      generalize w1 = W2 at hno1' ⊢
      have hbW0 := Hb.out.grown hno1'.grown (by simp)
      have x0 := hbW0.cell 0
      have fx := hbW0.free 0
      simp only [List.getElem?_toArray, List.getElem?_cons_zero] at x0
      have hbW := hbW0.set_ 0 (.slice (some ⟨g1, 0, none⟩) n c1)
      have hr3 : Rd (W2.setCell ⟨g, 0, none⟩ (.slice (some ⟨g1, 0, none⟩) n c1)) 1 (some ⟨b2, off2, none⟩) n (marks s) := Hr2.out.keep (fun b' off' h0 hA hb' => by
        injection hA with hA
        injection hA with hA
        subst hA
        exact (Below.heap_setCell _ _ _ _ (fun e => Hb.out.ne_ Hcb2.out (by decide) e.symm)).trans (hno1'.grown.block _ hb' (by simp))) (by omega)
      have Hno1 := Lib.hid hno1'; clear hno1' hbW0
      clear h0 h1 c3
      go_upto_region 9 with fail
      obtain ⟨W3, hW3⟩ : ∃ W3, W3 = W2.setCell ⟨g, 0, none⟩ (.slice (some ⟨g1, 0, none⟩) n c1) := ⟨_, rfl⟩
      rw [← hW3] at hbW hr3 ⊢
      have HW3 := Lib.hid hW3; clear hW3
      have h1 := hbW.cell 1
      simp only [List.setIfInBounds_toArray, List.set_cons_zero, List.getElem?_toArray, List.getElem?_cons_zero, List.getElem?_cons_succ] at h1
      have hgl3 := hbW.lt
      have HbW := Lib.hid hbW; clear hbW x0 fx hgl
      have Hr3 := Lib.hid hr3; clear hr3
      go_wp2_with (at_builtin; refine wpList_copied rfl (.tmp 57) (.tmp 61) 27 rfl 4 j0 (.bool false) 1 1 Try.underlying27 hj0 hy0 hy1 hy2 rfl (by decide) _ (some ⟨b2, off2, none⟩) n c2 _ (by rfl) (by rfl) (Hr3.out.alloc (by omega) _) Hone2.out (by unfold maxLen; omega) (by omega) ?_; intro A5 c5 w5 hcp; have hle5 := hcp.le; obtain ⟨g2, cs2, rfl, hb2, ht2, hge2, hs2⟩ := hcp.row hn0; have hw5 : W3.grownBy w5 none := World.grownBy.trans (World.grownBy_alloc W3 _ none) hcp.grown; have hbw5 := HbW.out.grown hw5 (by simp); have ff := hbw5.free 1; have kk : w5.cell? ⟨g, 1, none⟩ = some (.slice (some ⟨b2, off2, none⟩) n c2) := hbw5.cell 1; have hne : g2 ≠ g := hb2.ne_ hbw5 (by decide); have hne' : g ≠ g2 := fun e => hne e.symm; have k3 : (w5.cell? ⟨g2, k, none⟩).isSome = true := by { rw [hb2.cell, Array.getElem?_eq_getElem (by omega)]; rfl }; obtain ⟨u3, k3⟩ := Option.isSome_iff_exists.1 k3; have f3 := hb2.free k; clear hbw5 ht2; have Hb2 := Lib.hid hb2; clear hb2; have Hge2 := Lib.hid hge2; clear hge2; have Hcp2 := Lib.hid hcp; clear hcp)
      go_ret
      have hno2 : NewRow 4 1 (marks PS) W3 (some ⟨g2, 0, none⟩) n c5 (w5.setCell ⟨g2, k, none⟩ (.bool true)) := by
        rw [Hms.out]
        exact (copied_set Hcp2.out Hml.out hn0 (World.grownBy.refl _ none) (by omega) (.bool true)).behind (World.grownBy_alloc W3 _ none)
      exact rbag_mkR (s' := PS) ho Hb.out Hsl.out hl Hno1.out (by rw [← HW3.out]; exact hno2) (.int .i64 0)
end
end Go.Proofs.Ytiipioifjjemoaa
