/- The reference's bag: Add. -/
import Derived.Test.YtiipioifjjemoaaRBag0b
import Derived.Deep.CutRange
import Derived.Deep.DeepCutAuto
import Derived.Outline
namespace Go.Proofs.Ytiipioifjjemoaa
open Go.RowKit
set_option linter.unusedVariables false

set_option maxHeartbeats 8000000 in
set_option maxRecDepth 10000 in
theorem rbag_add {w : World} {own : Nat → Nat} {l g : Nat} {s : BSt} (h : RBagAt w own l g s) (ps : List Pkt) (P : Option Addr) (cp j : Nat) (hj : j / 10 ≠ l) (hp : ORow w own j 3 P ps.length (pcells ps))
    (n : Nat) (hn : n = min ps.length (4096 - s.length)) :
    Calls Try.prog 20 #[.pointer (some ⟨g, 0, none⟩), .slice P ps.length cp] w (RBagRet l own w g (.int .i64 (n : Int)) (s ++ fresh (ps.take n))) := by
  obtain ⟨i0, hi, hz0, hz1, hz2⟩ := info_parts Try.info39
  obtain ⟨j0, hj0, hy0, hy1, hy2⟩ := info_parts Try.info4
  have hl := h.2.1
  obtain ⟨sl, hsl⟩ : ∃ sl, s.length = sl := ⟨_, rfl⟩
  obtain ⟨m, hm⟩ : ∃ m, ps.length = m := ⟨_, rfl⟩
  rw [hm] at hp hn ⊢
  rw [hsl] at hl hn
  have H := Lib.hid h; clear h
  have Hp := Lib.hid hp; clear hp
  have Hm := Lib.hid hm; clear hm
  have Hsl := Lib.hid hsl; clear hsl
  have Hn := Lib.hid hn; clear hn
  go_enter Try.func20, Try.ntmps20
  go_wp2_with fail
  go_loopw [5] (fun v wr => ∃ k : Nat, k ≤ n ∧ v = .int .i64 k ∧ ∃ own', StepG l w own wr own' ∧ RBagAt wr own' l g (s ++ fresh (ps.take k)) ∧ ORow wr own' j 3 P m (pcells ps)) (fun v _ => n - (intOf v).toNat)
  case atStart => exact ⟨0, by omega, rfl, own, StepG.refl _ _ _, by simpa [fresh] using H.out, Hp.out⟩
  case round =>
    obtain ⟨k, hk, rfl, own1, st, hB, hR⟩ := hrel
    have hll : (s ++ fresh (ps.take k)).length = sl + k := by
      have := Hn.out; rw [List.length_append, fresh_len, List.length_take, Hsl.out, Hm.out]; omega
    obtain ⟨S, hS⟩ : ∃ S, s ++ fresh (ps.take k) = S := ⟨_, rfl⟩
    rw [hS] at hB hll
    obtain ⟨tot, htot⟩ : ∃ tot, sl + k = tot := ⟨_, rfl⟩
    rw [htot] at hll
    have Hll := Lib.hid hll; clear hll
    have Htot := Lib.hid htot; clear htot
    by_cases hlt : k < n
    · have hkm : k < m := by have := Hn.out; omega
      have hk4 : k < 4096 := by have := Hn.out; omega
      have htl : tot < 4096 := by have := Htot.out; have := Hn.out; omega
      obtain ⟨p, hpk⟩ : ∃ p, ps[k]? = some p := ⟨ps[k]'(by have := Hm.out; omega), by simp⟩
      obtain ⟨q0, q1, q2⟩ := pcells_get k ps p hpk
      obtain ⟨b, off, rfl, hbl, hob, hcx⟩ := hR.2 (by omega)
      have c0 := hcx _ _ q0
      have c1 : wr.cell? ⟨b, off + k * 3 + 1, none⟩ = _ := hcx _ _ q1
      have c2 : wr.cell? ⟨b, off + k * 3 + 2, none⟩ = _ := hcx _ _ q2
      have hS2 : s ++ fresh (ps.take (k + 1)) = S ++ [(p, false)] := by rw [← fresh_take ps k p hpk, ← List.append_assoc, hS]
      have HS2 := Lib.hid hS2
      have HR := Lib.hid hR; clear hR
      have Hst := Lib.hid st; clear st
      clear q0 q1 q2 hcx hpk hS2 hS
      obtain ⟨ho, hl1, A, c, A2, cc2, hb, hr, hr2, hnc, hcm, hnc2, hcm2⟩ := hB
      rw [Hll.out] at hb hr hr2 hnc hnc2
      have hgl := hb.lt
      have hps : pks (S ++ [(p, false)]) = pks S ++ [.int .i64 p.src, .int .i64 p.dst, .string p.bytes] := by rw [pks_append]; rfl
      have hms : marks (S ++ [(p, false)]) = marks S ++ [.bool false] := by rw [marks_append]; rfl
      have Hps := Lib.hid hps; clear hps
      have Hms := Lib.hid hms; clear hms
      have hpl : (pks S).length = tot * 3 := by rw [pks_length, Hll.out]
      have hml : (marks S).length = tot * 1 := by rw [marks_length, Hll.out]; omega
      have Hpl := Lib.hid hpl; clear hpl
      have Hml := Lib.hid hml; clear hml
      have h0 := hb.cell 0
      have h1 := hb.cell 1
      simp only [List.getElem?_toArray, List.getElem?_cons_zero, List.getElem?_cons_succ] at h0 h1
      have Hb := Lib.hid hb; clear hb
      have Hr := Lib.hid hr.rd; clear hr
      have Hr2 := Lib.hid hr2; clear hr2
      have Hone := Lib.hid (pks_one S)
      have Hone2 := Lib.hid (marks_one S)
      obtain ⟨PS, hPS⟩ : ∃ PS, pks (S ++ [(p, false)]) = PS := ⟨_, rfl⟩
      rw [hPS] at Hps
      have HPS := Lib.hid hPS; clear hPS
      generalize p.src = qs at c0 Hps
      generalize p.dst = qd at c1 Hps
      generalize p.bytes = qb at c2 Hps
      have hk0 : (0 : Int) ≤ (k : Int) := by omega
      have hkmI : (k : Int) < (m : Int) := by omega
      have htI : (tot : Int) < 4096 := by omega
      clear hl1
      have hcl : ∀ w', wr.grownBy w' none → w'.cell? ⟨g, 0, none⟩ = some (.slice A tot c) ∧ w'.cell? ⟨b, off + k * 3, none⟩ = some (.int .i64 qs) ∧ w'.cell? ⟨b, off + k * 3 + 1, none⟩ = some (.int .i64 qd) ∧ w'.cell? ⟨b, off + k * 3 + 2, none⟩ = some (.string qb) ∧ w'.frozen? ⟨g, 0, none⟩ = false ∧ g < w'.heap.size ∧ b < w'.heap.size := fun w' hg =>
        ⟨World.grownBy.cell hg h0 (by simp), World.grownBy.cell hg c0 (by simp), World.grownBy.cell hg c1 (by simp), World.grownBy.cell hg c2 (by simp), (Hb.out.grown hg (by simp)).free 0, Nat.lt_of_lt_of_le hgl hg.size, Nat.lt_of_lt_of_le hbl hg.size⟩
      have Hcl := Lib.hid hcl; clear hcl
      go_upto_region 3 with fail
      go_cut [] (fun wx => ∃ A3 c3 W2, Hid (NewOwn 39 3 (pks S ++ [.int .i64 qs, .int .i64 qd, .string qb]) wr A3 (tot + 1) c3 W2) ∧ wx = W2.setCell ⟨g, 0, none⟩ (.slice A3 (tot + 1) c3))
      case first =>
        go_region_law
         (first
          | (refine step_onto rfl (.tmp 24) (.tmp 29) 26 rfl 39 i0 (.agg #[.int .i64 0, .int .i64 0, .string ByteArray.empty]) 3 32 Try.underlying26 hi hz0 hz1 hz2 rfl (by decide) A1 tot c1' _ (by rfl) Hcp.out Hpl.out (World.grownBy_alloc w1 _ none) w1.heap.size 1 1 39 [.int .i64 qs, .int .i64 qd, .string qb] (by rfl) rfl (Blk.new _ _ _) (by simp [Value.oneCell']) (by omega) (by unfold maxLen; omega) (by omega) ?_
             intro A3 c3' w3 hno
             have hno' := hno.behind (w := wr) (by repeat' (first | exact World.grownBy.refl _ none | apply grow_alloc | apply grow_drew))
             obtain ⟨k0, k1, k2, k3, k4, k5, k6⟩ := Hcl.out _ hno'.grown
             have Hno := Lib.hid hno'
             clear hno hno')
          | (refine step_onto rfl (.tmp 24) (.tmp 29) 26 rfl 39 i0 (.agg #[.int .i64 0, .int .i64 0, .string ByteArray.empty]) 3 32 Try.underlying26 hi hz0 hz1 hz2 rfl (by decide) A1 tot c1' _ (by rfl) Hcp.out Hpl.out (World.grownBy.refl _ none) (wr.heap.size + 1) 1 1 39 [.int .i64 qs, .int .i64 qd, .string qb] (by rfl) rfl (((Blk.new2 _ _ _ _).drewN 1).grown Hcp.out.grown (by simp)) (by simp [Value.oneCell']) (by omega) (by unfold maxLen; omega) (by omega) ?_
             intro A3 c3' w3 hno
             have hno' := hno.behind (w := wr) (by repeat' (first | exact World.grownBy.refl _ none | apply grow_alloc | apply grow_drew))
             obtain ⟨k0, k1, k2, k3, k4, k5, k6⟩ := Hcl.out _ hno'.grown
             have Hno := Lib.hid hno'
             clear hno hno')
          | (refine step_onto rfl (.tmp 24) (.tmp 29) 26 rfl 39 i0 (.agg #[.int .i64 0, .int .i64 0, .string ByteArray.empty]) 3 32 Try.underlying26 hi hz0 hz1 hz2 rfl (by decide) A1 tot c1' _ (by rfl) Hcp.out Hpl.out (World.grownBy.refl _ none) wr.heap.size 1 1 39 [.int .i64 qs, .int .i64 qd, .string qb] (by rfl) rfl ((((Blk.new _ _ _).alloc _).drewN 1).grown Hcp.out.grown (by simp)) (by simp [Value.oneCell']) (by omega) (by unfold maxLen; omega) (by omega) ?_
             intro A3 c3' w3 hno
             have hno' := hno.behind (w := wr) (by repeat' (first | exact World.grownBy.refl _ none | apply grow_alloc | apply grow_drew))
             obtain ⟨k0, k1, k2, k3, k4, k5, k6⟩ := Hcl.out _ hno'.grown
             have Hno := Lib.hid hno'
             clear hno hno')
          | (refine step_copied rfl (.tmp 19) (.tmp 23) 26 rfl 39 i0 (.agg #[.int .i64 0, .int .i64 0, .string ByteArray.empty]) 3 32 Try.underlying26 hi hz0 hz1 hz2 rfl (by decide) _ A tot c _ (by rfl) (by rfl) (Hr.out.keep (fun b' off' h0 hA hb' => World.grownBy.block (w := wr) (row := none) (by repeat' (first | exact World.grownBy.refl _ none | apply grow_alloc | apply grow_drew)) _ hb' (by simp)) (by omega)) Hone.out (by unfold maxLen; omega) (by omega) ?_
             intro A1 c1' w1 hcp
             obtain ⟨r0, r1, r2, r3, r4, r5, r6⟩ := Hcl.out w1 (World.grownBy.trans (by repeat' (first | exact World.grownBy.refl _ none | apply grow_alloc | apply grow_drew)) hcp.grown)
             have Hcp := Lib.hid hcp
             clear hcp))
        all_goals go_wp2_with fail
        all_goals (go_meet; exact ⟨_, _, _, Hno, rfl⟩)
      case rest =>
        clear Hcl h0 h1 c0 c1 c2 hgl hbl
        obtain ⟨A3, c3', W2, Hno, rfl⟩ := hcut
        have hbW := (Hb.out.grown Hno.out.grown (by simp)).set_ 0 (.slice A3 (tot + 1) c3')
        have hgW : ∀ q, q < wr.heap.size → q ≠ g → (W2.setCell ⟨g, 0, none⟩ (.slice A3 (tot + 1) c3')).heap[q]? = wr.heap[q]? := fun q hq hn => (Below.heap_setCell _ _ _ _ hn).trans (Hno.out.grown.block q hq (by simp))
        have hr3 : Rd (W2.setCell ⟨g, 0, none⟩ (.slice A3 (tot + 1) c3')) 1 A2 tot (marks S) := Hr2.out.rd.keep (fun b' off' h0 hA hb' => by
          obtain ⟨b2, off2, cs2, e2, ho2, hb2, _⟩ := Hr2.out.2 h0
          rw [hA] at e2
          injection e2 with e2
          injection e2 with e2
          subst e2
          exact hgW _ hb' (fun e => by subst e; omega)) (by omega)
        obtain ⟨W3, hW3⟩ : ∃ W3, W3 = W2.setCell ⟨g, 0, none⟩ (.slice A3 (tot + 1) c3') := ⟨_, rfl⟩
        rw [← hW3] at hbW hr3 ⊢
        have HW3 := Lib.hid hW3; clear hW3 hgW
        have hgl := hbW.lt
        have h1 := hbW.cell 1
        have f1 := hbW.free 1
        simp only [List.setIfInBounds_toArray, List.set_cons_zero, List.getElem?_toArray, List.getElem?_cons_zero, List.getElem?_cons_succ] at h1
        have HbW := Lib.hid hbW; clear hbW
        have Hr3 := Lib.hid hr3; clear hr3
        go_wp2_with (first | (at_builtin; refine wpList_copied rfl (.tmp 34) (.tmp 38) 27 rfl 4 j0 (.bool false) 1 1 Try.underlying27 hj0 hy0 hy1 hy2 rfl (by decide) _ A2 tot cc2 _ (by rfl) (by rfl) (Hr3.out.alloc (by omega) _) Hone2.out (by unfold maxLen; omega) (by omega) ?_; intro A5 c5 w5 hcp; have Hcp := Lib.hid hcp; clear hcp) | (at_builtin; refine wpList_onto rfl (.tmp 39) (.tmp 40) 27 rfl 4 j0 (.bool false) 1 1 Try.underlying27 hj0 hy0 hy1 hy2 rfl (by decide) A5 tot c5 _ (by rfl) Hcp.out Hml.out (World.grownBy_alloc w5 (.cells #[.bool false] 4) none) w5.heap.size 1 1 4 [.bool false] (by rfl) rfl (Blk.new _ _ _) (by simp [Value.oneCell']) (by omega) (by unfold maxLen; omega) (by omega) ?_; intro A6 c6 w6 hno; have hno' := hno.behind (World.grownBy_alloc W3 _ none); have hb6 := HbW.out.grown hno'.grown (by simp); have k1 : w6.cell? ⟨g, 1, none⟩ = some (.slice A2 tot cc2) := World.grownBy.cell hno'.grown h1 (by simp); have f6 := hb6.free 1; clear hb6; have Hno2 := Lib.hid hno'; clear hno hno'))
        have hSl : (S ++ [(p, false)]).length = tot + 1 := by rw [List.length_append, Hll.out]; rfl
        have hf := rbag_mk (s' := S ++ [(p, false)]) ho Hb.out hSl (by omega) (by rw [HPS.out, Hps.out]; exact Hno.out) (by rw [Hms.out, ← HW3.out]; exact Hno2.out) (.int .i64 0)
        obtain ⟨_, own4, st4, hB4⟩ := hf
        rw [← HS2.out] at hB4
        have hR4 := HR.out.stepG st4 hj
        have hst4 := Hst.out.trans st4
        clear st4
        go_roundw
        case rel => exact ⟨k + 1, by omega, by go_num, own4, hst4, hB4, hR4⟩
        case measure => simp [intOf]; omega
    · obtain rfl : k = n := by omega
      have Hst := Lib.hid st; clear st
      have hB' := hB
      obtain ⟨ho, hl1, A, c, A2, cc2, hb, hr, hr2, hnc, hcm, hnc2, hcm2⟩ := hB
      rw [Hll.out] at hb
      have h0 := hb.cell 0
      simp only [List.getElem?_toArray, List.getElem?_cons_zero] at h0
      rw [← hS] at hB'
      have HB := Lib.hid hB'; clear hB' hb hr hr2 hS hR
      have ht := Htot.out
      have hn := Hn.out
      by_cases hkm : k < m
      · have h2 : decide ((tot : Int) < 4096) = false := by simp; omega
        clear ht hn
        go_wp2_with fail
        go_ret
        exact ⟨rfl, own1, Hst.out, HB.out⟩
      · have h2 : decide ((k : Int) < (m : Int)) = false := by simp; omega
        clear ht hn
        go_wp2_with fail
        go_ret
        exact ⟨rfl, own1, Hst.out, HB.out⟩
end Go.Proofs.Ytiipioifjjemoaa
