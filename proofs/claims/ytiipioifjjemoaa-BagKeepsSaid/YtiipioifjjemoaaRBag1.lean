/- The reference's bag: Twice. -/
import Derived.Test.YtiipioifjjemoaaRBag0b
import Derived.Deep.CutRange
import Derived.Deep.DeepCutAuto
import Derived.Outline
namespace Go.Proofs.Ytiipioifjjemoaa
open Go.RowKit
set_option linter.unusedVariables false

section
variable {w : World} {own : Nat → Nat} {l g : Nat} {s : BSt}
set_option maxHeartbeats 4000000 in
set_option maxRecDepth 10000 in
theorem rbag_twice (h : RBagAt w own l g s) (k : Nat) (q : Pkt × Bool) (hk : s[k]? = some q) (hlt : s.length < 4096) :
    Calls Try.prog 22 #[.pointer (some ⟨g, 0, none⟩), .int .i64 (k : Int)] w (RBagRet l own w g (.int .i64 0) (s ++ [q])) := by
  obtain ⟨i0, hi, hz0, hz1, hz2⟩ := info_parts Try.info39
  obtain ⟨j0, hj, hy0, hy1, hy2⟩ := info_parts Try.info4
  obtain ⟨ho, hl, A, c, A2, c2, hb, hr, hr2, hnc, hcm, hnc2, hcm2⟩ := h
  have hkl : k < s.length := (List.getElem?_eq_some_iff.1 hk).1
  obtain ⟨b, off, cs, rfl, _, hcb, hcx⟩ := hr.2 (by omega)
  obtain ⟨b2, off2, cs2, rfl, _, hcb2, hcx2⟩ := hr2.2 (by omega)
  obtain ⟨q0, q1, q2⟩ := pks_get k s _ hk
  have q3 := marks_get k s _ hk
  have c0 := (hcb.cell (off + k * 3)).trans (hcx _ _ q0)
  have c1 := (hcb.cell (off + k * 3 + 1)).trans (hcx _ _ q1)
  have c2' := (hcb.cell (off + k * 3 + 2)).trans (hcx _ _ q2)
  have c3 := (hcb2.cell (off2 + k)).trans (hcx2 _ _ q3)
  have hbl := hcb.lt
  have hbl2 := hcb2.lt
  have hgl := hb.lt
  have Hq3 := Lib.hid (hcx2 _ _ q3)
  have Hcb2 := Lib.hid hcb2
  clear hcx q0 q1 q2 hcb hcx2 q3 hcb2
  have hps : pks (s ++ [q]) = pks s ++ [.int .i64 q.1.src, .int .i64 q.1.dst, .string q.1.bytes] := by rw [pks_append]; rfl
  have hms : marks (s ++ [q]) = marks s ++ [.bool q.2] := by rw [marks_append]; rfl
  have Hps := Lib.hid hps; clear hps
  have Hms := Lib.hid hms; clear hms hk
  obtain ⟨n, hn⟩ : ∃ n, s.length = n := ⟨_, rfl⟩
  have hpl : (pks s).length = n * 3 := by rw [pks_length, hn]
  have hml : (marks s).length = n * 1 := by rw [marks_length, hn]; omega
  have Hpl := Lib.hid hpl; clear hpl
  have Hml := Lib.hid hml; clear hml
  have hsl : (s ++ [q]).length = n + 1 := by rw [List.length_append, hn]; rfl
  have Hsl := Lib.hid hsl; clear hsl
  rw [hn] at hb hkl hr hr2 hlt hnc hnc2
  have h0 := hb.cell 0
  have h1 := hb.cell 1
  simp only [List.getElem?_toArray, List.getElem?_cons_zero, List.getElem?_cons_succ] at h0 h1
  have Hb := Lib.hid hb; clear hb
  have Hr := Lib.hid hr.rd; clear hr
  have Hr2 := Lib.hid hr2.rd; clear hr2
  have Hn := Lib.hid hn; clear hn hl
  have Hone := Lib.hid (pks_one s)
  have Hone2 := Lib.hid (marks_one s)
  obtain ⟨PS, hPS⟩ : ∃ PS, pks (s ++ [q]) = PS := ⟨_, rfl⟩
  rw [hPS] at Hps
  have HPS := Lib.hid hPS; clear hPS
  generalize q.1.src = qs at c0 Hps
  generalize q.1.dst = qd at c1 Hps
  generalize q.1.bytes = qb at c2' Hps
  generalize q.2 = qp at c3 Hms Hq3
  have hk0 : (0 : Int) ≤ (k : Int) := by omega
  have hkn : (k : Int) < (n : Int) := by omega
  have hd4 : decide ((4096 : Int) ≤ (n : Int)) = false := by simp; omega
  go_enter Try.func22, Try.ntmps22
  go_wp2_with fail
  refine (rthere_yes Hb.out k hkl).mono ?_
  rintro e w' ⟨rfl, rfl⟩
  go_wp2_with fail
  have hcl : ∀ w', w.grownBy w' none → w'.cell? ⟨g, 0, none⟩ = some (.slice (some ⟨b, off, none⟩) n c) ∧ w'.cell? ⟨b, off + k * 3, none⟩ = some (.int .i64 qs) ∧ w'.cell? ⟨b, off + k * 3 + 1, none⟩ = some (.int .i64 qd) ∧ w'.cell? ⟨b, off + k * 3 + 2, none⟩ = some (.string qb) ∧ w'.frozen? ⟨g, 0, none⟩ = false ∧ g < w'.heap.size ∧ b < w'.heap.size := fun w' hg =>
    ⟨World.grownBy.cell hg h0 (by simp), World.grownBy.cell hg c0 (by simp), World.grownBy.cell hg c1 (by simp), World.grownBy.cell hg c2' (by simp), (Hb.out.grown hg (by simp)).free 0, Nat.lt_of_lt_of_le hgl hg.size, Nat.lt_of_lt_of_le hbl hg.size⟩
  have Hcl := Lib.hid hcl; clear hcl
  go_upto_region 5 with fail
  go_cut [] (fun wx => ∃ A3 c3 W2, Hid (NewOwn 39 3 (pks s ++ [.int .i64 qs, .int .i64 qd, .string qb]) w A3 (n + 1) c3 W2) ∧ wx = W2.setCell ⟨g, 0, none⟩ (.slice A3 (n + 1) c3))
  case first =>
   go_region_law
    (first
     | (refine step_onto rfl (.tmp 21) (.tmp 29) 26 rfl 39 i0 (.agg #[.int .i64 0, .int .i64 0, .string ByteArray.empty]) 3 32 Try.underlying26 hi hz0 hz1 hz2 rfl (by decide) A1 n c1' _ (by rfl) Hcp.out Hpl.out (World.grownBy_alloc w1 _ none) w1.heap.size 1 1 39 [.int .i64 qs, .int .i64 qd, .string qb] (by rfl) rfl (Blk.new _ _ _) (by simp [Value.oneCell']) (by omega) (by unfold maxLen; omega) (by omega) ?_
        intro A3 c3' w3 hno
        have hno' := hno.behind (w := w) (by repeat' (first | exact World.grownBy.refl _ none | apply grow_alloc | apply grow_drew))
        obtain ⟨k0, k1, k2, k3, k4, k5, k6⟩ := Hcl.out _ hno'.grown
        have Hno := Lib.hid hno'
        clear hno hno')
     | (refine step_onto rfl (.tmp 21) (.tmp 29) 26 rfl 39 i0 (.agg #[.int .i64 0, .int .i64 0, .string ByteArray.empty]) 3 32 Try.underlying26 hi hz0 hz1 hz2 rfl (by decide) A1 n c1' _ (by rfl) Hcp.out Hpl.out (World.grownBy.refl _ none) (w.heap.size + 1) 1 1 39 [.int .i64 qs, .int .i64 qd, .string qb] (by rfl) rfl (((Blk.new2 _ _ _ _).drewN 1).grown Hcp.out.grown (by simp)) (by simp [Value.oneCell']) (by omega) (by unfold maxLen; omega) (by omega) ?_
        intro A3 c3' w3 hno
        have hno' := hno.behind (w := w) (by repeat' (first | exact World.grownBy.refl _ none | apply grow_alloc | apply grow_drew))
        obtain ⟨k0, k1, k2, k3, k4, k5, k6⟩ := Hcl.out _ hno'.grown
        have Hno := Lib.hid hno'
        clear hno hno')
     | (refine step_onto rfl (.tmp 21) (.tmp 29) 26 rfl 39 i0 (.agg #[.int .i64 0, .int .i64 0, .string ByteArray.empty]) 3 32 Try.underlying26 hi hz0 hz1 hz2 rfl (by decide) A1 n c1' _ (by rfl) Hcp.out Hpl.out (World.grownBy.refl _ none) w.heap.size 1 1 39 [.int .i64 qs, .int .i64 qd, .string qb] (by rfl) rfl ((((Blk.new _ _ _).alloc _).drewN 1).grown Hcp.out.grown (by simp)) (by simp [Value.oneCell']) (by omega) (by unfold maxLen; omega) (by omega) ?_
        intro A3 c3' w3 hno
        have hno' := hno.behind (w := w) (by repeat' (first | exact World.grownBy.refl _ none | apply grow_alloc | apply grow_drew))
        obtain ⟨k0, k1, k2, k3, k4, k5, k6⟩ := Hcl.out _ hno'.grown
        have Hno := Lib.hid hno'
        clear hno hno')
     | (refine step_copied rfl (.tmp 16) (.tmp 20) 26 rfl 39 i0 (.agg #[.int .i64 0, .int .i64 0, .string ByteArray.empty]) 3 32 Try.underlying26 hi hz0 hz1 hz2 rfl (by decide) _ (some ⟨b, off, none⟩) n c _ (by rfl) (by rfl) (Hr.out.keep (fun b' off' h0 hA hb' => World.grownBy.block (w := w) (row := none) (by repeat' (first | exact World.grownBy.refl _ none | apply grow_alloc | apply grow_drew)) _ hb' (by simp)) (by omega)) Hone.out (by unfold maxLen; omega) (by omega) ?_
        intro A1 c1' w1 hcp
        obtain ⟨r0, r1, r2, r3, r4, r5, r6⟩ := Hcl.out w1 (World.grownBy.trans (by repeat' (first | exact World.grownBy.refl _ none | apply grow_alloc | apply grow_drew)) hcp.grown)
        have Hcp := Lib.hid hcp
        clear hcp))
   all_goals go_wp2_with fail
   all_goals (go_meet; exact ⟨_, _, _, Hno, rfl⟩)
  case rest =>
   clear Hcl h0 h1 c0 c1 c2' c3 hgl hbl hbl2
   obtain ⟨A3, c3', W2, Hno, rfl⟩ := hcut
   have hbW := (Hb.out.grown Hno.out.grown (by simp)).set_ 0 (.slice A3 (n + 1) c3')
   have hgW : ∀ q, q < w.heap.size → q ≠ g → (W2.setCell ⟨g, 0, none⟩ (.slice A3 (n + 1) c3')).heap[q]? = w.heap[q]? := fun q hq hn => (Below.heap_setCell _ _ _ _ hn).trans (Hno.out.grown.block q hq (by simp))
   have hcb3 := Hcb2.out.of_eq (hgW b2 Hcb2.out.lt (fun e => Hb.out.ne_ Hcb2.out (by decide) e.symm))
   have c3 := (hcb3.cell (off2 + k)).trans Hq3.out
   have hr3 : Rd (W2.setCell ⟨g, 0, none⟩ (.slice A3 (n + 1) c3')) 1 (some ⟨b2, off2, none⟩) n (marks s) := Hr2.out.keep (fun b' off' h0 hA hb' => by
     injection hA with hA
     injection hA with hA
     subst hA
     exact hgW _ hb' (fun e => Hb.out.ne_ Hcb2.out (by decide) e.symm)) (by omega)
   obtain ⟨W3, hW3⟩ : ∃ W3, W3 = W2.setCell ⟨g, 0, none⟩ (.slice A3 (n + 1) c3') := ⟨_, rfl⟩
   rw [← hW3] at hbW c3 hr3 hcb3 ⊢
   have HW3 := Lib.hid hW3; clear hW3 hgW
   have hbl2 := hcb3.lt
   have hgl := hbW.lt
   have h1 := hbW.cell 1
   simp only [List.setIfInBounds_toArray, List.set_cons_zero, List.getElem?_toArray, List.getElem?_cons_zero, List.getElem?_cons_succ] at h1
   have HbW := Lib.hid hbW; clear hbW hcb3
   have Hr3 := Lib.hid hr3; clear hr3
   have hcl2 : ∀ w', W3.grownBy w' none → w'.cell? ⟨g, 1, none⟩ = some (.slice (some ⟨b2, off2, none⟩) n c2) ∧ w'.cell? ⟨b2, off2 + k, none⟩ = some (.bool qp) ∧ w'.frozen? ⟨g, 1, none⟩ = false ∧ g < w'.heap.size ∧ b2 < w'.heap.size := fun w' hg =>
     ⟨World.grownBy.cell hg h1 (by simp), World.grownBy.cell hg c3 (by simp), (HbW.out.grown hg (by simp)).free 1, Nat.lt_of_lt_of_le hgl hg.size, Nat.lt_of_lt_of_le hbl2 hg.size⟩
   have Hcl2 := Lib.hid hcl2; clear hcl2
   go_wp2_with fail
   go_region_law
    (first
     | (refine step_onto rfl (.tmp 39) (.tmp 47) 27 rfl 4 j0 (.bool false) 1 1 Try.underlying27 hj hy0 hy1 hy2 rfl (by decide) A5 n c5 _ (by rfl) Hcp.out Hml.out (World.grownBy_alloc w5 _ none) w5.heap.size 1 1 4 [.bool qp] (by rfl) rfl (Blk.new _ _ _) (by simp [Value.oneCell']) (by omega) (by unfold maxLen; omega) (by omega) ?_
        intro A6 c6 w6 hno
        have hno' := hno.behind (w := W3) (by repeat' (first | exact World.grownBy.refl _ none | apply grow_alloc | apply grow_drew))
        obtain ⟨k0, k1, k4, k5, k6⟩ := Hcl2.out _ hno'.grown
        have Hno2 := Lib.hid hno'
        clear hno hno')
     | (refine step_onto rfl (.tmp 39) (.tmp 47) 27 rfl 4 j0 (.bool false) 1 1 Try.underlying27 hj hy0 hy1 hy2 rfl (by decide) A5 n c5 _ (by rfl) Hcp.out Hml.out (World.grownBy.refl _ none) (W3.heap.size + 1) 1 1 4 [.bool qp] (by rfl) rfl (((Blk.new2 _ _ _ _).drewN 1).grown Hcp.out.grown (by simp)) (by simp [Value.oneCell']) (by omega) (by unfold maxLen; omega) (by omega) ?_
        intro A6 c6 w6 hno
        have hno' := hno.behind (w := W3) (by repeat' (first | exact World.grownBy.refl _ none | apply grow_alloc | apply grow_drew))
        obtain ⟨k0, k1, k4, k5, k6⟩ := Hcl2.out _ hno'.grown
        have Hno2 := Lib.hid hno'
        clear hno hno')
     | (refine step_onto rfl (.tmp 39) (.tmp 47) 27 rfl 4 j0 (.bool false) 1 1 Try.underlying27 hj hy0 hy1 hy2 rfl (by decide) A5 n c5 _ (by rfl) Hcp.out Hml.out (World.grownBy.refl _ none) W3.heap.size 1 1 4 [.bool qp] (by rfl) rfl ((((Blk.new _ _ _).alloc _).drewN 1).grown Hcp.out.grown (by simp)) (by simp [Value.oneCell']) (by omega) (by unfold maxLen; omega) (by omega) ?_
        intro A6 c6 w6 hno
        have hno' := hno.behind (w := W3) (by repeat' (first | exact World.grownBy.refl _ none | apply grow_alloc | apply grow_drew))
        obtain ⟨k0, k1, k4, k5, k6⟩ := Hcl2.out _ hno'.grown
        have Hno2 := Lib.hid hno'
        clear hno hno')
     | (refine step_copied rfl (.tmp 34) (.tmp 38) 27 rfl 4 j0 (.bool false) 1 1 Try.underlying27 hj hy0 hy1 hy2 rfl (by decide) _ (some ⟨b2, off2, none⟩) n c2 _ (by rfl) (by rfl) (Hr3.out.keep (fun b' off' h0 hA hb' => World.grownBy.block (w := W3) (row := none) (by repeat' (first | exact World.grownBy.refl _ none | apply grow_alloc | apply grow_drew)) _ hb' (by simp)) (by omega)) Hone2.out (by unfold maxLen; omega) (by omega) ?_
        intro A5 c5 w5 hcp
        obtain ⟨r0, r1, r4, r5, r6⟩ := Hcl2.out w5 (World.grownBy.trans (by repeat' (first | exact World.grownBy.refl _ none | apply grow_alloc | apply grow_drew)) hcp.grown)
        have Hcp := Lib.hid hcp
        clear hcp))
   all_goals go_wp2
   all_goals
     go_ret
     have hf := rbag_mk (s' := s ++ [q]) ho Hb.out Hsl.out (by omega) (by rw [HPS.out, Hps.out]; exact Hno.out) (by rw [Hms.out, ← HW3.out]; exact Hno2.out) (.int .i64 0)
     exact hf
end
end Go.Proofs.Ytiipioifjjemoaa
