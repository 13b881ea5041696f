/- The reference's bag: Take. -/
import Derived.Test.YtiipioifjjemoaaRBag3
namespace Go.Proofs.Ytiipioifjjemoaa
open Go.RowKit
set_option linter.unusedVariables false

theorem pcells_cut (s : List Pkt) (k : Nat) (hk : k ≤ s.length) : pcells (s.take k) = (pcells s).take (k * 3) ∧ pcells (s.drop k) = (pcells s).drop (k * 3) := by
  have e : pcells s = pcells (s.take k) ++ pcells (s.drop k) := by rw [← pcells_append, List.take_append_drop]
  have hl : (pcells (s.take k)).length = k * 3 := by rw [pcells_length, List.length_take, Nat.min_eq_left hk]
  rw [e]
  exact ⟨by rw [List.take_left' hl], by rw [List.drop_left' hl]⟩
theorem pks_del (s : BSt) (k : Nat) (hk : k < s.length) : pks (s.take k ++ s.drop (k + 1)) = (pks s).take (k * 3) ++ (pks s).drop ((k + 1) * 3) := by
  unfold pks
  rw [List.map_append, pcells_append, List.map_take, List.map_drop, (pcells_cut _ k (by simp; omega)).1, (pcells_cut _ (k + 1) (by simp; omega)).2]
theorem marks_del (s : BSt) (k : Nat) : marks (s.take k ++ s.drop (k + 1)) = (marks s).take k ++ (marks s).drop (k + 1) := by
  unfold marks
  rw [List.map_append, List.map_take, List.map_drop]

theorem RBagAt.set_other {w : World} {own : Nat → Nat} {l g : Nat} {s : BSt} (h : RBagAt w own l g s) {p : Addr} {j : Nat} (hp : own p.block = j) (hj : j / 10 ≠ l) (u : Value) : RBagAt (w.setCell p u) own l g s :=
  h.other (((Step.refl j w own).setCell hp u).toG rfl) (fun e => hj e.symm)

section
variable {w : World} {own : Nat → Nat} {l g : Nat} {s : BSt}
set_option maxHeartbeats 2000000 in
set_option maxRecDepth 10000 in
theorem rbag_take_no (h : RBagAt w own l g s) (x : Int) (hx : x < 0 ∨ (s.length : Int) ≤ x) :
    Calls Try.prog 21 #[.pointer (some ⟨g, 0, none⟩), .int .i64 x] w (NewRet w (.tuple #[.agg #[.int .i64 0, .int .i64 0, .string ByteArray.empty], .bool false])) := by
  obtain ⟨ho, hl, A, c, A2, c2, hb, _⟩ := h
  have Hb := Lib.hid (hb.alloc (.cells #[.int .i64 0, .int .i64 0, .string { data := #[] }] 39)); clear hb
  have Hx := Lib.hid hx; clear hx
  go_enter Try.func21, Try.ntmps21
  go_wp2_with fail
  refine (rthere_no Hb.out x Hx.out).mono ?_
  rintro e w1 ⟨rfl, rfl⟩
  go_wp2
  refine bodyPost_ret (v := .tuple #[.agg #[.int .i64 0, .int .i64 0, .string ByteArray.empty], .bool false]) (by simp [results, Try.results21, go_sem]; try rfl) rfl ⟨rfl, ?_⟩
  first | exact World.grownBy_alloc _ _ none | exact grown_set (grown_set (grown_set (World.grownBy_alloc _ _ none) (by simp) _) (by simp) _) (by simp) _ | skip

set_option maxHeartbeats 8000000 in
set_option maxRecDepth 10000 in
theorem rbag_take (h : RBagAt w own l g s) (k : Nat) (p : Pkt) (sp : Bool) (hk : s[k]? = some (p, sp)) :
    Calls Try.prog 21 #[.pointer (some ⟨g, 0, none⟩), .int .i64 (k : Int)] w (RBagRet l own w g (.tuple #[.agg #[.int .i64 p.src, .int .i64 p.dst, .string p.bytes], .bool true]) (s.take k ++ s.drop (k + 1))) := by
  obtain ⟨i0, hi, hz0, hz1, hz2⟩ := info_parts Try.info39
  obtain ⟨j0, hj0, hy0, hy1, hy2⟩ := info_parts Try.info4
  obtain ⟨qs, qd, qb⟩ := p
  dsimp only
  have hkl : k < s.length := (List.getElem?_eq_some_iff.1 hk).1
  have hgw1 := World.grownBy_alloc w (.cells #[.int .i64 0, .int .i64 0, .string { data := #[] }] 39) none
  have hgw2 := World.grownBy_alloc (w.alloc (.cells #[.int .i64 0, .int .i64 0, .string { data := #[] }] 39)) (.cells #[.int .i64 qs, .int .i64 qd, .string qb] 39) none
  have hgw := grown_tr hgw1 hgw2
  have st1 := StepG.of_grown l own hgw (10 * (l + 1))
  have h1 : RBagAt _ _ l g s := h.other (StepG.of_grown (l + 1) own hgw (10 * (l + 1))) (by omega)
  have hbr := ((Blk.new w 39 #[.int .i64 0, .int .i64 0, .string { data := #[] }]).alloc (.cells #[.int .i64 qs, .int .i64 qd, .string qb] 39))
  have hbt := Blk.new2 w (.cells #[.int .i64 0, .int .i64 0, .string { data := #[] }] 39) 39 #[.int .i64 qs, .int .i64 qd, .string qb]
  obtain ⟨ho0, hl0, A0, c0, A02, c02, hb0, hr0, _⟩ := h
  have hb0' := hb0.alloc (.cells #[.int .i64 0, .int .i64 0, .string { data := #[] }] 39)
  obtain ⟨b0, off0, cs0, hA0, _, hcb0, hcx0⟩ := hr0.2 (by omega)
  have hcb0' := hcb0.alloc (.cells #[.int .i64 0, .int .i64 0, .string { data := #[] }] 39)
  obtain ⟨q0, q1, q2⟩ := pks_get k s _ hk
  have y0 := (hcb0'.cell (off0 + k * 3)).trans (hcx0 _ _ q0)
  have y1 := (hcb0'.cell (off0 + k * 3 + 1)).trans (hcx0 _ _ q1)
  have y2 := (hcb0'.cell (off0 + k * 3 + 2)).trans (hcx0 _ _ q2)
  have x0 := hb0'.cell 0
  simp only [List.getElem?_toArray, List.getElem?_cons_zero] at x0
  rw [hA0] at x0
  have Hb0 := Lib.hid hb0'
  obtain ⟨n, hn⟩ : ∃ n, s.length = n := ⟨_, rfl⟩
  have hkn : k < n := by omega
  have hn4 : n ≤ 4096 := by omega
  have hNl : (s.take k ++ s.drop (k + 1)).length = k + (n - (k + 1)) := by simp; omega
  have HNl := Lib.hid hNl; clear hNl
  rw [hn] at x0
  have Hn := Lib.hid hn
  clear hb0 hb0' hr0 hcb0 hcb0' hcx0 q0 q1 q2 hgw1 hgw2 hn
  have hor : give own w.heap.size (10 * (l + 1)) w.heap.size = 10 * (l + 1) := give_new (Nat.le_refl _)
  have hrl := hbr.lt
  generalize give own w.heap.size (10 * (l + 1)) = own1 at st1 h1 hor
  have H1 := Lib.hid h1; clear h1
  have Hst1 := Lib.hid st1; clear st1
  have Hbr := Lib.hid hbr; clear hbr
  have Hbt := Lib.hid hbt; clear hbt
  have hk0 : (0 : Int) ≤ (k : Int) := by omega
  have hknI : (k : Int) < (n : Int) := by omega
  clear hgw
  go_enter Try.func21, Try.ntmps21
  go_wp2_with fail
  refine (rthere_yes Hb0.out k (by have := Hn.out; omega)).mono ?_
  rintro e w' ⟨rfl, rfl⟩
  go_wp2_with fail
  clear x0 y0 y1 y2 Hb0 hl0
  obtain ⟨ho, hl, A, c, A2, c2, hb, hr, hr2, hnc, hcm, hnc2, hcm2⟩ := H1.out
  rw [Hn.out] at hb hr hr2 hnc hnc2
  clear H1 hA0
  generalize (w.alloc (.cells #[.int .i64 0, .int .i64 0, .string { data := #[] }] 39)).alloc (.cells #[.int .i64 qs, .int .i64 qd, .string qb] 39) = W1 at *
  obtain ⟨rb, hrb⟩ : ∃ rb, rb = w.heap.size := ⟨_, rfl⟩
  rw [← hrb] at Hbr Hbt hor hrl ⊢
  have Hrb := Lib.hid hrb; clear hrb
  obtain ⟨b, off, cs, rfl, hob, hcb, _⟩ := hr.2 (by omega)
  obtain ⟨b2, off2, cs2, rfl, hob2, hcb2, _⟩ := hr2.2 (by omega)
  have hgl := hb.lt
  have h0 := hb.cell 0
  have h1 := hb.cell 1
  simp only [List.getElem?_toArray, List.getElem?_cons_zero, List.getElem?_cons_succ] at h0 h1
  have Hb := Lib.hid hb; clear hb
  have HrA := Lib.hid (hr.rd.first (k := k) (by omega))
  have HrB := Lib.hid (hr.rd.from_ (p := k + 1) (by omega))
  have Hr2 := Lib.hid hr2.rd
  have Hcb2 := Lib.hid hcb2
  clear hr hr2 hcb hcb2 hob hob2
  have hpl : ((pks s).take (k * 3)).length = k * 3 := HrA.out.1
  have Hpl := Lib.hid hpl; clear hpl
  have hml : ((marks s).take k).length = k * 1 := by rw [List.length_take, marks_length, Hn.out]; omega
  have Hml := Lib.hid hml; clear hml
  have HoA := Lib.hid (fun u (hu : u ∈ (pks s).take (k * 3)) => pks_one s u (List.mem_of_mem_take hu))
  have HoB := Lib.hid (fun u (hu : u ∈ (pks s).drop ((k + 1) * 3)) => pks_one s u (List.mem_of_mem_drop hu))
  have HoA2 := Lib.hid (fun u (hu : u ∈ (marks s).take k) => marks_one s u (List.mem_of_mem_take hu))
  have HoB2 := Lib.hid (fun u (hu : u ∈ (marks s).drop (k + 1)) => marks_one s u (List.mem_of_mem_drop hu))
  have hcl : ∀ w', W1.grownBy w' none → w'.cell? ⟨g, 0, none⟩ = some (.slice (some ⟨b, off, none⟩) n c) ∧ w'.frozen? ⟨g, 0, none⟩ = false ∧ g < w'.heap.size := fun w' hg =>
    ⟨World.grownBy.cell hg h0 (by simp), (Hb.out.grown hg (by simp)).free 0, Nat.lt_of_lt_of_le hgl hg.size⟩
  have Hcl := Lib.hid hcl; clear hcl
  unfold maxLen at hcm hcm2
  have hkc : (k : Int) ≤ (c : Int) := by omega
  have hk1 : (k : Int) + 1 ≤ (n : Int) := by omega
  have hk2 : (k : Int) + 1 ≤ (c : Int) := by omega
  have hncI : (n : Int) ≤ (c : Int) := by omega
  have hk10 : (0 : Int) ≤ (k : Int) + 1 := by omega
  have hk49 : (k : Int) + 1 ≤ 4096 := by omega
  have hkcn : k ≤ c := by omega
  have hkk : (k : Int) ≤ (k : Int) + 1 := by omega
  have hwr : IntKind.i64.wrap ((k : Int) + 1) = (k : Int) + 1 := wrapI _ (by omega)
  have hk2n : k + 1 ≤ c := by omega
  go_cut [] (fun wx => ∃ A3 c3 W2, Hid (NewRow 39 3 ((pks s).take (k * 3) ++ (pks s).drop ((k + 1) * 3)) W1 A3 (k + (n - (k + 1))) c3 W2) ∧ wx = W2.setCell ⟨g, 0, none⟩ (.slice A3 (k + (n - (k + 1))) c3))
  case first =>
    by_cases hck : c = k + 1
    · obtain rfl : n = k + 1 := by omega
      subst hck
      have hdr : (pks s).drop ((k + 1) * 3) = [] := List.drop_eq_nil_of_le (by rw [pks_length, Hn.out]; exact Nat.le_refl _)
      have Hdr := Lib.hid hdr; clear hdr
      go_region_law
       (first
        | (refine step_onto2 rfl (.tmp 27) (.tmp 34) 26 rfl 39 i0 (.agg #[.int .i64 0, .int .i64 0, .string ByteArray.empty]) 3 32 Try.underlying26 hi hz0 hz1 hz2 rfl (by decide) A1 k c1' _ (by rfl) Hcp.out Hpl.out (World.grownBy.refl _ none) (some ⟨b, off, none⟩) 0 0 _ (by rfl) (Rd.nil _ _ _) (by simp) (by unfold maxLen; omega) (by omega) ?_
           intro A3 c3' w3 hno
           have hno' := hno.behind' (w := W1) (by repeat' (first | exact World.grownBy.refl _ none | apply grow_alloc | apply grow_drew))
           obtain ⟨k0, k4, k5⟩ := Hcl.out _ hno'.grown
           have Hno := Lib.hid hno'
           clear hno hno')
        | (refine step_copied rfl (.tmp 20) (.tmp 26) 26 rfl 39 i0 (.agg #[.int .i64 0, .int .i64 0, .string ByteArray.empty]) 3 32 Try.underlying26 hi hz0 hz1 hz2 rfl (by decide) _ _ k (k + 1) _ (by rfl) (by rfl) (HrA.out.keep (fun b' off' h0 hA hb' => World.grownBy.block (w := W1) (row := none) (by repeat' (first | exact World.grownBy.refl _ none | apply grow_alloc | apply grow_drew)) _ hb' (by simp)) (by omega)) HoA.out (by unfold maxLen; omega) (by omega) ?_
           intro A1 c1' w1 hcp
           have hg1 : W1.grownBy w1 none := World.grownBy.trans (by repeat' (first | exact World.grownBy.refl _ none | apply grow_alloc | apply grow_drew)) hcp.grown
           obtain ⟨r0, r4, r5⟩ := Hcl.out w1 hg1
           have Hg1 := Lib.hid hg1
           clear hg1
           have Hcp := Lib.hid hcp
           clear hcp))
      all_goals go_wp2_with fail
      all_goals (go_meet; refine ⟨A3, c3', w3, ?_, ?_⟩ <;> (try rw [Hdr.out]) <;> rw [Nat.sub_self] <;> first | exact Hno | rfl)
    · have hcf : (k : Int) + 1 < (c : Int) := by omega
      go_region_law
       (first
        | (refine step_onto2 rfl (.tmp 27) (.tmp 34) 26 rfl 39 i0 (.agg #[.int .i64 0, .int .i64 0, .string ByteArray.empty]) 3 32 Try.underlying26 hi hz0 hz1 hz2 rfl (by decide) A1 k c1' _ (by rfl) Hcp.out Hpl.out (World.grownBy.refl _ none) (some ⟨b, off + (k + 1) * 3, none⟩) (n - (k + 1)) (c - (k + 1)) _ (by rfl) (HrB.out.keep (fun b' off' h0 hA hb' => World.grownBy.block (w := W1) (row := none) Hg1.out _ hb' (by simp)) (by omega)) HoB.out (by unfold maxLen; omega) (by omega) ?_
           intro A3 c3' w3 hno
           have hno' := hno.behind' (w := W1) (by repeat' (first | exact World.grownBy.refl _ none | apply grow_alloc | apply grow_drew))
           obtain ⟨k0, k4, k5⟩ := Hcl.out _ hno'.grown
           have Hno := Lib.hid hno'
           clear hno hno')
        | (refine step_copied rfl (.tmp 20) (.tmp 26) 26 rfl 39 i0 (.agg #[.int .i64 0, .int .i64 0, .string ByteArray.empty]) 3 32 Try.underlying26 hi hz0 hz1 hz2 rfl (by decide) _ (some ⟨b, off, none⟩) k c _ (by rfl) (by rfl) (HrA.out.keep (fun b' off' h0 hA hb' => World.grownBy.block (w := W1) (row := none) (by repeat' (first | exact World.grownBy.refl _ none | apply grow_alloc | apply grow_drew)) _ hb' (by simp)) (by omega)) HoA.out (by unfold maxLen; omega) (by omega) ?_
           intro A1 c1' w1 hcp
           have hg1 : W1.grownBy w1 none := World.grownBy.trans (by repeat' (first | exact World.grownBy.refl _ none | apply grow_alloc | apply grow_drew)) hcp.grown
           obtain ⟨r0, r4, r5⟩ := Hcl.out w1 hg1
           have Hg1 := Lib.hid hg1
           clear hg1
           have Hcp := Lib.hid hcp
           clear hcp))
      all_goals go_wp2_with fail
      all_goals (go_meet; exact ⟨_, _, _, Hno, rfl⟩)
  case rest =>
    clear Hcl h0 h1 hgl
    obtain ⟨A3, c3', W2, Hno, rfl⟩ := hcut
    have hbW := (Hb.out.grown Hno.out.grown (by simp)).set_ 0 (.slice A3 (k + (n - (k + 1))) c3')
    have hgW : ∀ q, q < W1.heap.size → q ≠ g → (W2.setCell ⟨g, 0, none⟩ (.slice A3 (k + (n - (k + 1))) c3')).heap[q]? = W1.heap[q]? := fun q hq hn => (Below.heap_setCell _ _ _ _ hn).trans (Hno.out.grown.block q hq (by simp))
    have hr3 : Rd (W2.setCell ⟨g, 0, none⟩ (.slice A3 (k + (n - (k + 1))) c3')) 1 (some ⟨b2, off2, none⟩) n (marks s) := Hr2.out.keep (fun b' off' h0 hA hb' => by
      injection hA with hA
      injection hA with hA
      subst hA
      exact hgW _ hb' (fun e => Hb.out.ne_ Hcb2.out (by decide) e.symm)) (by omega)
    have hbr3 := Hbr.out.of_eq (hgW rb Hbr.out.lt (fun e => Hb.out.ne_ Hbr.out (by decide) e.symm))
    have hbt3 := Hbt.out.of_eq (hgW (rb + 1) Hbt.out.lt (fun e => Hb.out.ne_ Hbt.out (by decide) e.symm))
    obtain ⟨W3, hW3⟩ : ∃ W3, W3 = W2.setCell ⟨g, 0, none⟩ (.slice A3 (k + (n - (k + 1))) c3') := ⟨_, rfl⟩
    rw [← hW3] at hbW hr3 hbr3 hbt3 ⊢
    have HW3 := Lib.hid hW3; clear hW3 hgW
    have HrA2 : Hid (Rd W3 1 (some ⟨b2, off2, none⟩) k ((marks s).take k)) := Lib.hid (by have := hr3.first (k := k) (by omega); rwa [Nat.mul_one] at this)
    have HrB2 : Hid (Rd W3 1 (some ⟨b2, off2 + (k + 1), none⟩) (n - (k + 1)) ((marks s).drop (k + 1))) := Lib.hid (by have := hr3.from_ (p := k + 1) (by omega); rwa [Nat.mul_one] at this)
    clear hr3
    have hgl := hbW.lt
    have h1 := hbW.cell 1
    simp only [List.setIfInBounds_toArray, List.set_cons_zero, List.getElem?_toArray, List.getElem?_cons_zero, List.getElem?_cons_succ] at h1
    have HbW := Lib.hid hbW; clear hbW
    have Hbr3 := Lib.hid hbr3; clear hbr3
    have Hbt3 := Lib.hid hbt3; clear hbt3
    have hcl2 : ∀ w', W3.grownBy w' none → w'.cell? ⟨g, 1, none⟩ = some (.slice (some ⟨b2, off2, none⟩) n c2) ∧ w'.frozen? ⟨g, 1, none⟩ = false ∧ g < w'.heap.size := fun w' hg =>
      ⟨World.grownBy.cell hg h1 (by simp), (HbW.out.grown hg (by simp)).free 1, Nat.lt_of_lt_of_le hgl hg.size⟩
    have Hcl2 := Lib.hid hcl2; clear hcl2
    have hkc' : (k : Int) ≤ (c2 : Int) := by omega
    have hk2' : (k : Int) + 1 ≤ (c2 : Int) := by omega
    have hncI' : (n : Int) ≤ (c2 : Int) := by omega
    have hkcn' : k ≤ c2 := by omega
    have hk2n' : k + 1 ≤ c2 := by omega
    go_wp2_with fail
    go_cut [] (fun wx => ∃ A4 c4 W4, Hid (NewRow 4 1 ((marks s).take k ++ (marks s).drop (k + 1)) W3 A4 (k + (n - (k + 1))) c4 W4) ∧ wx = W4.setCell ⟨g, 1, none⟩ (.slice A4 (k + (n - (k + 1))) c4))
    case first =>
      by_cases hck : c2 = k + 1
      · obtain rfl : n = k + 1 := by omega
        subst hck
        have hdr : (marks s).drop (k + 1) = [] := List.drop_eq_nil_of_le (by rw [marks_length, Hn.out]; exact Nat.le_refl _)
        have Hdr := Lib.hid hdr; clear hdr
        go_region_law
         (first
          | (refine step_onto2 rfl (.tmp 46) (.tmp 53) 27 rfl 4 j0 (.bool false) 1 1 Try.underlying27 hj0 hy0 hy1 hy2 rfl (by decide) A1 k c1' _ (by rfl) Hcp.out Hml.out (World.grownBy.refl _ none) (some ⟨b2, off2, none⟩) 0 0 _ (by rfl) (Rd.nil _ _ _) (by simp) (by unfold maxLen; omega) (by omega) ?_
             intro A3 c3' w3 hno
             have hno' := hno.behind' (w := W3) (by repeat' (first | exact World.grownBy.refl _ none | apply grow_alloc | apply grow_drew))
             obtain ⟨k0, k4, k5⟩ := Hcl2.out _ hno'.grown
             have Hno2 := Lib.hid hno'
             clear hno hno')
          | (refine step_copied rfl (.tmp 39) (.tmp 45) 27 rfl 4 j0 (.bool false) 1 1 Try.underlying27 hj0 hy0 hy1 hy2 rfl (by decide) _ _ k (k + 1) _ (by rfl) (by rfl) (HrA2.out.keep (fun b' off' h0 hA hb' => World.grownBy.block (w := W3) (row := none) (by repeat' (first | exact World.grownBy.refl _ none | apply grow_alloc | apply grow_drew)) _ hb' (by simp)) (by omega)) HoA2.out (by unfold maxLen; omega) (by omega) ?_
             intro A1 c1' w1 hcp
             have hg1 : W3.grownBy w1 none := World.grownBy.trans (by repeat' (first | exact World.grownBy.refl _ none | apply grow_alloc | apply grow_drew)) hcp.grown
             obtain ⟨r0, r4, r5⟩ := Hcl2.out w1 hg1
             have Hg1 := Lib.hid hg1
             clear hg1
             have Hcp := Lib.hid hcp
             clear hcp))
        all_goals go_wp2_with fail
        all_goals (go_meet; refine ⟨A3, c3', w3, ?_, ?_⟩ <;> (try rw [Hdr.out]) <;> rw [Nat.sub_self] <;> first | exact Hno2 | rfl)
      · have hcf : (k : Int) + 1 < (c2 : Int) := by omega
        go_region_law
         (first
          | (refine step_onto2 rfl (.tmp 46) (.tmp 53) 27 rfl 4 j0 (.bool false) 1 1 Try.underlying27 hj0 hy0 hy1 hy2 rfl (by decide) A1 k c1' _ (by rfl) Hcp.out Hml.out (World.grownBy.refl _ none) (some ⟨b2, off2 + (k + 1), none⟩) (n - (k + 1)) (c2 - (k + 1)) _ (by rfl) (HrB2.out.keep (fun b' off' h0 hA hb' => World.grownBy.block (w := W3) (row := none) Hg1.out _ hb' (by simp)) (by omega)) HoB2.out (by unfold maxLen; omega) (by omega) ?_
             intro A3 c3' w3 hno
             have hno' := hno.behind' (w := W3) (by repeat' (first | exact World.grownBy.refl _ none | apply grow_alloc | apply grow_drew))
             obtain ⟨k0, k4, k5⟩ := Hcl2.out _ hno'.grown
             have Hno2 := Lib.hid hno'
             clear hno hno')
          | (refine step_copied rfl (.tmp 39) (.tmp 45) 27 rfl 4 j0 (.bool false) 1 1 Try.underlying27 hj0 hy0 hy1 hy2 rfl (by decide) _ _ k c2 _ (by rfl) (by rfl) (HrA2.out.keep (fun b' off' h0 hA hb' => World.grownBy.block (w := W3) (row := none) (by repeat' (first | exact World.grownBy.refl _ none | apply grow_alloc | apply grow_drew)) _ hb' (by simp)) (by omega)) HoA2.out (by unfold maxLen; omega) (by omega) ?_
             intro A1 c1' w1 hcp
             have hg1 : W3.grownBy w1 none := World.grownBy.trans (by repeat' (first | exact World.grownBy.refl _ none | apply grow_alloc | apply grow_drew)) hcp.grown
             obtain ⟨r0, r4, r5⟩ := Hcl2.out w1 hg1
             have Hg1 := Lib.hid hg1
             clear hg1
             have Hcp := Lib.hid hcp
             clear hcp))
        all_goals go_wp2_with fail
        all_goals (go_meet; exact ⟨_, _, _, Hno2, rfl⟩)
    case rest =>
      clear Hcl2 h1 hgl hkc' hk2' hncI' hkcn' hk2n' hkk hkcn hk2n hncI hk1 hk2 hk10
      obtain ⟨A4, c4, W4, Hno2, rfl⟩ := hcut
      have hf := rbag_mkR (s' := s.take k ++ s.drop (k + 1)) ho Hb.out HNl.out (by omega) (by rw [pks_del s k hkl]; exact Hno.out) (by rw [marks_del, ← HW3.out]; exact Hno2.out) (.int .i64 0)
      obtain ⟨_, own5, st5, hB5⟩ := hf
      have hgr : g ≠ rb := Hb.out.ne_ Hbr.out (by decide)
      have hgt : g ≠ rb + 1 := Hb.out.ne_ Hbt.out (by decide)
      have hr5 := (Hbr3.out.grown Hno2.out.grown (by simp)).far (p := ⟨g, 1, none⟩) (fun e => hgr e.symm) (.slice A4 (k + (n - (k + 1))) c4)
      have ht5 := (Hbt3.out.grown Hno2.out.grown (by simp)).far (p := ⟨g, 1, none⟩) (fun e => hgt e.symm) (.slice A4 (k + (n - (k + 1))) c4)
      generalize W4.setCell ⟨g, 1, none⟩ (.slice A4 (k + (n - (k + 1))) c4) = W5 at hr5 ht5 st5 hB5 ⊢
      have r0 := hr5.cell 0
      have r1 := hr5.cell 1
      have r2 := hr5.cell 2
      have t0 := ht5.cell 0
      have t1 := ht5.cell 1
      have t2 := ht5.cell 2
      simp only [List.getElem?_toArray, List.getElem?_cons_zero, List.getElem?_cons_succ] at r0 r1 r2 t0 t1 t2
      have fr0 := hr5.free 0
      have fr1 := hr5.free 1
      have fr2 := hr5.free 2
      have HB5 := Lib.hid hB5; clear hB5
      have Hst5 := Lib.hid st5; clear st5
      clear hr5 ht5
      go_wp2
      have hrb := Hrb.out
      refine bodyPost_ret (v := .tuple #[.agg #[.int .i64 qs, .int .i64 qd, .string qb], .bool true]) (by simp [results, Try.results21, go_sem, r0, r1, r2]) rfl ⟨rfl, own5, (((Hst1.out.trans Hst5.out).set_new (by simp; omega) _).set_new (by simp; omega) _).set_new (by simp; omega) _, ?_⟩
      have hor5 : own5 rb = 10 * (l + 1) := (Hst5.out.own rb Hbr.out.lt).trans hor
      exact ((HB5.out.set_other hor5 (by omega) _).set_other hor5 (by omega) _).set_other hor5 (by omega) _
end
end Go.Proofs.Ytiipioifjjemoaa
