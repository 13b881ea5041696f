/- A bag: Twice, Add. -/
import Derived.Test.YtiipioifjjemoaaBag1
namespace Go.Proofs.Ytiipioifjjemoaa
open Go.RowKit
set_option linter.unusedVariables false

theorem Try.info59 : (Try.prog.info? 59).map (fun i => (i.zero, i.size, i.bytes)) = some (some (.agg #[.int .i64 0, .int .i64 0, .string ByteArray.empty, .bool false]), 4, 40) := by kernel_rfl
theorem Try.info39 : (Try.prog.info? 39).map (fun i => (i.zero, i.size, i.bytes)) = some (some (.agg #[.int .i64 0, .int .i64 0, .string ByteArray.empty]), 3, 32) := by kernel_rfl

theorem bag_mk {l g : Nat} {own own2 : Nat → Nat} {A A2 : Option Addr} {n c c2 : Nat} {w w2 : World} {s : BSt} (st : Step (10 * l + 1) w own w2 own2) (hog : own g = 10 * l) (hb : Blk w g 53 #[.slice A n c]) (hl : s.length ≤ 4096)
    (hO : OwnS w2 own2 (10 * l + 1) 59 4 A2 s.length c2 (qcells s)) (v : Value) :
    BagRet l own w g v s (.returned v) (w2.setCell ⟨g, 0, none⟩ (.slice A2 s.length c2)) := by
  have q := st.other (j := 10 * l) (by omega) hb.lt hog
  have st2 : Step (10 * l) w2 own2 (w2.setCell ⟨g, 0, none⟩ (.slice A2 s.length c2)) own2 := (Step.refl _ _ _).setCell q.2 _
  refine ⟨rfl, own2, (st.toG (by omega)).trans (st2.toG (by omega)), q.2, hl, A2, c2, ?_, hO.step st2 (by omega)⟩
  simpa using (hb.of_eq q.1).set_ 0 (.slice A2 s.length c2)

section
variable {w : World} {own : Nat → Nat} {l g : Nat} {s : BSt}
theorem bag_twice_none (h : BagAt w own l g s) (x : Int) (hx : x < 0 ∨ (s.length : Int) ≤ x) :
    Calls Try.prog 17 #[.pointer (some ⟨g, 0, none⟩), .int .i64 x] w fun e w' => e = .returned (.int .i64 11) ∧ w = w' := by
  obtain ⟨ho, hl, A, c, hb, hO⟩ := h
  have Hb := Lib.hid hb; clear hb
  have Hx := Lib.hid hx; clear hx hO
  go_enter Try.func17, Try.ntmps17
  go_wp2_with fail
  refine (there_no Hb.out x Hx.out).mono ?_
  rintro e w' ⟨rfl, rfl⟩
  go_wp2
  go_ret
  exact ⟨rfl, rfl⟩
theorem bag_twice_full (h : BagAt w own l g s) (k : Nat) (hk : k < s.length) (hf : s.length = 4096) :
    Calls Try.prog 17 #[.pointer (some ⟨g, 0, none⟩), .int .i64 (k : Int)] w fun e w' => e = .returned (.int .i64 7) ∧ w = w' := by
  obtain ⟨ho, hl, A, c, hb, hO⟩ := h
  rw [hf] at hb hk
  have h0 := hb.cell 0
  simp only [List.getElem?_toArray, List.getElem?_cons_zero] at h0
  have Hb := Lib.hid hb; clear hb hO hf hl
  go_enter Try.func17, Try.ntmps17
  go_wp2_with fail
  refine (there_yes Hb.out k hk).mono ?_
  rintro e w' ⟨rfl, rfl⟩
  go_wp2
  go_ret
  exact ⟨rfl, rfl⟩

set_option maxHeartbeats 2000000 in
set_option maxRecDepth 10000 in
theorem bag_twice (h : BagAt w own l g s) (k : Nat) (q : Pkt × Bool) (hk : s[k]? = some q) (hlt : s.length < 4096) :
    Calls Try.prog 17 #[.pointer (some ⟨g, 0, none⟩), .int .i64 (k : Int)] w (BagRet l own w g (.int .i64 0) (s ++ [q])) := by
  obtain ⟨i0, hi, hz0, hz1, hz2⟩ := info_parts Try.info59
  obtain ⟨ho, hl, A, c, hb, hO⟩ := h
  have hkl : k < s.length := (List.getElem?_eq_some_iff.1 hk).1
  obtain ⟨b, off, cs, rfl, _, hcb, hcx⟩ := hO.row.2 (by omega)
  obtain ⟨q0, q1, q2, q3⟩ := qcells_get k s _ hk
  have c0 := (hcb.cell (off + k * 4)).trans (hcx _ _ q0)
  have c1 := (hcb.cell (off + k * 4 + 1)).trans (hcx _ _ q1)
  have c2 := (hcb.cell (off + k * 4 + 2)).trans (hcx _ _ q2)
  have c3 := (hcb.cell (off + k * 4 + 3)).trans (hcx _ _ q3)
  have hal0 : ∀ o : Obj, (w.alloc o).cell? ⟨b, off + k * 4, none⟩ = some (.int .i64 q.1.src) := fun o => ((hcb.alloc o).cell (off + k * 4)).trans (hcx _ _ q0)
  clear hcx q0 q1 q2 q3 hcb hal0
  have hqs : qcells (s ++ [q]) = qcells s ++ [.int .i64 q.1.src, .int .i64 q.1.dst, .string q.1.bytes, .bool q.2] := by rw [qcells_append]; rfl
  have Hqs := Lib.hid hqs; clear hqs hk
  obtain ⟨n, hn⟩ : ∃ n, s.length = n := ⟨_, rfl⟩
  rw [hn] at hb hkl hO hlt
  have h0 := hb.cell 0
  simp only [List.getElem?_toArray, List.getElem?_cons_zero] at h0
  have hal : ∀ o : Obj, (w.alloc o).cell? ⟨g, 0, none⟩ = some (.slice (some ⟨b, off, none⟩) n c) := fun o => (hb.alloc o).cell 0
  have Hb := Lib.hid hb; clear hb
  have HO := Lib.hid hO; clear hO
  have Hn := Lib.hid hn; clear hn hl
  generalize q.1.src = qs at c0 Hqs
  generalize q.1.dst = qd at c1 Hqs
  generalize q.1.bytes = qb at c2 Hqs
  generalize q.2 = qp at c3 Hqs
  have hk0 : (0 : Int) ≤ (k : Int) := by omega
  have hkn : (k : Int) < (n : Int) := by omega
  have hd4 : ((n : Int) == 4096) = false := by simp; omega
  go_enter Try.func17, Try.ntmps17
  go_wp2_with fail
  refine (there_yes Hb.out k hkl).mono ?_
  rintro e w' ⟨rfl, rfl⟩
  go_wp2_with fail
  go_region_law
   ((refine step_mine rfl (.tmp 21) (.tmp 29) 51 rfl 59 i0 (.agg #[.int .i64 0, .int .i64 0, .string ByteArray.empty, .bool false]) 4 40 Try.underlying51 hi hz0 hz1 hz2 rfl (by decide) own (10 * l + 1) (some ⟨b, off, none⟩) n c _ (by rfl) ((HO.out.alloc _).drewN 1) (some ⟨w.heap.size, 0, none⟩) 1 1 [.int .i64 qs, .int .i64 qd, .string qb, .bool qp] (by rfl) (Rd.of_blk ((Blk.new w 59 _).drewN 1) (by simp) (fun j u h => by simpa using h)) (by simp [Value.oneCell']) (by unfold maxLen; omega) (by omega) ?_
     intro A2 c2' w2 own2 hO2 st2
     have st12 := (((Step.refl (10 * l + 1) w own).alloc (.cells #[.int .i64 qs, .int .i64 qd, .string qb, .bool qp] 59)).drewN 1).trans st2
     have hb2 : Blk w2 g 53 #[.slice (some ⟨b, off, none⟩) n c] := Hb.out.of_eq (st12.other (j := 10 * l) (by omega) Hb.out.lt ho).1
     have k0 : w2.cell? ⟨g, 0, none⟩ = some (.slice (some ⟨b, off, none⟩) n c) := hb2.cell 0
     have e0 := hb2.free 0
     have Hb2 := Lib.hid hb2
     clear hb2
     have Hst := Lib.hid st12
     clear st12 st2
     have HO2 := Lib.hid hO2
     clear hO2))
  all_goals go_wp2
  all_goals (go_ret; have hf := bag_mk (s := s ++ [q]) Hst.out ho Hb.out (by simp; have := Hn.out; omega) (by rw [Hqs.out, List.length_append, Hn.out]; exact HO2.out) (.int .i64 0); rw [List.length_append, Hn.out] at hf; exact hf)
end
end Go.Proofs.Ytiipioifjjemoaa
