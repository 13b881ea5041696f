/- A bag: Add. -/
import Derived.Test.YtiipioifjjemoaaBag2
namespace Go.Proofs.Ytiipioifjjemoaa
open Go.RowKit
set_option linter.unusedVariables false
attribute [local go_sem ↓] run_max_mx run_min_mn

/-- packets that are not spoilt -/
def fresh (ps : List Pkt) : BSt := ps.map fun p => (p, false)
theorem fresh_take (ps : List Pkt) (k : Nat) (p : Pkt) (h : ps[k]? = some p) : fresh (ps.take k) ++ [(p, false)] = fresh (ps.take (k + 1)) := by
  unfold fresh
  rw [List.take_add_one, h, Option.toList_some, List.map_append]
  rfl
theorem fresh_len (ps : List Pkt) : (fresh ps).length = ps.length := by simp [fresh]

set_option maxHeartbeats 4000000 in
set_option maxRecDepth 10000 in
theorem bag_add {w : World} {own : Nat → Nat} {l g : Nat} {s : BSt} (h : BagAt w own l g s) (ps : List Pkt) (P : Option Addr) (cp j : Nat) (hj : j / 10 ≠ l) (hp : Row w own j 39 3 P ps.length (pcells ps)) (hpc : ps.length ≤ cp) (hcm : cp ≤ maxLen)
    (n : Nat) (hn : n = min ps.length (4096 - s.length)) :
    Calls Try.prog 15 #[.pointer (some ⟨g, 0, none⟩), .slice P ps.length cp] w (BagRet l own w g (.int .i64 (n : Int)) (s ++ fresh (ps.take n))) := by
  obtain ⟨i0, hi, hz0, hz1, hz2⟩ := info_parts Try.info59
  have h' := h
  obtain ⟨ho, hl, A, c, hb, hO⟩ := h
  obtain ⟨sl, hsl⟩ : ∃ sl, s.length = sl := ⟨_, rfl⟩
  obtain ⟨m, hm⟩ : ∃ m, ps.length = m := ⟨_, rfl⟩
  rw [hsl] at hb hl hn
  rw [hm] at hp hpc hn ⊢
  have hmn : min (m : Int) (4096 - (sl : Int)) = (n : Int) := by omega
  have hnm : n ≤ m := by omega
  have hnc : n ≤ cp := by omega
  have hns : n + sl ≤ 4096 := by omega
  have h0 := hb.cell 0
  simp only [List.getElem?_toArray, List.getElem?_cons_zero] at h0
  clear hb hO hn
  have H := Lib.hid h'; clear h'
  have Hp := Lib.hid hp; clear hp
  have Hm := Lib.hid hm; clear hm
  have Hsl := Lib.hid hsl; clear hsl
  unfold maxLen at hcm
  have hn0 : (0 : Int) ≤ (n : Int) := by omega
  have hncI : (n : Int) ≤ (cp : Int) := by omega
  go_enter Try.func15, Try.ntmps15
  go_wp2_with fail
  clear h0
  go_loopw [21] (fun v wr => ∃ k : Nat, k ≤ n ∧ v = .int .i64 k ∧ ∃ own', StepG l w own wr own' ∧ BagAt wr own' l g (s ++ fresh (ps.take k)) ∧ Row wr own' j 39 3 P m (pcells ps)) (fun v _ => n - (intOf v).toNat)
  case atStart => exact ⟨0, by omega, rfl, own, StepG.refl _ _ _, by simpa [fresh] using H.out, Hp.out⟩
  case round =>
    obtain ⟨k, hk, rfl, own1, st, hB, hR⟩ := hrel
    by_cases hlt : k < n
    · have hkp : k < ps.length := by have := Hm.out; omega
      obtain ⟨p, hpk⟩ : ∃ p, ps[k]? = some p := ⟨ps[k], by simp [hkp]⟩
      obtain ⟨q0, q1, q2⟩ := pcells_get k ps p hpk
      obtain ⟨b, off, cs, rfl, hob, hcb, hcx⟩ := hR.2 (by omega)
      have c0 := (hcb.cell (off + k * 3)).trans (hcx _ _ q0)
      have c1 := (hcb.cell (off + k * 3 + 1)).trans (hcx _ _ q1)
      have c2 := (hcb.cell (off + k * 3 + 2)).trans (hcx _ _ q2)
      clear q0 q1 q2 hcb hcx hob
      have hft := fresh_take ps k p hpk
      have hll : (s ++ fresh (ps.take k)).length = sl + k := by
        rw [List.length_append, fresh_len, List.length_take, Hsl.out]; omega
      obtain ⟨S, hS⟩ : ∃ S, s ++ fresh (ps.take k) = S := ⟨_, rfl⟩
      have hS2 : s ++ fresh (ps.take (k + 1)) = S ++ [(p, false)] := by rw [← hft, ← List.append_assoc, hS]
      rw [hS] at hB hll
      have HS2 := Lib.hid hS2
      clear hft hS hpk hS2
      obtain ⟨ho1, hl1, A1, cc1, hb1, hO1⟩ := hB
      have hqs : qcells (S ++ [(p, false)]) = qcells S ++ [.int .i64 p.src, .int .i64 p.dst, .string p.bytes, .bool false] := by rw [qcells_append]; rfl
      have Hqs := Lib.hid hqs; clear hqs
      rw [hll] at hb1 hO1 hl1
      have Hll := Lib.hid hll; clear hll
      generalize p.src = ps' at c0 Hqs
      generalize p.dst = pd' at c1 Hqs
      generalize p.bytes = pb' at c2 Hqs
      obtain ⟨tot, htot⟩ : ∃ tot, sl + k = tot := ⟨_, rfl⟩
      rw [htot] at hb1 hO1 hl1 Hll
      have Htot := Lib.hid htot; clear htot
      have hg1 := World.grownBy_alloc wr (.cells #[.int .i64 ps', .int .i64 pd', .string pb'] 39) none
      have st1 : StepG l wr own1 (wr.alloc (.cells #[.int .i64 ps', .int .i64 pd', .string pb'] 39)) (give own1 wr.heap.size (10 * (l + 1))) := StepG.of_grown l own1 hg1 _
      have hb2 := hb1.alloc (.cells #[.int .i64 ps', .int .i64 pd', .string pb'] 39)
      have hO2 := hO1.grown (j := 10 * (l + 1)) hg1 (Nat.le_refl _)
      have hR2 : Row (wr.alloc (.cells #[.int .i64 ps', .int .i64 pd', .string pb'] 39)) (give own1 wr.heap.size (10 * (l + 1))) j 39 3 (some ⟨b, off, none⟩) m (pcells ps) := hR.keep fun k hk ho => ⟨Below.heap_alloc _ _ _ hk, by rw [give_old hk]; exact ho⟩
      have hk1 : Blk (wr.alloc (.cells #[.int .i64 ps', .int .i64 pd', .string pb'] 39)) wr.heap.size 39 #[.int .i64 ps', .int .i64 pd', .string pb'] := Blk.new wr 39 _
      have hog2 : give own1 wr.heap.size (10 * (l + 1)) g = 10 * l := by rw [give_old hb1.lt]; exact ho1
      have hst2 := st.trans st1
      clear st1 st hR hb1 hO1 ho1
      go_wp2_with fail
      clear c0 c1 c2 hg1
      generalize wr.alloc (.cells #[.int .i64 ps', .int .i64 pd', .string pb'] 39) = Wk at hb2 hO2 hR2 hk1 hst2 ⊢
      generalize give own1 wr.heap.size (10 * (l + 1)) = own2 at hO2 hR2 hog2 hst2
      generalize wr.heap.size = bk at hk1 ⊢
      have z0 := hk1.cell 0
      have z1 := hk1.cell 1
      have z2 := hk1.cell 2
      have y0 := hb2.cell 0
      simp only [List.getElem?_toArray, List.getElem?_cons_zero, List.getElem?_cons_succ] at z0 z1 z2 y0
      have hal : ∀ o : Obj, (Wk.alloc o).cell? ⟨g, 0, none⟩ = some (.slice A1 tot cc1) := fun o => (hb2.alloc o).cell 0
      have Hb := Lib.hid hb2; clear hb2 hk1
      have HO := Lib.hid hO2; clear hO2
      have HR := Lib.hid hR2; clear hR2
      have Hst := Lib.hid hst2; clear hst2
      have ht4 : tot + 1 ≤ 4096 := by have := Htot.out; omega
      go_region_law
       ((refine step_mine rfl (.tmp 29) (.tmp 32) 51 rfl 59 i0 (.agg #[.int .i64 0, .int .i64 0, .string ByteArray.empty, .bool false]) 4 40 Try.underlying51 hi hz0 hz1 hz2 rfl (by decide) own2 (10 * l + 1) A1 tot cc1 _ (by rfl) ((HO.out.alloc _).drewN 1) (some ⟨Wk.heap.size, 0, none⟩) 1 1 [.int .i64 ps', .int .i64 pd', .string pb', .bool false] (by rfl) (Rd.of_blk ((Blk.new Wk 59 _).drewN 1) (by simp) (fun j u h => by simpa using h)) (by simp [Value.oneCell']) (by unfold maxLen; omega) (by omega) ?_
         intro A2 c2' w2 own3 hO3 st3
         have st12 := (((Step.refl (10 * l + 1) Wk own2).alloc (.cells #[.int .i64 ps', .int .i64 pd', .string pb', .bool false] 59)).drewN 1).trans st3
         have hb2 : Blk w2 g 53 #[.slice A1 tot cc1] := Hb.out.of_eq (st12.other (j := 10 * l) (by omega) Hb.out.lt hog2).1
         have k0 : w2.cell? ⟨g, 0, none⟩ = some (.slice A1 tot cc1) := hb2.cell 0
         have e0 := hb2.free 0
         clear hb2
         have Hst3 := Lib.hid st12
         clear st12 st3
         have HO3 := Lib.hid hO3
         clear hO3))
      all_goals go_wp2
      all_goals
        have hf := bag_mk (s := S ++ [(p, false)]) Hst3.out hog2 Hb.out (by rw [List.length_append, Hll.out]; simp; omega) (by rw [Hqs.out, List.length_append, Hll.out]; exact HO3.out) (.int .i64 0)
        have hll2 : (S ++ [(p, false)]).length = tot + 1 := by rw [List.length_append, Hll.out]; rfl
        rw [hll2] at hf
        obtain ⟨_, own4, st4, hB4⟩ := hf
        rw [← HS2.out] at hB4
        have hR4 : Row _ own4 j 39 3 (some ⟨b, off, none⟩) m (pcells ps) := HR.out.keep fun k hk ho => st4.other hj hk ho
        have hst4 := Hst.out.trans st4
        clear hll2 st4
        go_roundw
        case rel => exact ⟨k + 1, by omega, by go_num, own4, hst4, hB4, hR4⟩
        case measure => simp [intOf]; omega
    · obtain rfl : n = k := by omega
      go_wp2_with fail
      go_ret
      exact ⟨rfl, own1, st, hB⟩
end Go.Proofs.Ytiipioifjjemoaa
