/- The reference's bag: how it is made anew; Twice where it does nothing. -/
import Derived.Test.YtiipioifjjemoaaRBag0
namespace Go.Proofs.Ytiipioifjjemoaa
open Go.RowKit
set_option linter.unusedVariables false

theorem Blk.new2 (w : World) (o : Obj) (t : TypeId) (cs : Array Value) : Blk ((w.alloc o).alloc (.cells cs t)) (w.heap.size + 1) t cs := by
  have h := Blk.new (w.alloc o) t cs
  rwa [show (w.alloc o).heap.size = w.heap.size + 1 by simp] at h

section
variable {w : World} {own : Nat → Nat} {l g : Nat} {s : BSt}
theorem rbag_mk {w2 w4 : World} {A A2 A' A2' : Option Addr} {n c c2 n' c' c2' : Nat} {s' : BSt} (ho : own g = 10 * l) (hb : Blk w g 29 #[.slice A n c, .slice A2 n c2]) (hl : s'.length = n') (hn : n' ≤ 4096)
    (h1 : NewOwn 39 3 (pks s') w A' n' c' w2) (h2 : NewOwn 4 1 (marks s') (w2.setCell ⟨g, 0, none⟩ (.slice A' n' c')) A2' n' c2' w4) (v : Value) :
    RBagRet l own w g v s' (.returned v) (w4.setCell ⟨g, 1, none⟩ (.slice A2' n' c2')) := by
  have hgl := hb.lt
  obtain ⟨own1, e1⟩ : ∃ own1, own1 = give own w.heap.size (10 * l + 1) := ⟨_, rfl⟩
  have r1 := (h1.own own w.heap.size (10 * l + 1) (Nat.le_refl _))
  rw [← e1] at r1
  have g1 : own1 g = 10 * l := by rw [e1, give_old hgl]; exact ho
  have st1 : StepG l w own w2 own1 := by
    rw [e1]
    exact StepG.of_grown l own h1.grown _
  have b1 := hb.grown h1.grown (by simp)
  obtain ⟨W3, eW⟩ : ∃ W3, W3 = w2.setCell ⟨g, 0, none⟩ (.slice A' n' c') := ⟨_, rfl⟩
  rw [← eW] at h2
  have stA : Step (10 * l) w2 own1 W3 own1 := by rw [eW]; exact (Step.refl _ _ _).setCell g1 _
  have b3 : Blk W3 g 29 #[.slice A' n' c', .slice A2 n c2] := by rw [eW]; exact b1.set_ 0 (.slice A' n' c')
  have r3 := r1.step stA (by omega)
  obtain ⟨own2, e2⟩ : ∃ own2, own2 = give own1 W3.heap.size (10 * l + 2) := ⟨_, rfl⟩
  have q1 := (h2.own own1 W3.heap.size (10 * l + 2) (Nat.le_refl _))
  rw [← e2] at q1
  have g2 : own2 g = 10 * l := by rw [e2, give_old b3.lt]; exact g1
  have st2 : StepG l W3 own1 w4 own2 := by
    rw [e2]
    exact StepG.of_grown l own1 h2.grown _
  have b4 := b3.grown h2.grown (by simp)
  have r4 : OwnS w4 own2 (10 * l + 1) 39 3 A' n' c' (pks s') := by
    rw [e2]
    exact r3.grown h2.grown (Nat.le_refl _)
  have stB : Step (10 * l) w4 own2 (w4.setCell ⟨g, 1, none⟩ (.slice A2' n' c2')) own2 := (Step.refl _ _ _).setCell g2 _
  have b5 := b4.set_ 1 (.slice A2' n' c2')
  have r5 := r4.step stB (by omega)
  have q5 := q1.step stB (by omega)
  refine ⟨rfl, own2, ((st1.step stA (by omega)).trans st2).step stB (by omega), g2, by omega, A', c', A2', c2', ?_, ?_, ?_, ?_⟩
  · rw [hl]; exact b5
  · rw [hl]; exact r5.row
  · rw [hl]; exact q5.row
  · rw [hl]; exact ⟨r5.le, r5.max, q5.le, q5.max⟩

theorem rbag_twice_none (h : RBagAt w own l g s) (x : Int) (hx : x < 0 ∨ (s.length : Int) ≤ x) :
    Calls Try.prog 22 #[.pointer (some ⟨g, 0, none⟩), .int .i64 x] w fun e w' => e = .returned (.int .i64 11) ∧ w = w' := by
  obtain ⟨ho, hl, A, c, A2, c2, hb, _⟩ := h
  have Hb := Lib.hid hb; clear hb
  have Hx := Lib.hid hx; clear hx
  go_enter Try.func22, Try.ntmps22
  go_wp2_with fail
  refine (rthere_no Hb.out x Hx.out).mono ?_
  rintro e w' ⟨rfl, rfl⟩
  go_wp2
  go_ret
  exact ⟨rfl, rfl⟩
theorem rbag_twice_full (h : RBagAt w own l g s) (k : Nat) (hk : k < s.length) (hf : s.length = 4096) :
    Calls Try.prog 22 #[.pointer (some ⟨g, 0, none⟩), .int .i64 (k : Int)] w fun e w' => e = .returned (.int .i64 7) ∧ w = w' := by
  obtain ⟨ho, hl, A, c, A2, c2, hb, _⟩ := h
  rw [hf] at hb hk
  have h0 := hb.cell 0
  simp only [List.getElem?_toArray, List.getElem?_cons_zero] at h0
  have Hb := Lib.hid hb; clear hb hf hl
  go_enter Try.func22, Try.ntmps22
  go_wp2_with fail
  refine (rthere_yes Hb.out k hk).mono ?_
  rintro e w' ⟨rfl, rfl⟩
  go_wp2
  go_ret
  exact ⟨rfl, rfl⟩
end
end Go.Proofs.Ytiipioifjjemoaa
