/- The reference's link as an abstract state. -/
import Derived.Test.YtjloipjchcaloaaLnk
namespace Go.Proofs.Ytjloipjchcaloaa
open Go.RowKit
set_option linter.unusedVariables false

/-- The reference's link of group l at g stands as L. -/
def RLnkAt (w : World) (own : Nat → Nat) (l g : Nat) (L : Lnk) : Prop :=
  own g = 10 * l ∧ L.epoch ≤ 1099511627776 ∧ ∃ gs gr, Blk w g 82 #[.int .i64 (L.epoch : Int), .pointer (some ⟨gs, 0, none⟩), .pointer (some ⟨gr, 0, none⟩), .int .i64 L.window, .int .i64 L.room, .bool L.passive] ∧
    Ref10At w own (10 * l + 1) gs L.s ∧ RefAt w own (10 * l + 2) gr L.r

section
variable {w w' : World} {own own' : Nat → Nat} {l m g : Nat} {L : Lnk}
theorem RLnkAt.other (h : RLnkAt w own l g L) (st : StepG m w own w' own') (hlm : l ≠ m) : RLnkAt w' own' l g L := by
  obtain ⟨ho, he, gs, gr, hb, hs, hr⟩ := h
  have h0 := st.other (j := 10 * l) (by omega) hb.lt ho
  exact ⟨h0.2, he, gs, gr, hb.of_eq h0.1, hs.keep (fun k hk ho => st.other (by omega) hk ho), hr.keep (fun k hk ho => st.other (by omega) hk ho)⟩
theorem RLnkAt.grown {b0 j : Nat} (h : RLnkAt w own l g L) (hg : w.grownBy w' none) (hb0 : w.heap.size ≤ b0) : RLnkAt w' (give own b0 j) l g L := by
  obtain ⟨ho, he, gs, gr, hb, hs, hr⟩ := h
  exact ⟨by rw [give_old (by have := hb.lt; omega)]; exact ho, he, gs, gr, hb.grown hg (by simp), hs.grown hg hb0, hr.grown hg hb0⟩
theorem RLnkAt.drewN (h : RLnkAt w own l g L) (n : Nat) : RLnkAt (w.drewN n) own l g L := h
theorem RLnkAt.lt (h : RLnkAt w own l g L) : g < w.heap.size := by obtain ⟨_, _, _, _, hb, _⟩ := h; exact hb.lt
end

def RLnkRet (l : Nat) (own : Nat → Nat) (w : World) (g : Nat) (v : Value) (L : Lnk) (e : Ending) (w' : World) : Prop :=
  e = .returned v ∧ ∃ own', StepG l w own w' own' ∧ RLnkAt w' own' l g L
def FreshOk (l : Nat) (own : Nat → Nat) (w : World) (g : Nat) (L : Lnk) (e : Ending) (w' : World) : Prop :=
  e = .returned (.tuple #[]) ∧ ∃ own', StepG l w own w' own' ∧ RLnkAt w' own' l g L

theorem fresh_fin {l g gs gr : Nat} {own own2 : Nat → Nat} {c2 : Value} {window room e : Int} {passive : Bool} {w w2 : World} (st : StepG l w own w2 own2) (hog : own2 g = 10 * l)
    (hb : Blk w2 g 82 #[.int .i64 (epochC e), .pointer (some ⟨gs, 0, none⟩), c2, .int .i64 window, .int .i64 room, .bool passive]) (hs : Ref10At w2 own2 (10 * l + 1) gs (Snd.new window 1125899906842624)) (hr : RefAt w2 own2 (10 * l + 2) gr (Rcv.new room)) :
    FreshOk l own w g (Lnk.new e window room passive) (.returned (.tuple #[])) (w2.setCell ⟨g, 2, none⟩ (.pointer (some ⟨gr, 0, none⟩))) := by
  have st2 : Step (10 * l) w2 own2 (w2.setCell ⟨g, 2, none⟩ (.pointer (some ⟨gr, 0, none⟩))) own2 := (Step.refl _ _ _).setCell hog _
  refine ⟨rfl, own2, st.step st2 (by omega), hog, ?_, gs, gr, ?_, hs.other st2 (by omega), hr.other st2 (by omega)⟩
  · simp only [Lnk.new, epochC, clampI]; (repeat' split) <;> omega
  · simpa [Lnk.new] using hb.set_ 2 (.pointer (some ⟨gr, 0, none⟩))

set_option maxHeartbeats 2000000 in
set_option maxRecDepth 10000 in
theorem fresh_raw (l g : Nat) (own : Nat → Nat) (c1 c2 : Value) (ep window room e : Int) (passive : Bool) (w : World) (hog : own g = 10 * l)
    (hb : Blk w g 82 #[.int .i64 ep, c1, c2, .int .i64 window, .int .i64 room, .bool passive]) :
    Calls Try.prog 64 #[.pointer (some ⟨g, 0, none⟩), .int .i64 e] w (FreshOk l own w g (Lnk.new e window room passive)) := by
  have h0 : w.cell? ⟨g, 0, none⟩ = some (.int .i64 ep) := hb.cell 0
  have h3 : w.cell? ⟨g, 3, none⟩ = some (.int .i64 window) := hb.cell 3
  have f0 := hb.free 0
  have Hb := Lib.hid hb; clear hb
  have Hog := Lib.hid hog; clear hog
  have he1 : e < 0 → (epochC e : Int) = 0 := by intro h; unfold epochC clampI; (repeat' split) <;> omega
  have he2 : 1099511627776 < e → (epochC e : Int) = 1099511627776 := by intro h; unfold epochC clampI; (repeat' split) <;> omega
  have he3 : 0 ≤ e → e ≤ 1099511627776 → (epochC e : Int) = e := by intro h1 h2; unfold epochC clampI; (repeat' split) <;> omega
  have He1 := Lib.hid he1; clear he1
  have He2 := Lib.hid he2; clear he2
  have He3 := Lib.hid he3; clear he3
  go_enter Try.func64, Try.ntmps64
  rcases Int.lt_or_le e 0 with hc1 | hc1
  · have hE := He1.out hc1
    clear He1 He2 He3
    have HE := Lib.hid hE; clear hE
    go_wp2_with fail
    have hE := HE.out
    clear h0 f0 h3
    generalize hW : w.setCell _ _ = W
    have hbW : Blk W g 82 #[.int .i64 (epochC e), c1, c2, .int .i64 window, .int .i64 room, .bool passive] := by rw [← hW, hE]; simpa using Hb.out.set_ 0 (.int .i64 0)
    have hstW : StepG l w own W own := by rw [← hW]; exact ((Step.refl (10 * l) w own).setCell Hog.out _).toG (by omega)
    clear hW hE
    have HbW := Lib.hid hbW; clear hbW
    have HstW := Lib.hid hstW; clear hstW
    refine (ref10_new (10 * l + 1) own window 1125899906842624 W).mono ?_
    rintro e2 w1 ⟨rfl, own1, st1, hs1⟩
    have p1 := st1.other (j := 10 * l) (by omega) HbW.out.lt Hog.out
    have hb1 := HbW.out.of_eq p1.1
    have hst1 := HstW.out.step st1 (by omega)
    clear HbW HstW
    obtain ⟨gs, hgs⟩ : ∃ gs, gs = W.heap.size := ⟨_, rfl⟩
    rw [← hgs] at hs1 ⊢
    clear hgs st1
    have k1 : w1.cell? ⟨g, 1, none⟩ = some c1 := hb1.cell 1
    have f1 := hb1.free 1
    have st2 : Step (10 * l) w1 own1 (w1.setCell ⟨g, 1, none⟩ (.pointer (some ⟨gs, 0, none⟩))) own1 := (Step.refl _ _ _).setCell p1.2 _
    have hb2 : Blk (w1.setCell ⟨g, 1, none⟩ (.pointer (some ⟨gs, 0, none⟩))) g 82 #[.int .i64 (epochC e), .pointer (some ⟨gs, 0, none⟩), c2, .int .i64 window, .int .i64 room, .bool passive] := by simpa using hb1.set_ 1 (.pointer (some ⟨gs, 0, none⟩))
    have hs2 := hs1.other st2 (by omega)
    have hst2 := hst1.step st2 (by omega)
    clear hb1 hs1 hst1 st2
    have Hb2 := Lib.hid hb2; clear hb2
    have Hs2 := Lib.hid hs2; clear hs2
    have Hst2 := Lib.hid hst2; clear hst2
    have k4 : (w1.setCell ⟨g, 1, none⟩ (.pointer (some ⟨gs, 0, none⟩))).cell? ⟨g, 4, none⟩ = some (.int .i64 room) := Hb2.out.cell 4
    go_wp2_with fail
    refine (ref_new (10 * l + 2) own1 room _).mono ?_
    rintro e2 w3 ⟨rfl, own3, st3, hr3⟩
    have p3 := st3.other (j := 10 * l) (by omega) Hb2.out.lt p1.2
    have hb3 := Hb2.out.of_eq p3.1
    have hs3 := Hs2.out.other st3 (by omega)
    have hst3 := Hst2.out.step st3 (by omega)
    clear k1 f1 k4 Hb2 Hs2 Hst2 st3
    have k2 : w3.cell? ⟨g, 2, none⟩ = some c2 := hb3.cell 2
    have f2 := hb3.free 2
    have Hb3 := Lib.hid hb3; clear hb3
    go_wp2
    refine bodyPost_end (results_none rfl _ _ _) rfl ?_
    have hr3' : RefAt w3 own3 (10 * l + 2) w1.heap.size (Rcv.new room) := by simpa using hr3
    exact fresh_fin hst3 p3.2 Hb3.out hs3 hr3'
  rcases Int.lt_or_le 1099511627776 e with hc2 | hc2
  · have hE := He2.out hc2
    clear He1 He2 He3
    have HE := Lib.hid hE; clear hE
    go_wp2_with fail
    have hE := HE.out
    clear h0 f0 h3
    generalize hW : w.setCell _ _ = W
    have hbW : Blk W g 82 #[.int .i64 (epochC e), c1, c2, .int .i64 window, .int .i64 room, .bool passive] := by rw [← hW, hE]; simpa using Hb.out.set_ 0 (.int .i64 1099511627776)
    have hstW : StepG l w own W own := by rw [← hW]; exact ((Step.refl (10 * l) w own).setCell Hog.out _).toG (by omega)
    clear hW hE
    have HbW := Lib.hid hbW; clear hbW
    have HstW := Lib.hid hstW; clear hstW
    refine (ref10_new (10 * l + 1) own window 1125899906842624 W).mono ?_
    rintro e2 w1 ⟨rfl, own1, st1, hs1⟩
    have p1 := st1.other (j := 10 * l) (by omega) HbW.out.lt Hog.out
    have hb1 := HbW.out.of_eq p1.1
    have hst1 := HstW.out.step st1 (by omega)
    clear HbW HstW
    obtain ⟨gs, hgs⟩ : ∃ gs, gs = W.heap.size := ⟨_, rfl⟩
    rw [← hgs] at hs1 ⊢
    clear hgs st1
    have k1 : w1.cell? ⟨g, 1, none⟩ = some c1 := hb1.cell 1
    have f1 := hb1.free 1
    have st2 : Step (10 * l) w1 own1 (w1.setCell ⟨g, 1, none⟩ (.pointer (some ⟨gs, 0, none⟩))) own1 := (Step.refl _ _ _).setCell p1.2 _
    have hb2 : Blk (w1.setCell ⟨g, 1, none⟩ (.pointer (some ⟨gs, 0, none⟩))) g 82 #[.int .i64 (epochC e), .pointer (some ⟨gs, 0, none⟩), c2, .int .i64 window, .int .i64 room, .bool passive] := by simpa using hb1.set_ 1 (.pointer (some ⟨gs, 0, none⟩))
    have hs2 := hs1.other st2 (by omega)
    have hst2 := hst1.step st2 (by omega)
    clear hb1 hs1 hst1 st2
    have Hb2 := Lib.hid hb2; clear hb2
    have Hs2 := Lib.hid hs2; clear hs2
    have Hst2 := Lib.hid hst2; clear hst2
    have k4 : (w1.setCell ⟨g, 1, none⟩ (.pointer (some ⟨gs, 0, none⟩))).cell? ⟨g, 4, none⟩ = some (.int .i64 room) := Hb2.out.cell 4
    go_wp2_with fail
    refine (ref_new (10 * l + 2) own1 room _).mono ?_
    rintro e2 w3 ⟨rfl, own3, st3, hr3⟩
    have p3 := st3.other (j := 10 * l) (by omega) Hb2.out.lt p1.2
    have hb3 := Hb2.out.of_eq p3.1
    have hs3 := Hs2.out.other st3 (by omega)
    have hst3 := Hst2.out.step st3 (by omega)
    clear k1 f1 k4 Hb2 Hs2 Hst2 st3
    have k2 : w3.cell? ⟨g, 2, none⟩ = some c2 := hb3.cell 2
    have f2 := hb3.free 2
    have Hb3 := Lib.hid hb3; clear hb3
    go_wp2
    refine bodyPost_end (results_none rfl _ _ _) rfl ?_
    have hr3' : RefAt w3 own3 (10 * l + 2) w1.heap.size (Rcv.new room) := by simpa using hr3
    exact fresh_fin hst3 p3.2 Hb3.out hs3 hr3'
  · have hE := He3.out hc1 hc2
    clear He1 He2 He3
    have HE := Lib.hid hE; clear hE
    go_wp2_with fail
    have hE := HE.out
    clear h0 f0 h3
    generalize hW : w.setCell _ _ = W
    have hbW : Blk W g 82 #[.int .i64 (epochC e), c1, c2, .int .i64 window, .int .i64 room, .bool passive] := by rw [← hW, hE]; simpa using Hb.out.set_ 0 (.int .i64 e)
    have hstW : StepG l w own W own := by rw [← hW]; exact ((Step.refl (10 * l) w own).setCell Hog.out _).toG (by omega)
    clear hW hE
    have HbW := Lib.hid hbW; clear hbW
    have HstW := Lib.hid hstW; clear hstW
    refine (ref10_new (10 * l + 1) own window 1125899906842624 W).mono ?_
    rintro e2 w1 ⟨rfl, own1, st1, hs1⟩
    have p1 := st1.other (j := 10 * l) (by omega) HbW.out.lt Hog.out
    have hb1 := HbW.out.of_eq p1.1
    have hst1 := HstW.out.step st1 (by omega)
    clear HbW HstW
    obtain ⟨gs, hgs⟩ : ∃ gs, gs = W.heap.size := ⟨_, rfl⟩
    rw [← hgs] at hs1 ⊢
    clear hgs st1
    have k1 : w1.cell? ⟨g, 1, none⟩ = some c1 := hb1.cell 1
    have f1 := hb1.free 1
    have st2 : Step (10 * l) w1 own1 (w1.setCell ⟨g, 1, none⟩ (.pointer (some ⟨gs, 0, none⟩))) own1 := (Step.refl _ _ _).setCell p1.2 _
    have hb2 : Blk (w1.setCell ⟨g, 1, none⟩ (.pointer (some ⟨gs, 0, none⟩))) g 82 #[.int .i64 (epochC e), .pointer (some ⟨gs, 0, none⟩), c2, .int .i64 window, .int .i64 room, .bool passive] := by simpa using hb1.set_ 1 (.pointer (some ⟨gs, 0, none⟩))
    have hs2 := hs1.other st2 (by omega)
    have hst2 := hst1.step st2 (by omega)
    clear hb1 hs1 hst1 st2
    have Hb2 := Lib.hid hb2; clear hb2
    have Hs2 := Lib.hid hs2; clear hs2
    have Hst2 := Lib.hid hst2; clear hst2
    have k4 : (w1.setCell ⟨g, 1, none⟩ (.pointer (some ⟨gs, 0, none⟩))).cell? ⟨g, 4, none⟩ = some (.int .i64 room) := Hb2.out.cell 4
    go_wp2_with fail
    refine (ref_new (10 * l + 2) own1 room _).mono ?_
    rintro e2 w3 ⟨rfl, own3, st3, hr3⟩
    have p3 := st3.other (j := 10 * l) (by omega) Hb2.out.lt p1.2
    have hb3 := Hb2.out.of_eq p3.1
    have hs3 := Hs2.out.other st3 (by omega)
    have hst3 := Hst2.out.step st3 (by omega)
    clear k1 f1 k4 Hb2 Hs2 Hst2 st3
    have k2 : w3.cell? ⟨g, 2, none⟩ = some c2 := hb3.cell 2
    have f2 := hb3.free 2
    have Hb3 := Lib.hid hb3; clear hb3
    go_wp2
    refine bodyPost_end (results_none rfl _ _ _) rfl ?_
    have hr3' : RefAt w3 own3 (10 * l + 2) w1.heap.size (Rcv.new room) := by simpa using hr3
    exact fresh_fin hst3 p3.2 Hb3.out hs3 hr3'

theorem rlnk_new (l : Nat) (own : Nat → Nat) (e window room : Int) (passive : Bool) (w : World) :
    Calls Try.prog 45 #[.int .i64 e, .int .i64 window, .int .i64 room, .bool passive] w (RLnkRet l own w w.heap.size (.pointer (some ⟨w.heap.size, 0, none⟩)) (Lnk.new e window room passive)) := by
  have hb : Blk (w.alloc (.cells #[.int .i64 0, .pointer none, .pointer none, .int .i64 window, .int .i64 room, .bool passive] 82)) w.heap.size 82 #[.int .i64 0, .pointer none, .pointer none, .int .i64 window, .int .i64 room, .bool passive] := Blk.new w 82 _
  have st0 : StepG l w own (w.alloc (.cells #[.int .i64 0, .pointer none, .pointer none, .int .i64 window, .int .i64 room, .bool passive] 82)) (give own w.heap.size (10 * l)) := (((Step.refl (10 * l) w own).give_ (10 * l)).alloc _).toG (by omega)
  go_enter Try.func45, Try.ntmps45
  go_wp2_with fail
  refine (fresh_raw l w.heap.size (give own w.heap.size (10 * l)) _ _ _ window room e passive _ (give_new (Nat.le_refl _)) hb).mono ?_
  rintro e2 w1 ⟨rfl, own1, st1, h1⟩
  go_wp2
  go_ret
  exact ⟨rfl, own1, st0.trans st1, h1⟩

set_option maxHeartbeats 4000000 in
set_option maxRecDepth 10000 in
theorem rlnk_hear {w : World} {own : Nat → Nat} {l g : Nat} {L : Lnk} (h : RLnkAt w own l g L) (hl : l ≠ 0) (fe fs fa : Int) (fd : ByteArray) (hk : L.r.acked ≤ 300) (hks : L.s.sent ≤ 300) (hfe : fe ≤ 1099511627776) (hfe0 : 1 ≤ fe) (hfs0 : 0 ≤ fs) (hfm : fs ≤ 9223372036854775807) :
    Calls Try.prog 51 #[.pointer (some ⟨g, 0, none⟩), .agg #[.int .i64 fe, .int .i64 fs, .int .i64 fa, .string fd]] w (RLnkRet l own w g (.bool (L.anew fe)) (L.hear fe fs fa fd)) := by
  have h' := h.grown (b0 := w.heap.size) (j := 9) (World.grownBy_alloc w (.cells #[.int .i64 fe, .int .i64 fs, .int .i64 fa, .string fd] 78) none) (Nat.le_refl _)
  have hf : Blk (w.alloc (.cells #[.int .i64 fe, .int .i64 fs, .int .i64 fa, .string fd] 78)) w.heap.size 78 #[.int .i64 fe, .int .i64 fs, .int .i64 fa, .string fd] := Blk.new w 78 _
  have hof : give own w.heap.size 9 w.heap.size = 9 := give_new (Nat.le_refl _)
  have st0 : StepG l w own (w.alloc (.cells #[.int .i64 fe, .int .i64 fs, .int .i64 fa, .string fd] 78)) (give own w.heap.size 9) := by
    have st : Step (10 * l) w own (w.alloc (.cells #[.int .i64 fe, .int .i64 fs, .int .i64 fa, .string fd] 78)) (give own w.heap.size 9) := ((Step.refl (10 * l) w own).give_ 9).alloc _
    exact st.toG (by omega)
  go_enter Try.func51, Try.ntmps51
  go_wp2_with fail
  generalize w.alloc (.cells #[.int .i64 fe, .int .i64 fs, .int .i64 fa, .string fd] 78) = W at h' hf st0 ⊢
  generalize w.heap.size = bf at h' hf hof st0 ⊢
  generalize give own bf 9 = own0 at h' hof st0
  clear h
  obtain ⟨ho, he, gs, gr, hb, hs, hr⟩ := h'
  have q0 : W.cell? ⟨bf, 0, none⟩ = some (.int .i64 fe) := hf.cell 0
  have c2 : W.cell? ⟨g, 0, none⟩ = some (.int .i64 (L.epoch : Int)) := hb.cell 0
  have c5 : W.cell? ⟨g, 5, none⟩ = some (.bool L.passive) := hb.cell 5
  have Hb := Lib.hid hb; clear hb
  have Hf := Lib.hid hf; clear hf
  by_cases h1 : fe = (L.epoch : Int)
  · have hd2 : decide ((L.epoch : Int) < fe) = false := by simp; omega
    have hdn : (fe != (L.epoch : Int)) = false := by simpa using h1
    have e1 : L.hear fe fs fa fd = L.heard fe fs fa fd := by unfold Lnk.hear; rw [if_neg (by omega), if_neg (by omega)]
    have e2 : L.anew fe = false := by unfold Lnk.anew; rw [hd2]; rfl
    have E1 := Lib.hid e1; clear e1
    have E2 := Lib.hid e2; clear e2
    clear h1
    go_quiet (fail)
    go_wp2_with fail
    go_quiet (fail)
    go_wp2_with fail
    generalize hW3 : (W.drewN _).drewN _ = W3
    have st3 : StepG l w own W3 own0 := by rw [← hW3]; exact (st0.drewN _).drewN _
    have hb3 : Blk W3 g 82 #[.int .i64 (L.epoch : Int), .pointer (some ⟨gs, 0, none⟩), .pointer (some ⟨gr, 0, none⟩), .int .i64 L.window, .int .i64 L.room, .bool L.passive] := by rw [← hW3]; exact Hb.out
    have Hb3 := Lib.hid hb3; clear hb3
    have hf3 : Blk W3 bf 78 #[.int .i64 fe, .int .i64 fs, .int .i64 fa, .string fd] := by rw [← hW3]; exact Hf.out
    have Hf3 := Lib.hid hf3; clear hf3
    have hs3 : Ref10At W3 own0 (10 * l + 1) gs L.s := by rw [← hW3]; exact (hs.drewN _).drewN _
    have hr3 : RefAt W3 own0 (10 * l + 2) gr L.r := by rw [← hW3]; exact (hr.drewN _).drewN _
    have ho3 := ho
    have hof3 := hof
    have he3 := he
    have hk3 := hk
    have hks3 := hks
    clear hW3 q0 c2 c5 Hb Hf hs hr st0
    have c0 : W3.drew.cell? ⟨g, 1, none⟩ = some (.pointer (some ⟨gs, 0, none⟩)) := Hb3.out.cell 1
    have q2 : W3.drew.cell? ⟨bf, 2, none⟩ = some (.int .i64 fa) := Hf3.out.cell 2
    go_region_held3 (fun w' => w'.cell? ⟨g, 1, none⟩ = some (.pointer (some ⟨gs, 0, none⟩)) ∧ w'.cell? ⟨bf, 2, none⟩ = some (.int .i64 fa)) (first | (go_keep; done) | (constructor <;> assumption))
     ((go_at_call 41
       refine (ref10_ack (hs3.drewN 1) fa hks3).mono ?_
       rintro e w4 ⟨rfl, own4, st4, hs4⟩
       have p4 := st4.other (j := 10 * l) (by omega) Hb3.out.drew.lt ho3
       have r4 := st4.other (j := 9) (by omega) Hf3.out.drew.lt hof3
       have hb4 := Hb3.out.drew.of_eq p4.1
       have hf4 := Hf3.out.drew.of_eq r4.1
       have c04 : w4.cell? ⟨g, 1, none⟩ = some (.pointer (some ⟨gs, 0, none⟩)) := hb4.cell 1
       have q24 : w4.cell? ⟨bf, 2, none⟩ = some (.int .i64 fa) := hf4.cell 2
       have Hb4 := Lib.hid hb4
       have Hf4 := Lib.hid hf4
       clear hb4 hf4))
    have hr4 := (hr3.drewN 1).other st4 (by omega)
    have st04 := (st3.drewN 1).step st4 (by omega)
    clear c0 c04 q24 q2 hs3 hr3 Hb3 Hf3 st3 st4
    have c1 : w4.cell? ⟨g, 2, none⟩ = some (.pointer (some ⟨gr, 0, none⟩)) := Hb4.out.cell 2
    have q1 : w4.cell? ⟨bf, 1, none⟩ = some (.int .i64 fs) := Hf4.out.cell 1
    have q3 : w4.cell? ⟨bf, 3, none⟩ = some (.string fd) := Hf4.out.cell 3
    by_cases hfs : fs = 0
    · have hne : decide (0 < fs) = false := by simp; omega
      go_wp2
      go_ret
      rw [E2.out]
      refine ⟨rfl, own4, st04, ?_⟩
      rw [E1.out]
      refine ⟨p4.2, he3, gs, gr, Hb4.out, hs4, ?_⟩
      simp only [Lnk.heard, if_pos hfs]
      exact hr4
    · have hne : decide (0 < fs) = true := by simp; omega
      go_wp2_with fail
      go_region_held3 (fun w' => w'.cell? ⟨g, 2, none⟩ = some (.pointer (some ⟨gr, 0, none⟩)) ∧ w'.cell? ⟨bf, 1, none⟩ = some (.int .i64 fs) ∧ w'.cell? ⟨bf, 3, none⟩ = some (.string fd)) (first | (go_keep; done) | (refine ⟨?_, ?_, ?_⟩ <;> assumption))
       ((go_at_call 31
         refine (ref_hear (hr4.drewN 1) fs fd hk3 hfm).mono ?_
         rintro e w5 ⟨rfl, own5, st5, hr5⟩
         have p5 := st5.other (j := 10 * l) (by omega) Hb4.out.drew.lt p4.2
         have r5 := st5.other (j := 9) (by omega) Hf4.out.drew.lt r4.2
         have hb5 := Hb4.out.drew.of_eq p5.1
         have hf5 := Hf4.out.drew.of_eq r5.1
         have c15 : w5.cell? ⟨g, 2, none⟩ = some (.pointer (some ⟨gr, 0, none⟩)) := hb5.cell 2
         have q15 : w5.cell? ⟨bf, 1, none⟩ = some (.int .i64 fs) := hf5.cell 1
         have q35 : w5.cell? ⟨bf, 3, none⟩ = some (.string fd) := hf5.cell 3
         have Hb5 := Lib.hid hb5
         clear hb5 hf5))
      have hs5 := (hs4.drewN 1).other st5 (by omega)
      have st05 := (st04.drewN 1).step st5 (by omega)
      clear c15 q15 q35
      go_wp2
      go_ret
      rw [E2.out]
      refine ⟨rfl, own5, st05, ?_⟩
      rw [E1.out]
      refine ⟨p5.2, he3, gs, gr, Hb5.out, hs5, ?_⟩
      simp only [Lnk.heard, if_neg hfs]
      exact hr5
  · have hdn : (fe != (L.epoch : Int)) = true := by simpa using h1
    by_cases h2 : (L.epoch : Int) < fe ∧ L.passive = true
    · obtain ⟨h2, hp⟩ := h2
      have hd2 : decide ((L.epoch : Int) < fe) = true := by simpa using h2
      rw [hp] at c5
      have e1 : L.hear fe fs fa fd = (Lnk.new fe L.window L.room L.passive).heard fe fs fa fd := by unfold Lnk.hear; rw [if_neg (by omega), if_pos h2, if_pos hp]
      have e2 : L.anew fe = true := by unfold Lnk.anew; rw [hd2, hp]; rfl
      have E1 := Lib.hid e1; clear e1
      have E2 := Lib.hid e2; clear e2
      have hep : ((Lnk.new fe L.window L.room L.passive).epoch : Int) = fe := by simp only [Lnk.new, epochC, clampI]; (repeat' split) <;> omega
      have Hep := Lib.hid hep; clear hep
      clear h1
      go_quiet (fail)
      generalize hW2 : W.drewN _ = W2
      have st2 : StepG l w own W2 own0 := by rw [← hW2]; exact st0.drewN _
      have hb2 : Blk W2 g 82 #[.int .i64 (L.epoch : Int), .pointer (some ⟨gs, 0, none⟩), .pointer (some ⟨gr, 0, none⟩), .int .i64 L.window, .int .i64 L.room, .bool L.passive] := by rw [← hW2]; exact Hb.out
      have hf2 : Blk W2 bf 78 #[.int .i64 fe, .int .i64 fs, .int .i64 fa, .string fd] := by rw [← hW2]; exact Hf.out
      clear hW2 q0 c2 c5 Hb Hf hs hr st0 hdn
      have q0 : W2.cell? ⟨bf, 0, none⟩ = some (.int .i64 fe) := hf2.cell 0
      have Hb2 := Lib.hid hb2; clear hb2
      have Hf2 := Lib.hid hf2; clear hf2
      go_wp2_with fail
      refine (fresh_raw l g own0 _ _ _ L.window L.room fe L.passive W2 ho Hb2.out).mono ?_
      rintro e W3 ⟨rfl, own3, stb, hL⟩
      have st3 := st2.trans stb
      have r3 := stb.other (j := 9) (by omega) Hf2.out.lt hof
      have Hf3 := Lib.hid (Hf2.out.of_eq r3.1)
      have hof3 := r3.2
      clear st2 stb q0 Hb2 Hf2 r3 ho hof he gs gr
      obtain ⟨ho3, he3, gs, gr, hb3, hs3, hr3⟩ := hL
      have c2 : W3.cell? ⟨g, 0, none⟩ = some (.int .i64 fe) := by rw [← Hep.out]; exact hb3.cell 0
      have q0 : W3.cell? ⟨bf, 0, none⟩ = some (.int .i64 fe) := Hf3.out.cell 0
      have Hb3 := Lib.hid hb3; clear hb3
      have hk3 : (Lnk.new fe L.window L.room L.passive).r.acked ≤ 300 := Nat.zero_le _
      have hks3 : (Lnk.new fe L.window L.room L.passive).s.sent ≤ 300 := Nat.zero_le _
      go_wp2_with fail
      go_quiet (fail)
      go_wp2_with fail
      clear c2 q0
      generalize hW4 : W3.drewN _ = W4
      have st3' : StepG l w own W4 own3 := by rw [← hW4]; exact st3.drewN _
      have Hb3' : Blk W4 g 82 #[.int .i64 ((Lnk.new fe L.window L.room L.passive).epoch : Int), .pointer (some ⟨gs, 0, none⟩), .pointer (some ⟨gr, 0, none⟩), .int .i64 L.window, .int .i64 L.room, .bool L.passive] := by rw [← hW4]; exact Hb3.out
      have Hf3' : Blk W4 bf 78 #[.int .i64 fe, .int .i64 fs, .int .i64 fa, .string fd] := by rw [← hW4]; exact Hf3.out
      have hs3' : Ref10At W4 own3 (10 * l + 1) gs (Lnk.new fe L.window L.room L.passive).s := by rw [← hW4]; exact hs3.drewN _
      have hr3' : RefAt W4 own3 (10 * l + 2) gr (Lnk.new fe L.window L.room L.passive).r := by rw [← hW4]; exact hr3.drewN _
      clear hW4 st3 Hb3 Hf3 hs3 hr3
      have st3 := st3'
      have Hb3 := Lib.hid Hb3'
      have Hf3 := Lib.hid Hf3'
      have hs3 := hs3'
      have hr3 := hr3'
      clear st3' Hb3' Hf3' hs3' hr3'
      have c0 : W4.drew.cell? ⟨g, 1, none⟩ = some (.pointer (some ⟨gs, 0, none⟩)) := Hb3.out.cell 1
      have q2 : W4.drew.cell? ⟨bf, 2, none⟩ = some (.int .i64 fa) := Hf3.out.cell 2
      go_region_held3 (fun w' => w'.cell? ⟨g, 1, none⟩ = some (.pointer (some ⟨gs, 0, none⟩)) ∧ w'.cell? ⟨bf, 2, none⟩ = some (.int .i64 fa)) (first | (go_keep; done) | (constructor <;> assumption))
       ((go_at_call 41
         refine (ref10_ack (hs3.drewN 1) fa hks3).mono ?_
         rintro e w4 ⟨rfl, own4, st4, hs4⟩
         have p4 := st4.other (j := 10 * l) (by omega) Hb3.out.drew.lt ho3
         have r4 := st4.other (j := 9) (by omega) Hf3.out.drew.lt hof3
         have hb4 := Hb3.out.drew.of_eq p4.1
         have hf4 := Hf3.out.drew.of_eq r4.1
         have c04 : w4.cell? ⟨g, 1, none⟩ = some (.pointer (some ⟨gs, 0, none⟩)) := hb4.cell 1
         have q24 : w4.cell? ⟨bf, 2, none⟩ = some (.int .i64 fa) := hf4.cell 2
         have Hb4 := Lib.hid hb4
         have Hf4 := Lib.hid hf4
         clear hb4 hf4))
      have hr4 := (hr3.drewN 1).other st4 (by omega)
      have st04 := (st3.drewN 1).step st4 (by omega)
      clear c0 c04 q24 q2 hs3 hr3 Hb3 Hf3 st3 st4
      have c1 : w4.cell? ⟨g, 2, none⟩ = some (.pointer (some ⟨gr, 0, none⟩)) := Hb4.out.cell 2
      have q1 : w4.cell? ⟨bf, 1, none⟩ = some (.int .i64 fs) := Hf4.out.cell 1
      have q3 : w4.cell? ⟨bf, 3, none⟩ = some (.string fd) := Hf4.out.cell 3
      by_cases hfs : fs = 0
      · have hne : decide (0 < fs) = false := by simp; omega
        go_wp2
        go_ret
        rw [E2.out]
        refine ⟨rfl, own4, st04, ?_⟩
        rw [E1.out]
        refine ⟨p4.2, he3, gs, gr, Hb4.out, hs4, ?_⟩
        simp only [Lnk.heard, if_pos hfs]
        exact hr4
      · have hne : decide (0 < fs) = true := by simp; omega
        go_wp2_with fail
        go_region_held3 (fun w' => w'.cell? ⟨g, 2, none⟩ = some (.pointer (some ⟨gr, 0, none⟩)) ∧ w'.cell? ⟨bf, 1, none⟩ = some (.int .i64 fs) ∧ w'.cell? ⟨bf, 3, none⟩ = some (.string fd)) (first | (go_keep; done) | (refine ⟨?_, ?_, ?_⟩ <;> assumption))
         ((go_at_call 31
           refine (ref_hear (hr4.drewN 1) fs fd hk3 hfm).mono ?_
           rintro e w5 ⟨rfl, own5, st5, hr5⟩
           have p5 := st5.other (j := 10 * l) (by omega) Hb4.out.drew.lt p4.2
           have r5 := st5.other (j := 9) (by omega) Hf4.out.drew.lt r4.2
           have hb5 := Hb4.out.drew.of_eq p5.1
           have hf5 := Hf4.out.drew.of_eq r5.1
           have c15 : w5.cell? ⟨g, 2, none⟩ = some (.pointer (some ⟨gr, 0, none⟩)) := hb5.cell 2
           have q15 : w5.cell? ⟨bf, 1, none⟩ = some (.int .i64 fs) := hf5.cell 1
           have q35 : w5.cell? ⟨bf, 3, none⟩ = some (.string fd) := hf5.cell 3
           have Hb5 := Lib.hid hb5
           clear hb5 hf5))
        have hs5 := (hs4.drewN 1).other st5 (by omega)
        have st05 := (st04.drewN 1).step st5 (by omega)
        clear c15 q15 q35
        go_wp2
        go_ret
        rw [E2.out]
        refine ⟨rfl, own5, st05, ?_⟩
        rw [E1.out]
        refine ⟨p5.2, he3, gs, gr, Hb5.out, hs5, ?_⟩
        simp only [Lnk.heard, if_neg hfs]
        exact hr5
    · have e1 : L.hear fe fs fa fd = L := by
        unfold Lnk.hear
        split
        · rfl
        · split
          · rw [if_neg (fun hp => h2 ⟨by assumption, hp⟩)]
          · omega
      have e2 : L.anew fe = false := by
        unfold Lnk.anew
        by_cases h3 : (L.epoch : Int) < fe
        · have : L.passive = false := by cases hp : L.passive <;> simp_all
          rw [this]; simp
        · simp [h3]
      have hst : decide ((L.epoch : Int) < fe) = false ∨ (decide ((L.epoch : Int) < fe) = true ∧ L.passive = false) := by
        by_cases h3 : (L.epoch : Int) < fe
        · right
          refine ⟨by simpa using h3, ?_⟩
          cases hp : L.passive <;> simp_all
        · left; simpa using h3
      have E1 := Lib.hid e1; clear e1
      have E2 := Lib.hid e2; clear e2
      clear h2 h1
      rcases hst with hd2 | ⟨hd2, hp⟩
      · go_quiet (fail)
        go_wp2_with fail
        go_quiet (fail)
        go_wp2
        go_ret
        rw [E1.out, E2.out]
        exact ⟨rfl, own0, (st0.drewN _).drewN _, ho, he, gs, gr, Hb.out, hs, hr⟩
      · rw [hp] at c5
        go_quiet (fail)
        go_wp2_with fail
        go_quiet (fail)
        go_wp2
        go_ret
        rw [E1.out, E2.out]
        exact ⟨rfl, own0, (st0.drewN _).drewN _, ho, he, gs, gr, Hb.out, hs, hr⟩
end Go.Proofs.Ytjloipjchcaloaa
