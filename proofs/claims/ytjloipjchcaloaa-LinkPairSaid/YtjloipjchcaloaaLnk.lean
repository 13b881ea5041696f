/- The link (layer 12) as an abstract state: an epoch, the bounds, a sender, a receiver. Contracts of New, Offer, Pop, Epoch, Unacked, Waiting, Hear. -/
import Derived.Test.YtjloipjchcaloaaGrp
namespace Go.Proofs.Ytjloipjchcaloaa
open Go.RowKit
set_option linter.unusedVariables false
attribute [local go_sem ↓] run_max_mx run_min_mn

structure Lnk where
  epoch : Nat
  window : Int
  room : Int
  passive : Bool
  s : Snd
  r : Rcv

def epochC (e : Int) : Nat := (clampI e 0 1099511627776).toNat
def Lnk.begin (L : Lnk) (e : Int) : Lnk := { L with epoch := epochC e, s := Snd.new L.window 1125899906842624, r := Rcv.new L.room }
def Lnk.new (e window room : Int) (passive : Bool) : Lnk := ⟨epochC e, window, room, passive, Snd.new window 1125899906842624, Rcv.new room⟩

/-- The link of group l at g stands as L: its block is owned by 10 l, its sender by 10 l + 1, its receiver by 10 l + 2. -/
def LnkAt (w : World) (own : Nat → Nat) (l g : Nat) (L : Lnk) : Prop :=
  own g = 10 * l ∧ L.epoch ≤ 1099511627776 ∧ ∃ gs gr, Blk w g 108 #[.pointer (some ⟨gs, 0, none⟩), .pointer (some ⟨gr, 0, none⟩), .int .i64 (L.epoch : Int), .int .i64 L.window, .int .i64 L.room, .bool L.passive] ∧
    SndAt w own (10 * l + 1) gs L.s ∧ RcvAt w own (10 * l + 2) gr L.r

section
variable {w w' : World} {own own' : Nat → Nat} {l m g : Nat} {L : Lnk}
theorem LnkAt.other (h : LnkAt w own l g L) (st : StepG m w own w' own') (hlm : l ≠ m) : LnkAt w' own' l g L := by
  obtain ⟨ho, he, gs, gr, hb, hs, hr⟩ := h
  have h0 := st.other (j := 10 * l) (by omega) hb.lt ho
  exact ⟨h0.2, he, gs, gr, hb.of_eq h0.1, hs.keep (fun k hk ho => st.other (by omega) hk ho), hr.keep (fun k hk ho => st.other (by omega) hk ho)⟩
theorem LnkAt.grown {b0 j : Nat} (h : LnkAt w own l g L) (hg : w.grownBy w' none) (hb0 : w.heap.size ≤ b0) : LnkAt w' (give own b0 j) l g L := by
  obtain ⟨ho, he, gs, gr, hb, hs, hr⟩ := h
  exact ⟨by rw [give_old (by have := hb.lt; omega)]; exact ho, he, gs, gr, hb.grown hg (by simp), hs.grown hg hb0, hr.grown hg hb0⟩
theorem LnkAt.drewN (h : LnkAt w own l g L) (n : Nat) : LnkAt (w.drewN n) own l g L := h
theorem LnkAt.lt (h : LnkAt w own l g L) : g < w.heap.size := by obtain ⟨_, _, _, _, hb, _⟩ := h; exact hb.lt
end

/-- A call hands back v, group l alone has changed, and the link stands as L. -/
def LnkRet (l : Nat) (own : Nat → Nat) (w : World) (g : Nat) (v : Value) (L : Lnk) (e : Ending) (w' : World) : Prop :=
  e = .returned v ∧ ∃ own', StepG l w own w' own' ∧ LnkAt w' own' l g L

section
variable {w : World} {own : Nat → Nat} {l g : Nat} {L : Lnk}
theorem lnk_epoch (h : LnkAt w own l g L) : Calls Try.prog 53 #[.pointer (some ⟨g, 0, none⟩)] w fun e w' => e = .returned (.int .i64 (L.epoch : Int)) ∧ w = w' := by
  obtain ⟨ho, he, gs, gr, hb, hs, hr⟩ := h
  have h2 := hb.cell 2
  simp only [List.getElem?_toArray, List.getElem?_cons_zero, List.getElem?_cons_succ] at h2
  clear hb hs hr
  go_enter Try.func53, Try.ntmps53
  go_wp2
  go_ret
  exact ⟨rfl, rfl⟩

theorem lnk_unacked (h : LnkAt w own l g L) : Calls Try.prog 54 #[.pointer (some ⟨g, 0, none⟩)] w fun e w' => e = .returned (.int .i64 (L.s.ds.length : Int)) ∧ w = w' := by
  obtain ⟨ho, he, gs, gr, hb, hs, hr⟩ := h
  have h0 := hb.cell 0
  simp only [List.getElem?_toArray, List.getElem?_cons_zero] at h0
  clear hb hr
  go_enter Try.func54, Try.ntmps54
  go_wp2_with fail
  refine (snd_unacked hs).mono ?_
  rintro e w' ⟨rfl, rfl⟩
  go_wp2
  go_ret
  exact ⟨rfl, rfl⟩

theorem lnk_waiting (h : LnkAt w own l g L) : Calls Try.prog 56 #[.pointer (some ⟨g, 0, none⟩)] w fun e w' => e = .returned (.int .i64 (L.r.q.length : Int)) ∧ w = w' := by
  obtain ⟨ho, he, gs, gr, hb, hs, hr⟩ := h
  have h1 := hb.cell 1
  simp only [List.getElem?_toArray, List.getElem?_cons_zero, List.getElem?_cons_succ] at h1
  clear hb hs
  go_enter Try.func56, Try.ntmps56
  go_wp2_with fail
  refine (rcv_waiting hr).mono ?_
  rintro e w' ⟨rfl, rfl⟩
  go_wp2
  go_ret
  exact ⟨rfl, rfl⟩

theorem lnk_offer (h : LnkAt w own l g L) (d : ByteArray) (n : Int) (s' : Snd) (hn : L.s.offE = n) (hs' : L.s.off d = s') :
    Calls Try.prog 48 #[.pointer (some ⟨g, 0, none⟩), .string d] w (LnkRet l own w g (.int .i64 n) { L with s := s' }) := by
  obtain ⟨ho, he, gs, gr, hb, hs, hr⟩ := h
  have h0 := hb.cell 0
  simp only [List.getElem?_toArray, List.getElem?_cons_zero] at h0
  have Hb := Lib.hid hb; clear hb
  go_enter Try.func48, Try.ntmps48
  go_wp2_with fail
  refine (snd_offer_is hs d _ n s' rfl hn hs').mono ?_
  rintro e w1 ⟨rfl, own1, st, hs1⟩
  have hr1 := hr.other st (by omega)
  have h1 := st.other (j := 10 * l) (by omega) Hb.out.lt ho
  clear h0 hs hr
  go_wp2
  go_ret
  exact ⟨rfl, own1, st.toG (by omega), h1.2, he, gs, gr, Hb.out.of_eq h1.1, hs1, hr1⟩

theorem lnk_pop (h : LnkAt w own l g L) (x : ByteArray) (b : Bool) (r' : Rcv) (hx : L.r.popV = x) (hb' : L.r.popB = b) (hr' : L.r.pop = r') :
    Calls Try.prog 52 #[.pointer (some ⟨g, 0, none⟩)] w (LnkRet l own w g (.tuple #[.string x, .bool b]) { L with r := r' }) := by
  obtain ⟨ho, he, gs, gr, hb, hs, hr⟩ := h
  have h0 := hb.cell 1
  simp only [List.getElem?_toArray, List.getElem?_cons_zero, List.getElem?_cons_succ] at h0
  have Hb := Lib.hid hb; clear hb
  go_enter Try.func52, Try.ntmps52
  go_wp2_with fail
  refine (rcv_pop_is hr x b r' hx hb' hr').mono ?_
  rintro e w1 ⟨rfl, own1, st, hr1⟩
  have hs1 := hs.other st (by omega)
  have h1 := st.other (j := 10 * l) (by omega) Hb.out.lt ho
  clear h0 hs hr
  go_wp2
  go_ret2
  exact ⟨rfl, own1, st.toG (by omega), h1.2, he, gs, gr, Hb.out.of_eq h1.1, hs1, hr1⟩
end

/-- What begin makes: the link anew, of an epoch. -/
def BeginOk (l : Nat) (own : Nat → Nat) (w : World) (g : Nat) (L : Lnk) (e : Ending) (w' : World) : Prop :=
  e = .returned (.tuple #[]) ∧ ∃ own', StepG l w own w' own' ∧ LnkAt w' own' l g L

theorem begin_fin {l g gs gr : Nat} {own own2 : Nat → Nat} {c0 c1 : Value} {window room e : Int} {passive : Bool} {w w2 : World} (st : StepG l w own w2 own2) (hog : own2 g = 10 * l)
    (hb : Blk w2 g 108 #[c0, c1, .int .i64 (epochC e), .int .i64 window, .int .i64 room, .bool passive]) (hs : SndAt w2 own2 (10 * l + 1) gs (Snd.new window 1125899906842624)) (hr : RcvAt w2 own2 (10 * l + 2) gr (Rcv.new room)) :
    BeginOk l own w g (Lnk.new e window room passive) (.returned (.tuple #[])) ((w2.setCell ⟨g, 0, none⟩ (.pointer (some ⟨gs, 0, none⟩))).setCell ⟨g, 1, none⟩ (.pointer (some ⟨gr, 0, none⟩))) := by
  have st2 : Step (10 * l) w2 own2 ((w2.setCell ⟨g, 0, none⟩ (.pointer (some ⟨gs, 0, none⟩))).setCell ⟨g, 1, none⟩ (.pointer (some ⟨gr, 0, none⟩))) own2 := ((Step.refl _ _ _).setCell hog _).setCell hog _
  refine ⟨rfl, own2, st.step st2 (by omega), hog, ?_, gs, gr, ?_, hs.other st2 (by omega), hr.other st2 (by omega)⟩
  · simp only [Lnk.new, epochC, clampI]; (repeat' split) <;> omega
  · simpa [Lnk.new] using (hb.set_ 0 (.pointer (some ⟨gs, 0, none⟩))).set_ 1 (.pointer (some ⟨gr, 0, none⟩))

set_option maxHeartbeats 2000000 in
set_option maxRecDepth 10000 in
theorem begin_raw (l g : Nat) (own : Nat → Nat) (c0 c1 : Value) (ep window room e : Int) (passive : Bool) (w : World) (hog : own g = 10 * l)
    (hb : Blk w g 108 #[c0, c1, .int .i64 ep, .int .i64 window, .int .i64 room, .bool passive]) :
    Calls Try.prog 63 #[.pointer (some ⟨g, 0, none⟩), .int .i64 e] w (BeginOk l own w g (Lnk.new e window room passive)) := by
  have h2 : w.cell? ⟨g, 2, none⟩ = some (.int .i64 ep) := hb.cell 2
  have f2 := hb.free 2
  have Hb := Lib.hid hb; clear hb
  have Hog := Lib.hid hog; clear hog
  have he : (min (max e 0) 1099511627776 : Int) = (epochC e : Int) := by unfold epochC clampI; (repeat' split) <;> omega
  go_enter Try.func63, Try.ntmps63
  go_wp2_with fail
  clear h2 f2 he
  generalize hW : w.setCell _ _ = W
  have hbW : Blk W g 108 #[c0, c1, .int .i64 (epochC e), .int .i64 window, .int .i64 room, .bool passive] := by rw [← hW]; simpa using Hb.out.set_ 2 (.int .i64 (epochC e))
  have hstW : StepG l w own W own := by rw [← hW]; exact ((Step.refl (10 * l) w own).setCell Hog.out _).toG (by omega)
  have HW := Lib.hid hW; clear hW
  have k3 : W.drew.cell? ⟨g, 3, none⟩ = some (.int .i64 window) := hbW.cell 3
  have k4 : W.drew.cell? ⟨g, 4, none⟩ = some (.int .i64 room) := hbW.cell 4
  have HbW := Lib.hid hbW; clear hbW
  have HstW := Lib.hid hstW; clear hstW
  go_region_held3 (fun w' => w'.cell? ⟨g, 3, none⟩ = some (.int .i64 window) ∧ w'.cell? ⟨g, 4, none⟩ = some (.int .i64 room)) (first | (go_keep; done) | (constructor <;> assumption))
   (first
    | (go_at_call 18
       refine (snd_new (10 * l + 1) own window 1125899906842624 W.drew).mono ?_
       rintro e w1 ⟨rfl, own1, st1, hs1⟩
       have q1 := st1.other (j := 10 * l) (by omega) HbW.out.drew.lt Hog.out
       have hb1 := HbW.out.drew.of_eq q1.1
       have k31 : w1.cell? ⟨g, 3, none⟩ = some (.int .i64 window) := hb1.cell 3
       have k41 : w1.cell? ⟨g, 4, none⟩ = some (.int .i64 room) := hb1.cell 4
       have Hb1 := Lib.hid hb1
       have Hq1 := Lib.hid q1.2
       clear hb1 q1)
    | (go_at_call 26
       refine (rcv_new (10 * l + 2) own1 room w1).mono ?_
       rintro e w2 ⟨rfl, own2, st2, hr2⟩
       have q2 := st2.other (j := 10 * l) (by omega) Hb1.out.lt Hq1.out
       have hb2 := Hb1.out.of_eq q2.1
       have k02 : w2.cell? ⟨g, 0, none⟩ = some c0 := hb2.cell 0
       have k12 : w2.cell? ⟨g, 1, none⟩ = some c1 := hb2.cell 1
       have k32 : w2.cell? ⟨g, 3, none⟩ = some (.int .i64 window) := hb2.cell 3
       have k42 : w2.cell? ⟨g, 4, none⟩ = some (.int .i64 room) := hb2.cell 4
       have hb3 := (hb2.set_ 0 (.pointer (some ⟨W.heap.size, 0, none⟩))).set_ 1 (.pointer (some ⟨w1.heap.size, 0, none⟩))
       have k33 : ((w2.setCell ⟨g, 0, none⟩ (.pointer (some ⟨W.heap.size, 0, none⟩))).setCell ⟨g, 1, none⟩ (.pointer (some ⟨w1.heap.size, 0, none⟩))).cell? ⟨g, 3, none⟩ = some (.int .i64 window) := hb3.cell 3
       have k43 : ((w2.setCell ⟨g, 0, none⟩ (.pointer (some ⟨W.heap.size, 0, none⟩))).setCell ⟨g, 1, none⟩ (.pointer (some ⟨w1.heap.size, 0, none⟩))).cell? ⟨g, 4, none⟩ = some (.int .i64 room) := hb3.cell 4
       clear hb3
       have f02 := hb2.free 0
       have f12 := hb2.free 1
       have Hb2 := Lib.hid hb2
       have Hq2 := Lib.hid q2.2
       clear hb2 q2))
  have st12 : StepG l w own w2 own2 := (HstW.out.drewN 1).trans ((st1.toG (by omega)).trans (st2.toG (by omega)))
  refine bodyPost_end (results_none rfl _ _ _) rfl ?_
  exact begin_fin st12 Hq2.out Hb2.out (hs1.other st2 (by omega)) hr2

theorem lnk_new (l : Nat) (own : Nat → Nat) (e window room : Int) (passive : Bool) (w : World) :
    Calls Try.prog 44 #[.int .i64 e, .int .i64 window, .int .i64 room, .bool passive] w (LnkRet l own w w.heap.size (.pointer (some ⟨w.heap.size, 0, none⟩)) (Lnk.new e window room passive)) := by
  have hb : Blk (w.alloc (.cells #[.pointer none, .pointer none, .int .i64 0, .int .i64 window, .int .i64 room, .bool passive] 108)) w.heap.size 108 #[.pointer none, .pointer none, .int .i64 0, .int .i64 window, .int .i64 room, .bool passive] := Blk.new w 108 _
  have st0 : StepG l w own (w.alloc (.cells #[.pointer none, .pointer none, .int .i64 0, .int .i64 window, .int .i64 room, .bool passive] 108)) (give own w.heap.size (10 * l)) := (((Step.refl (10 * l) w own).give_ (10 * l)).alloc _).toG (by omega)
  go_enter Try.func44, Try.ntmps44
  go_wp2_with fail
  refine (begin_raw l w.heap.size (give own w.heap.size (10 * l)) _ _ _ window room e passive _ (give_new (Nat.le_refl _)) hb).mono ?_
  rintro e2 w1 ⟨rfl, own1, st1, h1⟩
  go_wp2
  go_ret
  exact ⟨rfl, own1, st0.trans st1, h1⟩

def Lnk.heard (L : Lnk) (fe fs fa : Int) (fd : ByteArray) : Lnk := { L with s := L.s.ack fa, r := if fs = 0 then L.r else L.r.hear fs fd }
def Lnk.hear (L : Lnk) (fe fs fa : Int) (fd : ByteArray) : Lnk :=
  if fe < (L.epoch : Int) then L else if (L.epoch : Int) < fe then (if L.passive then (Lnk.new fe L.window L.room L.passive).heard fe fs fa fd else L) else L.heard fe fs fa fd
def Lnk.anew (L : Lnk) (fe : Int) : Bool := decide ((L.epoch : Int) < fe) && L.passive

set_option maxHeartbeats 4000000 in
set_option maxRecDepth 10000 in
theorem lnk_hear {w : World} {own : Nat → Nat} {l g : Nat} {L : Lnk} (h : LnkAt w own l g L) (hl : l ≠ 0) (fe fs fa : Int) (fd : ByteArray) (hk : L.r.acked ≤ 1125899906842624) :
    Calls Try.prog 50 #[.pointer (some ⟨g, 0, none⟩), .agg #[.int .i64 fe, .int .i64 fs, .int .i64 fa, .string fd]] w (LnkRet l own w g (.bool (L.anew fe)) (L.hear fe fs fa fd)) := by
  have h' := h.grown (b0 := w.heap.size) (j := 9) (World.grownBy_alloc w (.cells #[.int .i64 fe, .int .i64 fs, .int .i64 fa, .string fd] 78) none) (Nat.le_refl _)
  have hf : Blk (w.alloc (.cells #[.int .i64 fe, .int .i64 fs, .int .i64 fa, .string fd] 78)) w.heap.size 78 #[.int .i64 fe, .int .i64 fs, .int .i64 fa, .string fd] := Blk.new w 78 _
  have hof : give own w.heap.size 9 w.heap.size = 9 := give_new (Nat.le_refl _)
  have st0 : StepG l w own (w.alloc (.cells #[.int .i64 fe, .int .i64 fs, .int .i64 fa, .string fd] 78)) (give own w.heap.size 9) := by
    have st : Step (10 * l) w own (w.alloc (.cells #[.int .i64 fe, .int .i64 fs, .int .i64 fa, .string fd] 78)) (give own w.heap.size 9) := ((Step.refl (10 * l) w own).give_ 9).alloc _
    exact st.toG (by omega)
  go_enter Try.func50, Try.ntmps50
  go_wp2_with fail
  generalize w.alloc (.cells #[.int .i64 fe, .int .i64 fs, .int .i64 fa, .string fd] 78) = W at h' hf st0 ⊢
  generalize w.heap.size = bf at h' hf hof st0 ⊢
  generalize give own bf 9 = own0 at h' hof st0
  clear h
  obtain ⟨ho, he, gs, gr, hb, hs, hr⟩ := h'
  have q0 : W.cell? ⟨bf, 0, none⟩ = some (.int .i64 fe) := hf.cell 0
  have q1 : W.cell? ⟨bf, 1, none⟩ = some (.int .i64 fs) := hf.cell 1
  have q2 : W.cell? ⟨bf, 2, none⟩ = some (.int .i64 fa) := hf.cell 2
  have q3 : W.cell? ⟨bf, 3, none⟩ = some (.string fd) := hf.cell 3
  have c0 : W.cell? ⟨g, 0, none⟩ = some (.pointer (some ⟨gs, 0, none⟩)) := hb.cell 0
  have c1 : W.cell? ⟨g, 1, none⟩ = some (.pointer (some ⟨gr, 0, none⟩)) := hb.cell 1
  have c2 : W.cell? ⟨g, 2, none⟩ = some (.int .i64 (L.epoch : Int)) := hb.cell 2
  have c5 : W.cell? ⟨g, 5, none⟩ = some (.bool L.passive) := hb.cell 5
  have Hb := Lib.hid hb; clear hb
  have Hf := Lib.hid hf; clear hf
  go_quiet (fail)
  go_wp2_with fail
  by_cases h1 : fe < (L.epoch : Int)
  · have hd1 : decide (fe < (L.epoch : Int)) = true := by simpa using h1
    have hd2 : decide ((L.epoch : Int) < fe) = false := by simp; omega
    go_quiet (fail)
    go_wp2
    go_ret
    have e1 : L.hear fe fs fa fd = L := by unfold Lnk.hear; rw [if_pos h1]
    have e2 : L.anew fe = false := by unfold Lnk.anew; rw [hd2]; rfl
    rw [e1, e2]
    exact ⟨rfl, own0, (st0.drewN _).drewN _, ho, he, gs, gr, Hb.out, hs, hr⟩
  · by_cases h2 : (L.epoch : Int) < fe
    · have hd1 : decide (fe < (L.epoch : Int)) = false := by simp; omega
      have hd2 : decide ((L.epoch : Int) < fe) = true := by simpa using h2
      cases hp : L.passive with
      | false =>
        rw [hp] at c5
        have e1 : L.hear fe fs fa fd = L := by unfold Lnk.hear; rw [if_neg h1, if_pos h2, if_neg (by simp [hp])]
        have e2 : L.anew fe = false := by unfold Lnk.anew; rw [hd2, hp]; rfl
        have E1 := Lib.hid e1; clear e1
        have E2 := Lib.hid e2; clear e2
        go_quiet (fail)
        go_wp2
        go_ret
        rw [E1.out, E2.out]
        exact ⟨rfl, own0, st0.drewN _, ho, he, gs, gr, Hb.out, hs, hr⟩
      | true =>
        rw [hp] at c5
        have e1 : L.hear fe fs fa fd = (Lnk.new fe L.window L.room L.passive).heard fe fs fa fd := by unfold Lnk.hear; rw [if_neg h1, if_pos h2, if_pos hp]
        have e2 : L.anew fe = true := by unfold Lnk.anew; rw [hd2, hp]; rfl
        have E1 := Lib.hid e1; clear e1
        have E2 := Lib.hid e2; clear e2
        go_quiet (fail)
        generalize hW2 : (W.drewN _).drewN _ = W2
        have st2 : StepG l w own W2 own0 := by rw [← hW2]; exact (st0.drewN _).drewN _
        have hb2 : Blk W2 g 108 #[.pointer (some ⟨gs, 0, none⟩), .pointer (some ⟨gr, 0, none⟩), .int .i64 (L.epoch : Int), .int .i64 L.window, .int .i64 L.room, .bool L.passive] := by rw [← hW2]; exact Hb.out
        have hf2 : Blk W2 bf 78 #[.int .i64 fe, .int .i64 fs, .int .i64 fa, .string fd] := by rw [← hW2]; exact Hf.out
        clear hW2 q0 q1 q2 q3 c0 c1 c2 c5 Hb Hf hs hr st0
        have q0 : W2.cell? ⟨bf, 0, none⟩ = some (.int .i64 fe) := hf2.cell 0
        have Hb2 := Lib.hid hb2; clear hb2
        have Hf2 := Lib.hid hf2; clear hf2
        go_wp2_with fail
        refine (begin_raw l g own0 _ _ _ L.window L.room fe L.passive W2 ho Hb2.out).mono ?_
        rintro e W3 ⟨rfl, own3, stb, hL⟩
        have st3 := st2.trans stb
        have r3 := stb.other (j := 9) (by omega) Hf2.out.lt hof
        have Hf3 := Lib.hid (Hf2.out.of_eq r3.1)
        have hof3 := r3.2
        clear st2 stb q0 Hb2 Hf2 r3 ho hof he gs gr
        obtain ⟨ho3, he3, gs, gr, hb3, hs3, hr3⟩ := hL
        have Hb3 := Lib.hid hb3; clear hb3
        have hk3 : (Lnk.new fe L.window L.room L.passive).r.acked ≤ 1125899906842624 := Nat.zero_le _
        go_wp2_with fail
        have c0 : W3.drew.cell? ⟨g, 0, none⟩ = some (.pointer (some ⟨gs, 0, none⟩)) := Hb3.out.cell 0
        have c1 : W3.drew.cell? ⟨g, 1, none⟩ = some (.pointer (some ⟨gr, 0, none⟩)) := Hb3.out.cell 1
        have q2 : W3.drew.cell? ⟨bf, 2, none⟩ = some (.int .i64 fa) := Hf3.out.cell 2
        have q0 := c0
        have q1 := c0
        have q3 := c0
        go_region_held3 (fun w' => w'.cell? ⟨g, 0, none⟩ = some (.pointer (some ⟨gs, 0, none⟩)) ∧ w'.cell? ⟨bf, 2, none⟩ = some (.int .i64 fa)) (first | (go_keep; done) | (constructor <;> assumption))
         ((go_at_call 22
           refine (snd_ack_is hs3.drew fa _ _ rfl rfl).mono ?_
           rintro e w4 ⟨rfl, own4, st4, hs4⟩
           have p4 := st4.other (j := 10 * l) (by omega) Hb3.out.drew.lt ho3
           have r4 := st4.other (j := 9) (by omega) Hf3.out.drew.lt hof3
           have hb4 := Hb3.out.drew.of_eq p4.1
           have hf4 := Hf3.out.drew.of_eq r4.1
           have c04 : w4.cell? ⟨g, 0, none⟩ = some (.pointer (some ⟨gs, 0, none⟩)) := hb4.cell 0
           have q24 : w4.cell? ⟨bf, 2, none⟩ = some (.int .i64 fa) := hf4.cell 2
           have Hb4 := Lib.hid hb4
           have Hf4 := Lib.hid hf4
           clear hb4 hf4))
        have hr4 := hr3.drew.other st4 (by omega)
        have st04 := (st3.drewN 1).step st4 (by omega)
        clear c0 c1 c04 q24 q2 q0 q1 q3 hs3 hr3 Hb3 Hf3 st3 st4
        have c1 : w4.cell? ⟨g, 1, none⟩ = some (.pointer (some ⟨gr, 0, none⟩)) := Hb4.out.cell 1
        have q1 : w4.cell? ⟨bf, 1, none⟩ = some (.int .i64 fs) := Hf4.out.cell 1
        have q3 : w4.cell? ⟨bf, 3, none⟩ = some (.string fd) := Hf4.out.cell 3
        by_cases hfs : fs = 0
        · have hne : (fs != 0) = false := by simpa using hfs
          go_wp2
          go_ret
          rw [E2.out]
          refine ⟨rfl, own4, st04, ?_⟩
          rw [E1.out]
          refine ⟨p4.2, he3, gs, gr, Hb4.out, hs4, ?_⟩
          simp only [Lnk.heard, if_pos hfs]
          exact hr4
        · have hne : (fs != 0) = true := by simpa using hfs
          go_wp2_with fail
          go_region_held3 (fun w' => w'.cell? ⟨g, 1, none⟩ = some (.pointer (some ⟨gr, 0, none⟩)) ∧ w'.cell? ⟨bf, 1, none⟩ = some (.int .i64 fs) ∧ w'.cell? ⟨bf, 3, none⟩ = some (.string fd)) (first | (go_keep; done) | (refine ⟨?_, ?_, ?_⟩ <;> assumption))
           ((go_at_call 30
             refine (rcv_hear_is hr4.drew fs fd _ _ hk3 rfl rfl).mono ?_
             rintro e w5 ⟨rfl, own5, st5, hr5⟩
             have p5 := st5.other (j := 10 * l) (by omega) Hb4.out.drew.lt p4.2
             have r5 := st5.other (j := 9) (by omega) Hf4.out.drew.lt r4.2
             have hb5 := Hb4.out.drew.of_eq p5.1
             have hf5 := Hf4.out.drew.of_eq r5.1
             have c15 : w5.cell? ⟨g, 1, none⟩ = some (.pointer (some ⟨gr, 0, none⟩)) := hb5.cell 1
             have q15 : w5.cell? ⟨bf, 1, none⟩ = some (.int .i64 fs) := hf5.cell 1
             have q35 : w5.cell? ⟨bf, 3, none⟩ = some (.string fd) := hf5.cell 3
             have Hb5 := Lib.hid hb5
             clear hb5 hf5))
          have hs5 := hs4.drew.other st5 (by omega)
          have st05 := (st04.drewN 1).step st5 (by omega)
          clear c15 q15 q35
          go_wp2
          go_ret
          rw [E2.out]
          refine ⟨rfl, own5, st05, ?_⟩
          rw [E1.out]
          refine ⟨p5.2, he3, gs, gr, Hb5.out, hs5, ?_⟩
          simp only [Lnk.heard, if_neg hfs]
          exact hr5
    · have hee : fe = (L.epoch : Int) := by omega
      have hd1 : decide (fe < (L.epoch : Int)) = false := by simp; omega
      have hd2 : decide ((L.epoch : Int) < fe) = false := by simp; omega
      have e1 : L.hear fe fs fa fd = L.heard fe fs fa fd := by unfold Lnk.hear; rw [if_neg h1, if_neg h2]
      have e2 : L.anew fe = false := by unfold Lnk.anew; rw [hd2]; rfl
      have E1 := Lib.hid e1; clear e1
      have E2 := Lib.hid e2; clear e2
      go_quiet (fail)
      go_wp2_with fail
      generalize hW3 : W.drewN _ = W3
      have st3 : StepG l w own W3 own0 := by rw [← hW3]; exact st0.drewN _
      have hb3 : Blk W3 g 108 #[.pointer (some ⟨gs, 0, none⟩), .pointer (some ⟨gr, 0, none⟩), .int .i64 (L.epoch : Int), .int .i64 L.window, .int .i64 L.room, .bool L.passive] := by rw [← hW3]; exact Hb.out
      have Hb3 := Lib.hid hb3; clear hb3
      have hf3 : Blk W3 bf 78 #[.int .i64 fe, .int .i64 fs, .int .i64 fa, .string fd] := by rw [← hW3]; exact Hf.out
      have Hf3 := Lib.hid hf3; clear hf3
      have hs3 : SndAt W3 own0 (10 * l + 1) gs L.s := by rw [← hW3]; exact hs.drewN _
      have hr3 : RcvAt W3 own0 (10 * l + 2) gr L.r := by rw [← hW3]; exact hr.drewN _
      have ho3 := ho
      have hof3 := hof
      have he3 := he
      have hk3 := hk
      clear hW3 q0 q1 q2 q3 c0 c1 c2 c5 Hb Hf hs hr st0
      have c0 : W3.drew.cell? ⟨g, 0, none⟩ = some (.pointer (some ⟨gs, 0, none⟩)) := Hb3.out.cell 0
      have c1 : W3.drew.cell? ⟨g, 1, none⟩ = some (.pointer (some ⟨gr, 0, none⟩)) := Hb3.out.cell 1
      have q2 : W3.drew.cell? ⟨bf, 2, none⟩ = some (.int .i64 fa) := Hf3.out.cell 2
      have q0 := c0
      have q1 := c0
      have q3 := c0
      go_region_held3 (fun w' => w'.cell? ⟨g, 0, none⟩ = some (.pointer (some ⟨gs, 0, none⟩)) ∧ w'.cell? ⟨bf, 2, none⟩ = some (.int .i64 fa)) (first | (go_keep; done) | (constructor <;> assumption))
       ((go_at_call 22
         refine (snd_ack_is hs3.drew fa _ _ rfl rfl).mono ?_
         rintro e w4 ⟨rfl, own4, st4, hs4⟩
         have p4 := st4.other (j := 10 * l) (by omega) Hb3.out.drew.lt ho3
         have r4 := st4.other (j := 9) (by omega) Hf3.out.drew.lt hof3
         have hb4 := Hb3.out.drew.of_eq p4.1
         have hf4 := Hf3.out.drew.of_eq r4.1
         have c04 : w4.cell? ⟨g, 0, none⟩ = some (.pointer (some ⟨gs, 0, none⟩)) := hb4.cell 0
         have q24 : w4.cell? ⟨bf, 2, none⟩ = some (.int .i64 fa) := hf4.cell 2
         have Hb4 := Lib.hid hb4
         have Hf4 := Lib.hid hf4
         clear hb4 hf4))
      have hr4 := hr3.drew.other st4 (by omega)
      have st04 := (st3.drewN 1).step st4 (by omega)
      clear c0 c1 c04 q24 q2 q0 q1 q3 hs3 hr3 Hb3 Hf3 st3 st4
      have c1 : w4.cell? ⟨g, 1, none⟩ = some (.pointer (some ⟨gr, 0, none⟩)) := Hb4.out.cell 1
      have q1 : w4.cell? ⟨bf, 1, none⟩ = some (.int .i64 fs) := Hf4.out.cell 1
      have q3 : w4.cell? ⟨bf, 3, none⟩ = some (.string fd) := Hf4.out.cell 3
      by_cases hfs : fs = 0
      · have hne : (fs != 0) = false := by simpa using hfs
        go_wp2
        go_ret
        rw [E2.out]
        refine ⟨rfl, own4, st04, ?_⟩
        rw [E1.out]
        refine ⟨p4.2, he3, gs, gr, Hb4.out, hs4, ?_⟩
        simp only [Lnk.heard, if_pos hfs]
        exact hr4
      · have hne : (fs != 0) = true := by simpa using hfs
        go_wp2_with fail
        go_region_held3 (fun w' => w'.cell? ⟨g, 1, none⟩ = some (.pointer (some ⟨gr, 0, none⟩)) ∧ w'.cell? ⟨bf, 1, none⟩ = some (.int .i64 fs) ∧ w'.cell? ⟨bf, 3, none⟩ = some (.string fd)) (first | (go_keep; done) | (refine ⟨?_, ?_, ?_⟩ <;> assumption))
         ((go_at_call 30
           refine (rcv_hear_is hr4.drew fs fd _ _ hk3 rfl rfl).mono ?_
           rintro e w5 ⟨rfl, own5, st5, hr5⟩
           have p5 := st5.other (j := 10 * l) (by omega) Hb4.out.drew.lt p4.2
           have r5 := st5.other (j := 9) (by omega) Hf4.out.drew.lt r4.2
           have hb5 := Hb4.out.drew.of_eq p5.1
           have hf5 := Hf4.out.drew.of_eq r5.1
           have c15 : w5.cell? ⟨g, 1, none⟩ = some (.pointer (some ⟨gr, 0, none⟩)) := hb5.cell 1
           have q15 : w5.cell? ⟨bf, 1, none⟩ = some (.int .i64 fs) := hf5.cell 1
           have q35 : w5.cell? ⟨bf, 3, none⟩ = some (.string fd) := hf5.cell 3
           have Hb5 := Lib.hid hb5
           clear hb5 hf5))
        have hs5 := hs4.drew.other st5 (by omega)
        have st05 := (st04.drewN 1).step st5 (by omega)
        clear c15 q15 q35
        go_wp2
        go_ret
        rw [E2.out]
        refine ⟨rfl, own5, st05, ?_⟩
        rw [E1.out]
        refine ⟨p5.2, he3, gs, gr, Hb5.out, hs5, ?_⟩
        simp only [Lnk.heard, if_neg hfs]
        exact hr5
end Go.Proofs.Ytjloipjchcaloaa
