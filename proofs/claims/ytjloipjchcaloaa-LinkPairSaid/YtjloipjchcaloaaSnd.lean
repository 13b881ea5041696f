/- The sender (layer 10) as an abstract state: what New, Offer, Ack, Pieces, Unacked, Sent and Copy make of it and hand back, for every state. -/
import Derived.Test.YtjloipjchcaloaaSndRaw
namespace Go.Proofs.Ytjloipjchcaloaa
open Go.RowKit
set_option linter.unusedVariables false

theorem offer_full (g : Nat) (A : Option Addr) (n c : Nat) (win sent last : Int) (w : World) (d : ByteArray) (hw : ((n : Int) == win) = true)
    (hb : Blk w g 98 #[.int .i64 win, .int .i64 last, .int .i64 sent, .slice A n c]) :
    Calls Try.prog 23 #[.pointer (some ⟨g, 0, none⟩), .string d] w fun e w' => e = .returned (.tuple #[.int .i64 0, .int .i64 7]) ∧ ∃ m, w.drewN m = w' := by
  have h0 := hb.cell 0
  have h3 := hb.cell 3
  simp only [List.getElem?_toArray, List.getElem?_cons_zero, List.getElem?_cons_succ] at h0 h3
  clear hb
  go_enter Try.func23, Try.ntmps23
  go_wp2
  go_quiet (fail)
  go_wp2
  go_ret2
  exact ⟨rfl, _, rfl⟩

theorem offer_exh (g : Nat) (A : Option Addr) (n c : Nat) (win sent last : Int) (w : World) (d : ByteArray) (hw : ((n : Int) == win) = false) (hl : (sent == last) = true)
    (hb : Blk w g 98 #[.int .i64 win, .int .i64 last, .int .i64 sent, .slice A n c]) :
    Calls Try.prog 23 #[.pointer (some ⟨g, 0, none⟩), .string d] w fun e w' => e = .returned (.tuple #[.int .i64 0, .int .i64 8]) ∧ ∃ m, w.drewN m = w' := by
  have h0 := hb.cell 0
  have h1 := hb.cell 1
  have h2 := hb.cell 2
  have h3 := hb.cell 3
  simp only [List.getElem?_toArray, List.getElem?_cons_zero, List.getElem?_cons_succ] at h0 h1 h2 h3
  clear hb
  go_enter Try.func23, Try.ntmps23
  go_wp2
  go_quiet (fail)
  go_wp2
  go_quiet (fail)
  go_wp2
  go_ret2
  exact ⟨rfl, _, (World.drewN_drewN _ _ _).symm⟩

/-! ### The state -/

structure Snd where
  win : Nat
  last : Nat
  sent : Nat
  ds : List ByteArray

def Snd.Ok (s : Snd) : Prop := 1 ≤ s.win ∧ s.win ≤ 16 ∧ s.last ≤ 1125899906842624 ∧ s.ds.length ≤ s.sent ∧ s.sent ≤ s.last ∧ s.ds.length ≤ s.win

def Snd.new (win last : Int) : Snd := ⟨(clampI win 1 16).toNat, (clampI last 0 1125899906842624).toNat, 0, []⟩
def Snd.offE (s : Snd) : Int := if s.ds.length = s.win then 7 else if s.sent = s.last then 8 else 0
def Snd.offN (s : Snd) : Int := if s.ds.length = s.win then 0 else if s.sent = s.last then 0 else (s.sent : Int) + 1
def Snd.off (s : Snd) (d : ByteArray) : Snd := if s.ds.length = s.win then s else if s.sent = s.last then s else { s with sent := s.sent + 1, ds := s.ds ++ [d] }
def Snd.gone (s : Snd) (n : Int) : Nat := if (s.sent : Int) < n then 0 else (n - (s.sent - s.ds.length : Nat)).toNat
def Snd.ack (s : Snd) (n : Int) : Snd := { s with ds := s.ds.drop (s.gone n) }
def Snd.cells (s : Snd) : List Value := pcs (s.sent - s.ds.length) s.ds

theorem Snd.gone_le (s : Snd) (h : s.Ok) (n : Int) : s.gone n ≤ s.ds.length := by
  unfold Snd.gone
  obtain ⟨_, _, _, h4, _, _⟩ := h
  split <;> omega

theorem Snd.new_ok (win last : Int) : (Snd.new win last).Ok := by
  simp only [Snd.new, Snd.Ok, clampI, List.length_nil]
  (repeat' split) <;> omega

theorem Snd.off_ok (s : Snd) (h : s.Ok) (d : ByteArray) : (s.off d).Ok := by
  obtain ⟨h1, h2, h3, h4, h5, h6⟩ := h
  unfold Snd.off
  split
  · exact ⟨h1, h2, h3, h4, h5, h6⟩
  · split
    · exact ⟨h1, h2, h3, h4, h5, h6⟩
    · simp only [Snd.Ok, List.length_append, List.length_cons, List.length_nil]; omega

theorem Snd.ack_ok (s : Snd) (h : s.Ok) (n : Int) : (s.ack n).Ok := by
  have := s.gone_le h n
  obtain ⟨h1, h2, h3, h4, h5, h6⟩ := h
  simp only [Snd.ack, Snd.Ok, List.length_drop]; omega

def SndAt (w : World) (own : Nat → Nat) (i g : Nat) (s : Snd) : Prop :=
  own g = i ∧ s.Ok ∧ ∃ A cap, Blk w g 98 #[.int .i64 (s.win : Int), .int .i64 (s.last : Int), .int .i64 (s.sent : Int), .slice A s.ds.length cap] ∧ s.ds.length ≤ cap ∧
    Row w own i 30 2 A s.ds.length s.cells

section
variable {w w' : World} {own own' : Nat → Nat} {i g : Nat} {s : Snd}
theorem SndAt.keep (h : SndAt w own i g s) (hk : ∀ k, k < w.heap.size → own k = i → w'.heap[k]? = w.heap[k]? ∧ own' k = i) : SndAt w' own' i g s := by
  obtain ⟨ho, hok, A, cap, hb, hc, hr⟩ := h
  have := hk g hb.lt ho
  exact ⟨this.2, hok, A, cap, hb.of_eq this.1, hc, hr.keep hk⟩
theorem SndAt.other {j : Nat} (h : SndAt w own i g s) (st : Step j w own w' own') (hij : i ≠ j) : SndAt w' own' i g s := h.keep fun k hk ho => st.other hij hk ho
theorem SndAt.grown {b0 j : Nat} (h : SndAt w own i g s) (hg : w.grownBy w' none) (hb0 : w.heap.size ≤ b0) : SndAt w' (give own b0 j) i g s :=
  h.keep fun k hk ho => ⟨hg.block k hk (by simp), by rw [give_old (by omega)]; exact ho⟩
theorem SndAt.drewN (h : SndAt w own i g s) (n : Nat) : SndAt (w.drewN n) own i g s := h
theorem SndAt.drew (h : SndAt w own i g s) : SndAt w.drew own i g s := h
theorem SndAt.ok (h : SndAt w own i g s) : s.Ok := h.2.1
theorem SndAt.lt (h : SndAt w own i g s) : g < w.heap.size := by obtain ⟨_, _, _, _, hb, _⟩ := h; exact hb.lt
theorem SndAt.owner (h : SndAt w own i g s) : own g = i := h.1
end

/-- A call hands back v, i's blocks alone have changed, and the sender stands as s. -/
def SndRet (i : Nat) (own : Nat → Nat) (w : World) (g : Nat) (v : Value) (s : Snd) (e : Ending) (w' : World) : Prop :=
  e = .returned v ∧ ∃ own', Step i w own w' own' ∧ SndAt w' own' i g s

theorem snd_new (i : Nat) (own : Nat → Nat) (win last : Int) (w : World) :
    Calls Try.prog 18 #[.int .i64 win, .int .i64 last] w (SndRet i own w w.heap.size (.pointer (some ⟨w.heap.size, 0, none⟩)) (Snd.new win last)) := by
  refine (new_raw win last w).mono ?_
  rintro e w' ⟨rfl, rfl⟩
  refine ⟨rfl, give own w.heap.size i, ((Step.refl i w own).give_ i).alloc _, give_new (Nat.le_refl _), Snd.new_ok win last, none, 0, ?_, by simp [Snd.new], Row.nil _ _ _ _ _ _⟩
  have e1 : (((Snd.new win last).win : Nat) : Int) = clampI win 1 16 := by simp only [Snd.new, clampI]; (repeat' split) <;> omega
  have e2 : (((Snd.new win last).last : Nat) : Int) = clampI last 0 1125899906842624 := by simp only [Snd.new, clampI]; (repeat' split) <;> omega
  rw [e1, e2]
  exact Blk.new w 98 _

theorem snd_offer {i g : Nat} {own : Nat → Nat} {s : Snd} {w : World} (h : SndAt w own i g s) (d : ByteArray) :
    Calls Try.prog 23 #[.pointer (some ⟨g, 0, none⟩), .string d] w (SndRet i own w g (.tuple #[.int .i64 s.offN, .int .i64 s.offE]) (s.off d)) := by
  have h' := h
  obtain ⟨ho, ⟨o1, o2, o3, o4, o5, o6⟩, A, cap, hb, hc, hr⟩ := h
  by_cases hf : s.ds.length = s.win
  · refine (offer_full g A s.ds.length cap s.win s.sent s.last w d (by simp [hf]) hb).mono ?_
    rintro e w' ⟨rfl, m, rfl⟩
    refine ⟨by simp [Snd.offN, Snd.offE, hf], own, (Step.refl i w own).drewN m, ?_⟩
    rw [Snd.off, if_pos hf]
    exact h'.drewN m
  · have hf' : (((s.ds.length : Nat) : Int) == (s.win : Int)) = false := by simp; omega
    by_cases hl : s.sent = s.last
    · refine (offer_exh g A s.ds.length cap s.win s.sent s.last w d hf' (by simp [hl]) hb).mono ?_
      rintro e w' ⟨rfl, m, rfl⟩
      refine ⟨by simp only [Snd.offN, Snd.offE]; rw [if_neg hf, if_neg hf, if_pos hl, if_pos hl], own, (Step.refl i w own).drewN m, ?_⟩
      rw [Snd.off, if_neg hf, if_pos hl]
      exact h'.drewN m
    · have hl' : ((s.sent : Int) == (s.last : Int)) = false := by simp; omega
      refine (offer_raw i g own A s.ds.length cap s.win s.sent s.last w d s.cells hf' hl' (by omega) (by omega) (by omega) hc hb hr.rd ?_ ho).mono ?_
      · intro b off hz hA e
        subst e
        obtain ⟨b', off', cs, e, _, hb', _⟩ := hr.2 hz
        rw [hA] at e
        injection e with e
        injection e with e1 e2
        subst e1
        exact hb.ne_ hb' (by decide) rfl
      · rintro e w' ⟨rfl, own', st, hog, gb, cap', cs, hgb, hne, hb1, hb2, ht, hcap⟩
        have e1 : s.offN = (s.sent : Int) + 1 := by unfold Snd.offN; rw [if_neg hf, if_neg hl]
        have e2 : s.offE = 0 := by unfold Snd.offE; rw [if_neg hf, if_neg hl]
        have e3 : s.off d = { s with sent := s.sent + 1, ds := s.ds ++ [d] } := by unfold Snd.off; rw [if_neg hf, if_neg hl]
        have e4 : (s.off d).cells = s.cells ++ [.int .i64 ((s.sent : Int) + 1), .string d] := by
          rw [e3]
          simp only [Snd.cells, List.length_append, List.length_cons, List.length_nil]
          rw [show s.sent + 1 - (s.ds.length + (0 + 1)) = s.sent - s.ds.length by omega, pcs_snoc, show s.sent - s.ds.length + s.ds.length + 1 = s.sent + 1 by omega]
          rfl
        refine ⟨by rw [e1, e2], own', st, hog, Snd.off_ok s h'.ok d, some ⟨gb, 0, none⟩, cap', ?_, ?_, ?_, ?_⟩
        · rw [e3]; simpa using hb1
        · rw [e3]; simpa using hcap
        · rw [e4, e3]; simp [Snd.cells, pcs_length]; omega
        · intro _
          refine ⟨gb, 0, cs, rfl, hgb, hb2, fun j u hu => ?_⟩
          rw [e4, ← ht, List.getElem?_take] at hu
          split at hu
          · simpa using hu
          · cases hu

theorem snd_ack {i g : Nat} {own : Nat → Nat} {s : Snd} {w : World} (h : SndAt w own i g s) (n : Int) :
    Calls Try.prog 22 #[.pointer (some ⟨g, 0, none⟩), .int .i64 n] w (SndRet i own w g (.int .i64 (s.gone n)) (s.ack n)) := by
  have h' := h
  obtain ⟨ho, ⟨o1, o2, o3, o4, o5, o6⟩, A, cap, hb, hc, hr⟩ := h
  have hgl := s.gone_le h'.ok n
  have fin : ∀ (e : Ending) (w' : World), AckOk i g own s.ds.length (s.gone n) s.win s.sent s.last w s.cells e w' → SndRet i own w g (.int .i64 (s.gone n)) (s.ack n) e w' := by
    rintro e w' ⟨rfl, st, A', cap', hb1, hc1, hr1⟩
    refine ⟨rfl, own, st, ?_, Snd.ack_ok s h'.ok n, A', cap', ?_, ?_, ?_⟩
    · exact ho
    · simp only [Snd.ack, List.length_drop]; exact hb1
    · simp only [Snd.ack, List.length_drop]; exact hc1
    · have e4 : (s.ack n).cells = s.cells.drop (s.gone n * 2) := by
        simp only [Snd.cells, Snd.ack, List.length_drop]
        rw [pcs_drop]
        congr 1; omega
      rw [e4]; simp only [Snd.ack, List.length_drop]; exact hr1
  by_cases hm : (s.sent : Int) < n
  · have hg0 : s.gone n = 0 := by unfold Snd.gone; rw [if_pos hm]
    refine (ack_more i g own A s.ds.length cap s.win s.sent s.last n w hm hb).mono ?_
    rintro e w' ⟨rfl, rfl⟩
    refine ⟨by rw [hg0]; rfl, own, Step.refl _ _ _, ?_⟩
    have : s.ack n = s := by unfold Snd.ack; rw [hg0]; rfl
    rw [this]; exact h'
  · have hge : s.gone n = (n - ((s.sent - s.ds.length : Nat) : Int)).toNat := by unfold Snd.gone; rw [if_neg hm]
    rcases Nat.eq_zero_or_pos s.ds.length with hz | hz
    · have hg0 : s.gone n = 0 := by omega
      have hds : s.ds = [] := List.eq_nil_of_length_eq_zero hz
      have hcs : s.cells = [] := by simp [Snd.cells, hds, pcs]
      rw [hz, hg0, hcs] at fin
      rw [hz] at hb
      refine Calls.mono ?_ (fun e w' hq => by rw [hg0]; exact fin e w' hq)
      exact ack_none i g own A cap s.win s.sent s.last n w (by omega) hb ho
    · obtain ⟨b, off, cs, rfl, hob, hbc, hx⟩ := hr.2 hz
      have hfit := hr.fits (by omega) rfl hbc hz
      exact (ack_some i g b off own s.ds.length cap (s.gone n) (s.sent - s.ds.length) s.win s.sent s.last n w (by omega) (by omega) hgl (by omega) hz hc s.cells hr.1 (by omega)
        (fun j hj => pcs_seq j _ _ hj) hb cs hbc hx hfit ho hob).mono fin

theorem snd_unacked {i g : Nat} {own : Nat → Nat} {s : Snd} {w : World} (h : SndAt w own i g s) :
    Calls Try.prog 20 #[.pointer (some ⟨g, 0, none⟩)] w fun e w' => e = .returned (.int .i64 s.ds.length) ∧ w = w' := by
  obtain ⟨ho, _, A, cap, hb, hc, hr⟩ := h
  exact unacked_raw g A _ cap _ _ _ w hb

theorem snd_sent {i g : Nat} {own : Nat → Nat} {s : Snd} {w : World} (h : SndAt w own i g s) :
    Calls Try.prog 25 #[.pointer (some ⟨g, 0, none⟩)] w fun e w' => e = .returned (.int .i64 s.sent) ∧ w = w' := by
  obtain ⟨ho, _, A, cap, hb, hc, hr⟩ := h
  exact sent_raw g A _ cap _ _ _ w hb

theorem snd_pieces {i g : Nat} {own : Nat → Nat} {s : Snd} {w : World} (h : SndAt w own i g s) :
    Calls Try.prog 21 #[.pointer (some ⟨g, 0, none⟩)] w (PiecesOk s.ds.length w s.cells) := by
  have hok := h.ok
  obtain ⟨ho, _, A, cap, hb, hc, hr⟩ := h
  obtain ⟨_, _, _, _, _, _⟩ := hok
  exact pieces_raw g A _ cap _ _ _ w (by omega) hb s.cells hr.rd (pcs_one _ _)

/-- Copy: a new sender that stands as the old one; the owner is the caller's to name. -/
theorem snd_copy {i g : Nat} {own : Nat → Nat} {s : Snd} {w : World} (h : SndAt w own i g s) (j : Nat) :
    Calls Try.prog 42 #[.pointer (some ⟨g, 0, none⟩)] w fun e w' => e = .returned (.pointer (some ⟨w.heap.size, 0, none⟩)) ∧
      Step j w own w' (give own w.heap.size j) ∧ SndAt w' (give own w.heap.size j) i g s ∧ SndAt w' (give own w.heap.size j) j w.heap.size s := by
  have h' := h
  have hok := h.ok
  obtain ⟨ho, _, A, cap, hb, hc, hr⟩ := h
  have hok' := hok
  obtain ⟨_, _, _, _, _, _⟩ := hok'
  refine (copy_raw g A _ cap _ _ _ w (by omega) hb s.cells hr.rd (pcs_one _ _)).mono ?_
  rintro e w' ⟨rfl, hg, A', cap', hb1, hc1, hr1⟩
  exact ⟨rfl, ((Step.refl j w own).give_ j).grown hg (by simp), h'.grown hg (Nat.le_refl _), give_new (Nat.le_refl _), hok, A', cap', hb1, hc1, hr1 own j⟩
end Go.Proofs.Ytjloipjchcaloaa
