/- The receiver (layer 11) as an abstract state: what New, Hear, Pop, Ack, Waiting and Look make of it and hand back, for every state. -/
import Derived.Test.YtjloipjchcaloaaRcvRaw
namespace Go.Proofs.Ytjloipjchcaloaa
open Go.RowKit
set_option linter.unusedVariables false

structure Rcv where
  room : Nat
  acked : Nat
  q : List ByteArray

def Rcv.Ok (s : Rcv) : Prop := 1 ≤ s.room ∧ s.room ≤ 16 ∧ s.q.length ≤ s.room ∧ s.q.length ≤ s.acked

def Rcv.new (room : Int) : Rcv := ⟨(clampR room).toNat, 0, []⟩
def Rcv.takes (s : Rcv) (seq : Int) : Bool := decide (s.q.length ≠ s.room ∧ seq = (s.acked : Int) + 1)
def Rcv.hear (s : Rcv) (seq : Int) (d : ByteArray) : Rcv := if s.takes seq then { s with acked := s.acked + 1, q := s.q ++ [d] } else s
def Rcv.popV (s : Rcv) : ByteArray := s.q.head?.getD ByteArray.empty
def Rcv.popB (s : Rcv) : Bool := !s.q.isEmpty
def Rcv.pop (s : Rcv) : Rcv := { s with q := s.q.tail }

theorem Rcv.new_ok (room : Int) : (Rcv.new room).Ok := by
  simp only [Rcv.new, Rcv.Ok, clampR, List.length_nil]
  (repeat' split) <;> omega
theorem Rcv.hear_ok (s : Rcv) (h : s.Ok) (seq : Int) (d : ByteArray) : (s.hear seq d).Ok := by
  obtain ⟨h1, h2, h3, h4⟩ := h
  unfold Rcv.hear
  split
  · rename_i ht
    simp only [Rcv.takes, decide_eq_true_eq] at ht
    simp only [Rcv.Ok, List.length_append, List.length_cons, List.length_nil]; omega
  · exact ⟨h1, h2, h3, h4⟩
theorem Rcv.pop_ok (s : Rcv) (h : s.Ok) : s.pop.Ok := by
  obtain ⟨h1, h2, h3, h4⟩ := h
  simp only [Rcv.pop, Rcv.Ok, List.length_tail]; omega

def RcvAt (w : World) (own : Nat → Nat) (i g : Nat) (s : Rcv) : Prop :=
  own g = i ∧ s.Ok ∧ ∃ (f : Nat) (ring : List ByteArray), f < 16 ∧ RBlk w g (s.room : Int) (s.acked : Int) ring (f : Int) (s.q.length : Int) ∧ ∀ k, k < s.q.length → ring[(f + k) % 16]? = s.q[k]?

section
variable {w w' : World} {own own' : Nat → Nat} {i g : Nat} {s : Rcv}
theorem RcvAt.keep (h : RcvAt w own i g s) (hk : ∀ k, k < w.heap.size → own k = i → w'.heap[k]? = w.heap[k]? ∧ own' k = i) : RcvAt w' own' i g s := by
  obtain ⟨ho, hok, f, ring, hf, hb, hx⟩ := h
  have := hk g hb.1.lt ho
  exact ⟨this.2, hok, f, ring, hf, ⟨hb.1.of_eq this.1, hb.2⟩, hx⟩
theorem RcvAt.other {j : Nat} (h : RcvAt w own i g s) (st : Step j w own w' own') (hij : i ≠ j) : RcvAt w' own' i g s := h.keep fun k hk ho => st.other hij hk ho
theorem RcvAt.grown {b0 j : Nat} (h : RcvAt w own i g s) (hg : w.grownBy w' none) (hb0 : w.heap.size ≤ b0) : RcvAt w' (give own b0 j) i g s :=
  h.keep fun k hk ho => ⟨hg.block k hk (by simp), by rw [give_old (by omega)]; exact ho⟩
theorem RcvAt.drewN (h : RcvAt w own i g s) (n : Nat) : RcvAt (w.drewN n) own i g s := h
theorem RcvAt.drew (h : RcvAt w own i g s) : RcvAt w.drew own i g s := h
theorem RcvAt.ok (h : RcvAt w own i g s) : s.Ok := h.2.1
theorem RcvAt.lt (h : RcvAt w own i g s) : g < w.heap.size := by obtain ⟨_, _, _, _, _, hb, _⟩ := h; exact hb.1.lt
end

/-- A call hands back v, i's blocks alone have changed, and the receiver stands as s. -/
def RcvRet (i : Nat) (own : Nat → Nat) (w : World) (g : Nat) (v : Value) (s : Rcv) (e : Ending) (w' : World) : Prop :=
  e = .returned v ∧ ∃ own', Step i w own w' own' ∧ RcvAt w' own' i g s

theorem rcv_new (i : Nat) (own : Nat → Nat) (room : Int) (w : World) :
    Calls Try.prog 26 #[.int .i64 room] w (RcvRet i own w w.heap.size (.pointer (some ⟨w.heap.size, 0, none⟩)) (Rcv.new room)) := by
  refine (rnew_raw room w).mono ?_
  rintro e w' ⟨rfl, rfl⟩
  have e1 : (((Rcv.new room).room : Nat) : Int) = clampR room := by simp only [Rcv.new, clampR]; (repeat' split) <;> omega
  refine ⟨rfl, give own w.heap.size i, ((Step.refl i w own).give_ i).alloc _, give_new (Nat.le_refl _), Rcv.new_ok room, 0, List.replicate 16 ByteArray.empty, by omega, ⟨?_, by simp⟩, ?_⟩
  · rw [e1]; exact Blk.new w 101 _
  · intro k hk; simp [Rcv.new] at hk

theorem rcv_hear {i g : Nat} {own : Nat → Nat} {s : Rcv} {w : World} (h : RcvAt w own i g s) (seq : Int) (d : ByteArray) (ha : s.acked ≤ 1125899906842624) :
    Calls Try.prog 30 #[.pointer (some ⟨g, 0, none⟩), .int .i64 seq, .string d] w (RcvRet i own w g (.bool (s.takes seq)) (s.hear seq d)) := by
  have h' := h
  obtain ⟨ho, ⟨o1, o2, o3, o4⟩, f, ring, hf, hb, hx⟩ := h
  by_cases hfull : s.q.length = s.room
  · have ht : s.takes seq = false := by simp [Rcv.takes, hfull]
    refine (hear_full g s.room s.q.length seq w d (by simp [hfull]) hb.c0 hb.c19).mono ?_
    rintro e w' ⟨rfl, m, rfl⟩
    refine ⟨by rw [ht], own, (Step.refl i w own).drewN m, ?_⟩
    rw [Rcv.hear, ht]
    exact h'.drewN m
  · have hf' : (((s.q.length : Nat) : Int) == (s.room : Int)) = false := by simp; omega
    by_cases hs : seq = (s.acked : Int) + 1
    · have ht : s.takes seq = true := by simp [Rcv.takes, hfull, hs]
      have hq : (s.hear seq d) = { s with acked := s.acked + 1, q := s.q ++ [d] } := by rw [Rcv.hear, ht]; rfl
      have hok := s.hear_ok h'.ok seq d
      subst hs
      refine (hear_take i g own s.room s.acked f s.q.length ring w d hb ho hf' (by omega) (by omega) (by omega) (by omega) (by omega) (by omega)).mono ?_
      rintro e w' ⟨rfl, st, hb'⟩
      have ep : (((f : Nat) : Int) + (s.q.length : Int)) % 16 = (((f + s.q.length) % 16 : Nat) : Int) := by omega
      rw [ep, Int.toNat_natCast] at hb'
      refine ⟨by rw [ht], own, st, ho, hok, f, ring.set ((f + s.q.length) % 16) d, hf, ?_, ?_⟩
      · rw [hq]; simpa using hb'
      · rw [hq]
        intro k hk
        simp only [List.length_append, List.length_cons, List.length_nil] at hk
        rcases Nat.lt_or_ge k s.q.length with h1 | h1
        · rw [List.getElem?_set_ne (by omega), hx k h1]
          simp [List.getElem?_append_left h1]
        · obtain rfl : k = s.q.length := by omega
          rw [List.getElem?_set_self (by rw [hb.2]; omega)]
          simp
    · have ht : s.takes seq = false := by simp [Rcv.takes, hs]
      refine (hear_other g s.room s.acked s.q.length seq w d hf' (by simpa using hs) (by omega) (by omega) hb.c0 hb.c1 hb.c19).mono ?_
      rintro e w' ⟨rfl, m, rfl⟩
      refine ⟨by rw [ht], own, (Step.refl i w own).drewN m, ?_⟩
      rw [Rcv.hear, ht]
      exact h'.drewN m

theorem rcv_pop {i g : Nat} {own : Nat → Nat} {s : Rcv} {w : World} (h : RcvAt w own i g s) :
    Calls Try.prog 32 #[.pointer (some ⟨g, 0, none⟩)] w (RcvRet i own w g (.tuple #[.string s.popV, .bool s.popB]) s.pop) := by
  have h' := h
  obtain ⟨ho, ⟨o1, o2, o3, o4⟩, f, ring, hf, hb, hx⟩ := h
  cases hq : s.q with
  | nil =>
    have e0 : s.pop = s := by
      cases s; simp only at hq; subst hq; rfl
    refine (pop_none g w (by have := hb.c19; rw [hq] at this; exact this)).mono ?_
    rintro e w' ⟨rfl, rfl⟩
    refine ⟨by simp [Rcv.popV, Rcv.popB, hq], own, Step.refl _ _ _, ?_⟩
    rw [e0]; exact h'
  | cons x l =>
    have hlen : s.q.length = l.length + 1 := by rw [hq]; rfl
    have hx0 := hx 0 (by omega)
    rw [Nat.add_zero, Nat.mod_eq_of_lt hf, hq] at hx0
    refine (pop_some i g own s.room s.acked s.q.length f ring x w hb ho hf hx0 (by omega) (by omega)).mono ?_
    rintro e w' ⟨rfl, st, hb'⟩
    refine ⟨by simp [Rcv.popV, Rcv.popB, hq], own, st, ho, s.pop_ok h'.ok, (f + 1) % 16, ring.set f ByteArray.empty, by omega, ?_, ?_⟩
    · have e1 : (((f : Nat) : Int) + 1) % 16 = (((f + 1) % 16 : Nat) : Int) := by omega
      rw [e1] at hb'
      have e2 : ((s.q.length : Nat) : Int) - 1 = ((s.pop.q.length : Nat) : Int) := by simp [Rcv.pop, hq]
      rw [e2] at hb'
      exact hb'
    · intro k hk
      simp only [Rcv.pop, hq, List.tail_cons] at hk ⊢
      have := hx (k + 1) (by omega)
      rw [hq, List.getElem?_cons_succ] at this
      rw [← this, List.getElem?_set_ne (by omega)]
      congr 1; omega

theorem rcv_ack {i g : Nat} {own : Nat → Nat} {s : Rcv} {w : World} (h : RcvAt w own i g s) :
    Calls Try.prog 34 #[.pointer (some ⟨g, 0, none⟩)] w fun e w' => e = .returned (.int .i64 s.acked) ∧ w = w' := by
  obtain ⟨ho, _, f, ring, hf, hb, hx⟩ := h
  exact rack_raw g _ w hb.c1

theorem rcv_waiting {i g : Nat} {own : Nat → Nat} {s : Rcv} {w : World} (h : RcvAt w own i g s) :
    Calls Try.prog 35 #[.pointer (some ⟨g, 0, none⟩)] w fun e w' => e = .returned (.int .i64 s.q.length) ∧ w = w' := by
  obtain ⟨ho, _, f, ring, hf, hb, hx⟩ := h
  exact waiting_raw g _ w hb.c19

theorem rcv_look {i g : Nat} {own : Nat → Nat} {s : Rcv} {w : World} (h : RcvAt w own i g s) :
    Calls Try.prog 38 #[.pointer (some ⟨g, 0, none⟩)] w (LookOk s.q.length w (s.q.map Value.string)) := by
  obtain ⟨ho, ⟨o1, o2, o3, o4⟩, f, ring, hf, hb, hx⟩ := h
  exact look_raw g f _ _ ring s.q w hb hf (by omega) hx
end Go.Proofs.Ytjloipjchcaloaa
