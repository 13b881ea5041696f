/- The walk of ReceiverOrder: for every list of texts it returns true and changes nothing that was there. -/
import Derived.Test.YtjloipjchcaloaaAw11
namespace Go.Proofs.Ytjloipjchcaloaa
open Go.RowKit
set_option linter.unusedVariables false

/-- the first k texts heard -/
def orderS (l : List ByteArray) (k : Nat) : Rcv := ⟨16, k, l.take k⟩

theorem orderS_take {l : List ByteArray} {k : Nat} (hk : k < l.length) (hl : l.length ≤ 16) : (orderS l k).takes ((k : Int) + 1) = true ∧ (orderS l k).hear ((k : Int) + 1) l[k] = orderS l (k + 1) := by
  have ht : (orderS l k).takes ((k : Int) + 1) = true := by simp [Rcv.takes, orderS]; omega
  refine ⟨ht, ?_⟩
  rw [Rcv.hear, ht]
  simp only [orderS, if_true, Rcv.mk.injEq, true_and]
  rw [List.take_succ_eq_append_getElem hk]

theorem orderS_not {l : List ByteArray} {k : Nat} (s : Int) (d : ByteArray) (h : s ≠ (k : Int) + 1) : (orderS l k).takes s = false ∧ (orderS l k).hear s d = orderS l k := by
  have ht : (orderS l k).takes s = false := by simp [Rcv.takes, orderS, h]
  exact ⟨ht, by rw [Rcv.hear, ht]; rfl⟩

theorem rcv_ack_is {i g : Nat} {own : Nat → Nat} {s : Rcv} {w : World} (h : RcvAt w own i g s) (n : Int) (hn : (s.acked : Int) = n) :
    Calls Try.prog 34 #[.pointer (some ⟨g, 0, none⟩)] w fun e w' => e = .returned (.int .i64 n) ∧ w = w' := by
  subst hn
  exact rcv_ack h

theorem base_grown {B : Nat} {w0 w : World} {own : Nat → Nat} (h : Base B w0 w own) (hB : B = w0.heap.size) : w0.grownBy w none :=
  ⟨h.below.os, h.below.tape, h.below.output, h.below.size, fun q hq _ => h.below.block q (by omega)⟩

set_option maxHeartbeats 1000000 in
set_option maxRecDepth 10000 in
theorem order_long (A : Option Addr) (m c : Nat) (w : World) (h : 16 < m) : Calls Try.prog 9 #[.slice A m c] w (BoolRet w true) := by
  go_enter Try.func9, Try.ntmps9
  go_wp2_with fail
  refine (rcv_new 1 (fun _ => 0) 16 w).mono ?_
  rintro e w1 ⟨rfl, own1, st1, h1⟩
  have hB1 := (Base.start w).step st1 (by omega)
  clear h1 st1
  go_wp2_with fail
  refine (rcv_new 2 own1 16 w1).mono ?_
  rintro e w2 ⟨rfl, own2, st2, h2⟩
  have hB2 := hB1.step st2 (by omega)
  clear h2 st2 hB1
  go_wp2_with fail
  refine (awake11 w2).mono ?_
  rintro e w3 ⟨rfl, hg⟩
  have hB3 := hB2.step ((Step.refl 9 w2 own2).grown hg (by simp)) (by omega)
  go_wp2_with fail
  refine (awake11 w3).mono ?_
  rintro e w4 ⟨rfl, hg4⟩
  have hB4 := hB3.step ((Step.refl 9 w3 own2).grown hg4 (by simp)) (by omega)
  go_wp2
  go_ret
  exact ⟨rfl, base_grown hB4 rfl⟩

set_option maxHeartbeats 2000000 in
set_option maxRecDepth 10000 in
theorem order_play (A : Option Addr) (c : Nat) (l : List ByteArray) (w : World) (hl : l.length ≤ 16) (hr : Rd w 1 A l.length (l.map Value.string)) :
    Calls Try.prog 9 #[.slice A l.length c] w (BoolRet w true) := by
  have Hr := Lib.hid hr; clear hr
  generalize hN : l.length = m at *
  have HN := Lib.hid hN; clear hN
  go_enter Try.func9, Try.ntmps9
  go_wp2_with fail
  refine (rcv_new 1 (fun _ => 0) 16 w).mono ?_
  rintro e w1 ⟨rfl, own1, st1, h1⟩
  have hB1 := (Base.start w).step st1 (by omega)
  obtain ⟨ga, hga⟩ : ∃ ga, ga = w.heap.size := ⟨_, rfl⟩
  rw [← hga] at h1 ⊢
  clear hga st1
  go_wp2_with fail
  refine (rcv_new 2 own1 16 w1).mono ?_
  rintro e w2 ⟨rfl, own2, st2, h2⟩
  have hB2 := hB1.step st2 (by omega)
  have h12 := h1.other st2 (by omega)
  obtain ⟨gb, hgb⟩ : ∃ gb, gb = w1.heap.size := ⟨_, rfl⟩
  rw [← hgb] at h2 ⊢
  clear hgb st2 h1 hB1
  go_wp2_with fail
  refine (awake11 w2).mono ?_
  rintro e w3 ⟨rfl, hg⟩
  have hst : ∃ own, Base w.heap.size w w3 own ∧ RcvAt w3 own 1 ga (orderS l 0) ∧ RcvAt w3 own 2 gb (orderS l 0) :=
    ⟨give own2 w2.heap.size 9, hB2.step (((Step.refl 9 w2 own2).give_ 9).grown hg (by simp)) (by omega), h12.grown hg (Nat.le_refl _), h2.grown hg (Nat.le_refl _)⟩
  clear h12 h2 hB2 hg
  go_wp2_with fail
  go_loopw [27] (fun v wr => ∃ k : Nat, k ≤ m ∧ v = .int .i64 k ∧ ∃ own, Base w.heap.size w wr own ∧ RcvAt wr own 1 ga (orderS l k) ∧ RcvAt wr own 2 gb (orderS l k)) (fun v _ => m - (intOf v).toNat)
  case atStart => exact ⟨0, by omega, rfl, hst⟩
  case round =>
    clear hst
    obtain ⟨k, hk, rfl, own, hB, ha, hb⟩ := hrel
    by_cases hlt : k < m
    · have hkl : k < l.length := by have := HN.out; omega
      have hrd : Rd wr 1 A m (l.map Value.string) := Hr.out.keep (fun b off _ _ hb => hB.below.block b hb) (by omega)
      obtain ⟨b, off, hz', rfl, hcell⟩ := hrd.map_at hlt
      clear hrd
      have hof := orderS_take (l := l) (k := k) hkl (by have := HN.out; omega)
      obtain ⟨x, hx⟩ : ∃ x, x = l[k] := ⟨_, rfl⟩
      rw [← hx] at hcell hof
      have Hx := Lib.hid hx; clear hx
      have Hof := Lib.hid hof; clear hof
      by_cases hbig : 100 < x.size
      · go_wp2_with fail
        go_ret
        exact ⟨rfl, base_grown hB rfl⟩
      · go_wp2_with fail
        refine (rcv_hear_is ha _ _ _ _ (by simp only [orderS]; omega) Hof.out.1 Hof.out.2).mono ?_
        rintro e w4 ⟨rfl, own4, st4, ha4⟩
        have hb4 := hb.other st4 (by omega)
        have hB4 := hB.step st4 (by omega)
        clear st4 ha hb hB hcell
        go_wp2_with fail
        refine (rcv_hear_is hb4 _ _ _ _ (by simp only [orderS]; omega) Hof.out.1 Hof.out.2).mono ?_
        rintro e w5 ⟨rfl, own5, st5, hb5⟩
        have ha5 := ha4.other st5 (by omega)
        have hB5 := hB4.step st5 (by omega)
        clear st5 ha4 hb4 hB4
        go_wp2_with fail
        refine (rcv_hear_is hb5 _ ⟨#[108, 97, 116, 101]⟩ _ _ (by simp only [orderS]; omega) (orderS_not (k := k + 1) (k : Int) ⟨#[108, 97, 116, 101]⟩ (by omega)).1 (orderS_not _ _ (by omega)).2).mono ?_
        rintro e w6 ⟨rfl, own6, st6, hb6⟩
        have ha6 := ha5.other st6 (by omega)
        have hB6 := hB5.step st6 (by omega)
        clear st6 ha5 hb5 hB5
        go_wp2_with fail
        refine (rcv_hear_is hb6 _ ⟨#[101, 97, 114, 108, 121]⟩ _ _ (by simp only [orderS]; omega) (orderS_not (k := k + 1) ((k : Int) + 3) ⟨#[101, 97, 114, 108, 121]⟩ (by omega)).1 (orderS_not _ _ (by omega)).2).mono ?_
        rintro e w7 ⟨rfl, own7, st7, hb7⟩
        have ha7 := ha6.other st7 (by omega)
        have hB7 := hB6.step st7 (by omega)
        clear st7 ha6 hb6 hB6
        go_wp2_with fail
        go_roundw
        case rel => exact ⟨k + 1, by omega, by go_num, own7, hB7, ha7, hb7⟩
        case measure => simp [intOf]; omega
    · obtain rfl : k = m := by omega
      have hfull : l.take k = l := by rw [← HN.out, List.take_length]
      have hlen : (l.take k).length = k := by rw [hfull]; exact HN.out
      have Hfull := Lib.hid hfull; clear hfull
      have Hlen := Lib.hid hlen; clear hlen
      go_wp2_with fail
      refine (rcv_look ha).mono ?_
      simp only [orderS]
      rw [Hlen.out, Hfull.out]
      rintro e w4 ⟨P, cp, rfl, hnr⟩
      have hp4 := hnr.row own wr.heap.size 3 (Nat.le_refl _)
      have hB4 := hB.step (hnr.step own 3) (by omega)
      have ha4 := ha.grown (b0 := wr.heap.size) (j := 3) hnr.grown (Nat.le_refl _)
      have hb4 := hb.grown (b0 := wr.heap.size) (j := 3) hnr.grown (Nat.le_refl _)
      clear hnr hB ha hb
      generalize give own wr.heap.size 3 = own4 at hp4 hB4 ha4 hb4
      go_wp2_with fail
      refine (rcv_look hb4).mono ?_
      simp only [orderS]
      rw [Hlen.out, Hfull.out]
      rintro e w5 ⟨P2, cp2, rfl, hnr⟩
      have hq5 := hnr.row own4 w4.heap.size 4 (Nat.le_refl _)
      have hp5 := hp4.step (hnr.step own4 4) (by omega)
      have hB5 := hB4.step (hnr.step own4 4) (by omega)
      have ha5 := ha4.grown (b0 := w4.heap.size) (j := 4) hnr.grown (Nat.le_refl _)
      have hb5 := hb4.grown (b0 := w4.heap.size) (j := 4) hnr.grown (Nat.le_refl _)
      clear hnr hB4 ha4 hb4 hp4
      generalize give own4 w4.heap.size 4 = own5 at hp5 hq5 hB5 ha5 hb5
      go_wp2_with fail
      refine (same_yes P P2 k _ _ l w5 hp5.rd hq5.rd (by omega)).mono ?_
      rintro e w6 ⟨rfl, m6, rfl⟩
      have ha6 := ha5.drewN m6
      have hb6 := hb5.drewN m6
      have hB6 := hB5.drewN m6
      clear hp5 hq5 ha5 hb5 hB5
      generalize w5.drewN m6 = w6 at ha6 hb6 hB6 ⊢
      go_wp2_with fail
      refine (rcv_look ha6).mono ?_
      simp only [orderS]
      rw [Hlen.out, Hfull.out]
      rintro e w7 ⟨P3, cp3, rfl, hnr⟩
      have hp7 := hnr.row own5 w6.heap.size 5 (Nat.le_refl _)
      have hB7 := hB6.step (hnr.step own5 5) (by omega)
      have ha7 := ha6.grown (b0 := w6.heap.size) (j := 5) hnr.grown (Nat.le_refl _)
      have hb7 := hb6.grown (b0 := w6.heap.size) (j := 5) hnr.grown (Nat.le_refl _)
      clear hnr hB6 ha6 hb6
      have hrd : Rd w7 1 A k (l.map Value.string) := Hr.out.keep (fun b off _ _ hb => hB7.below.block b hb) (by omega)
      go_wp2_with fail
      refine (same_yes P3 A k _ _ l w7 hp7.rd hrd (by omega)).mono ?_
      rintro e w8 ⟨rfl, m8, rfl⟩
      have ha8 := ha7.drewN m8
      have hb8 := hb7.drewN m8
      have hB8 := hB7.drewN m8
      clear hp7 hrd ha7 hb7 hB7
      generalize w7.drewN m8 = w8 at ha8 hb8 hB8 ⊢
      go_wp2_with fail
      refine (rcv_ack_is ha8 (k : Int) rfl).mono ?_
      rintro e w' ⟨rfl, rfl⟩
      go_wp2_with fail
      refine (rcv_ack_is hb8 (k : Int) rfl).mono ?_
      rintro e w' ⟨rfl, rfl⟩
      go_wp2
      go_ret
      exact ⟨rfl, base_grown hB8 rfl⟩

theorem order_walk (A : Option Addr) (c : Nat) (l : List ByteArray) (w : World) (hr : Rd w 1 A l.length (l.map Value.string)) : Calls Try.prog 9 #[.slice A l.length c] w (BoolRet w true) := by
  by_cases h : 16 < l.length
  · exact order_long A _ c w h
  · exact order_play A c l w (by omega) hr
end Go.Proofs.Ytjloipjchcaloaa
