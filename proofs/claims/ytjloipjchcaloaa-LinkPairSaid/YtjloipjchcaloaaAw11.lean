/- awake, great and Same of layer 11's statements: awake returns true and changes nothing that was there; Same is true of two slices that read as one list. -/
import Derived.Test.YtjloipjchcaloaaRcv
namespace Go.Proofs.Ytjloipjchcaloaa
open Go.RowKit
set_option linter.unusedVariables false

theorem rcv_hear_is {i g : Nat} {own : Nat → Nat} {s : Rcv} {w : World} (h : RcvAt w own i g s) (seq : Int) (d : ByteArray) (b : Bool) (s' : Rcv) (ha : s.acked ≤ 1125899906842624) (hb : s.takes seq = b) (hs : s.hear seq d = s') :
    Calls Try.prog 30 #[.pointer (some ⟨g, 0, none⟩), .int .i64 seq, .string d] w (RcvRet i own w g (.bool b) s') := by
  subst hb; subst hs
  exact rcv_hear h seq d ha
theorem rcv_pop_is {i g : Nat} {own : Nat → Nat} {s : Rcv} {w : World} (h : RcvAt w own i g s) (x : ByteArray) (b : Bool) (s' : Rcv) (hx : s.popV = x) (hb : s.popB = b) (hs : s.pop = s') :
    Calls Try.prog 32 #[.pointer (some ⟨g, 0, none⟩)] w (RcvRet i own w g (.tuple #[.string x, .bool b]) s') := by
  subst hx; subst hb; subst hs
  exact rcv_pop h

/-- A call hands back v and has read alone. -/
def QuietRet (w : World) (v : Value) (e : Ending) (w' : World) : Prop := e = .returned v ∧ ∃ m, w.drewN m = w'

set_option maxHeartbeats 1000000 in
theorem same_yes (A B : Option Addr) (n c c' : Nat) (xs : List ByteArray) (w : World) (ha : Rd w 1 A n (xs.map Value.string)) (hb : Rd w 1 B n (xs.map Value.string)) (hn : n ≤ 1099511627776) :
    Calls Try.prog 37 #[.slice A n c, .slice B n c'] w (QuietRet w (.bool true)) := by
  have Ha := Lib.hid ha; clear ha
  have Hb := Lib.hid hb; clear hb
  go_enter Try.func37, Try.ntmps37
  go_wp2
  go_loopw [5] (fun i wr => ∃ k m : Nat, k ≤ n ∧ i = .int .i64 k ∧ w.drewN m = wr) (fun i _ => n - (intOf i).toNat)
  case atStart => exact ⟨0, 0, by omega, rfl, rfl⟩
  case round =>
    obtain ⟨k, m, hk, rfl, rfl⟩ := hrel
    by_cases hlt : k < n
    · obtain ⟨b, off, hz, rfl, hca⟩ := Ha.out.map_at hlt
      obtain ⟨b2, off2, hz2, rfl, hcb⟩ := Hb.out.map_at hlt
      generalize xs[k] = y at hca hcb
      have hk0 : (0 : Int) ≤ (k : Int) := by omega
      have hkn : (k : Int) < (n : Int) := by omega
      go_wp2
      go_quiet (fail)
      go_wp2
      go_roundw
      case rel => exact ⟨k + 1, _, by omega, by go_num, rfl⟩
      case measure => simp [intOf]; omega
    · obtain rfl : k = n := by omega
      go_wp2
      go_ret
      exact ⟨rfl, m, rfl⟩

set_option maxHeartbeats 2000000 in
set_option maxRecDepth 10000 in
theorem awake11 (w : World) : Calls Try.prog 28 #[] w (NewRet w (.bool true)) := by
  go_enter Try.func28, Try.ntmps28
  go_wp2_with fail
  refine (rcv_new 1 (fun _ => 0) 2 w).mono ?_
  rintro e w1 ⟨rfl, own1, st1, h1⟩
  have e1 : Rcv.new 2 = ⟨2, 0, []⟩ := rfl
  rw [e1] at h1; clear e1
  generalize w.heap.size = g at h1 ⊢
  go_wp2_with fail
  refine (rcv_hear_is h1 2 _ false ⟨2, 0, []⟩ (by decide) rfl rfl).mono ?_
  rintro e w2 ⟨rfl, own2, st', h2⟩
  have st2 := st1.trans st'
  clear st' st1 h1
  go_wp2_with fail
  refine (rcv_hear_is h2 1 _ true ⟨2, 1, [⟨#[97]⟩]⟩ (by decide) rfl rfl).mono ?_
  rintro e w3 ⟨rfl, own3, st', h3⟩
  have st3 := st2.trans st'
  clear st' st2 h2
  go_wp2_with fail
  refine (rcv_hear_is h3 1 _ false ⟨2, 1, [⟨#[97]⟩]⟩ (by decide) rfl rfl).mono ?_
  rintro e w4 ⟨rfl, own4, st', h4⟩
  have st4 := st3.trans st'
  clear st' st3 h3
  go_wp2_with fail
  refine (rcv_hear_is h4 2 _ true ⟨2, 2, [⟨#[97]⟩, ⟨#[98]⟩]⟩ (by decide) rfl rfl).mono ?_
  rintro e w5 ⟨rfl, own5, st', h5⟩
  have st5 := st4.trans st'
  clear st' st4 h4
  go_wp2_with fail
  refine (rcv_hear_is h5 3 _ false ⟨2, 2, [⟨#[97]⟩, ⟨#[98]⟩]⟩ (by decide) rfl rfl).mono ?_
  rintro e w6 ⟨rfl, own6, st', h6⟩
  have st6 := st5.trans st'
  clear st' st5 h5
  go_wp2_with fail
  refine (rcv_look h6).mono ?_
  rintro e w7 ⟨A', cap', rfl, hnr⟩
  have hp := hnr.row own6 w6.heap.size 2 (Nat.le_refl _)
  have h7 : RcvAt w7 (give own6 w6.heap.size 2) 1 g ⟨2, 2, [⟨#[97]⟩, ⟨#[98]⟩]⟩ := h6.grown hnr.grown (Nat.le_refl _)
  have st7 := (st6.give_ 2).grown hnr.grown (by simp)
  clear hnr st6 h6
  generalize give own6 w6.heap.size 2 = own7 at hp h7 st7
  have hp' : Row w7 own7 2 9 1 A' 2 ([⟨#[97]⟩, ⟨#[98]⟩].map Value.string) := hp
  clear hp
  go_wp2_with fail
  refine (rcv_pop_is h7 ⟨#[97]⟩ true ⟨2, 2, [⟨#[98]⟩]⟩ rfl rfl rfl).mono ?_
  rintro e w8 ⟨rfl, own8, st', h8⟩
  have st8 := st7.trans st'
  have hp8 := hp'.step st' (by omega)
  clear st' st7 h7 hp'
  go_wp2_with fail
  have hg9 := World.grownBy_alloc w8 (.cells #[.string ⟨#[97]⟩, .string ⟨#[98]⟩] 9) none
  have hrb : Rd (w8.alloc (.cells #[.string ⟨#[97]⟩, .string ⟨#[98]⟩] 9)) 1 (some ⟨w8.heap.size, 0, none⟩) 2 ([⟨#[97]⟩, ⟨#[98]⟩].map Value.string) := Rd.of_blk (Blk.new w8 9 _) (by simp) (fun j u h => by simpa using h)
  have hra := hp8.rd.alloc (by omega) (.cells #[.string ⟨#[97]⟩, .string ⟨#[98]⟩] 9)
  have h9 := h8.grown (b0 := w8.heap.size) (j := 3) hg9 (Nat.le_refl _)
  have st9 := (st8.give_ 3).grown hg9 (by simp)
  clear st8 h8 hp8 hg9
  refine (same_yes _ _ _ _ _ _ _ hra hrb (by omega)).mono ?_
  rintro e w10 ⟨rfl, m, rfl⟩
  clear hra hrb
  have h10 := h9.drewN m
  have st10 := st9.drewN m
  clear h9 st9
  generalize (w8.alloc (.cells #[.string ⟨#[97]⟩, .string ⟨#[98]⟩] 9)).drewN m = w11 at h10 st10 ⊢
  generalize give own8 w8.heap.size 3 = own11 at h10 st10
  go_wp2_with fail
  refine (rcv_ack h10).mono ?_
  rintro e w' ⟨rfl, rfl⟩
  go_wp2_with fail
  refine (rcv_waiting h10).mono ?_
  rintro e w' ⟨rfl, rfl⟩
  go_wp2_with fail
  refine (rcv_hear_is h10 3 _ true ⟨2, 3, [⟨#[98]⟩, ⟨#[99]⟩]⟩ (by decide) rfl rfl).mono ?_
  rintro e w12 ⟨rfl, own12, st', h12⟩
  have st12 := st10.trans st'
  go_wp2
  go_ret
  exact ⟨rfl, grown_of_step st12 (by omega)⟩

/-! ### great -/

set_option maxHeartbeats 1000000 in
theorem great11 (A : Option Addr) (c : Nat) (l : List Act3) (w : World) (h : Rd w 3 A l.length (acells l)) :
    Calls Try.prog 29 #[.slice A l.length c] w (BoolRet w (great3 l)) := by
  by_cases hn : 200 < l.length
  · have hg : great3 l = true := by simp [great3, hn]
    rw [hg]
    generalize l.length = n at *
    clear h hg
    go_enter Try.func29, Try.ntmps29
    go_wp2
    go_ret
    exact ⟨rfl, World.grownBy.refl _ _⟩
  · have H := Lib.hid h; clear h
    have hx : ∀ (e : Ending) (w' : World) (b : Bool), e = .returned (.bool b) → great3 l = b → w.grownBy w' none → BoolRet w (great3 l) e w' := fun e w' b h1 h2 h3 => by rw [h2]; exact ⟨h1, h3⟩
    have Hx := Lib.hid hx; clear hx
    generalize hN : l.length = n at *
    have HN := Lib.hid hN; clear hN
    generalize hR : BoolRet w (great3 l) = R at *
    clear hR
    go_enter Try.func29, Try.ntmps29
    go_wp2
    go_loopw [10] (fun v wr => ∃ k : Nat, k ≤ n ∧ v = .int .i64 k ∧ (∀ j (hj : j < l.length), j < k → l[j].text.size ≤ 100) ∧ w.grownBy wr none) (fun v _ => n - (intOf v).toNat)
    case atStart => exact ⟨0, by omega, rfl, fun j hj h => absurd h (by omega), World.grownBy.refl _ _⟩
    case round =>
      obtain ⟨k, hk, rfl, hall, hg⟩ := hrel
      have Hall := Lib.hid hall; clear hall
      by_cases hlt : k < n
      · have hkl : k < l.length := by have := HN.out; omega
        have hrd : Rd w 3 A l.length (acells l) := by have := HN.out; rw [this]; exact H.out
        obtain ⟨b, off, rfl, c0, c1, c2⟩ := acts_at hrd hkl
        clear hrd
        have c0' := (World.grownBy.cell hg c0 (by simp))
        have c1' := (World.grownBy.cell hg c1 (by simp))
        have c2' := (World.grownBy.cell hg c2 (by simp))
        clear c0 c1 c2
        have Hg := Lib.hid hg; clear hg
        by_cases ht : 100 < l[k].text.size
        · have Ht : Hid (100 < l[k].text.size) := ht
          generalize l[k].text = tx at c2' ht
          generalize l[k].kind = kd at c0'
          generalize l[k].n = nn at c1'
          go_wp2
          exact Hx.out _ _ true rfl (great3_hit hkl Ht.out) (grown_tr Hg.out (World.grownBy_alloc _ _ _))
        · have Hs : Hid (∀ j (hj : j < l.length), j < k + 1 → l[j].text.size ≤ 100) := fun j hj h => by
            rcases Nat.lt_or_ge j k with h' | h'
            · exact Hall.out j hj h'
            · obtain rfl : j = k := by omega
              omega
          clear Hall
          generalize l[k].text = tx at c2' ht
          generalize l[k].kind = kd at c0'
          generalize l[k].n = nn at c1'
          go_wp2
          go_roundw
          case rel => exact ⟨k + 1, by omega, by go_num, Hs.out, grown_tr Hg.out (World.grownBy_alloc _ _ _)⟩
          case measure => simp [intOf]; omega
      · obtain rfl : k = n := by omega
        have Hg := Lib.hid hg; clear hg
        go_wp2
        exact Hx.out _ _ false rfl (great3_miss (by have := HN.out; omega) (fun j hj => Hall.out j hj (by have := HN.out; omega))) Hg.out
end Go.Proofs.Ytjloipjchcaloaa
