/- awake and great of layer 10's statements: awake returns true and changes nothing that was there; great tells whether there are more than 200 acts or a text of more than 100 bytes. -/
import Derived.Test.YtjloipjchcaloaaSnd
namespace Go.Proofs.Ytjloipjchcaloaa
open Go.RowKit
set_option linter.unusedVariables false

theorem snd_offer_is {i g : Nat} {own : Nat → Nat} {s : Snd} {w : World} (h : SndAt w own i g s) (d : ByteArray) (n e : Int) (s' : Snd) (hn : s.offN = n) (he : s.offE = e) (hs : s.off d = s') :
    Calls Try.prog 23 #[.pointer (some ⟨g, 0, none⟩), .string d] w (SndRet i own w g (.tuple #[.int .i64 n, .int .i64 e]) s') := by
  subst hn; subst he; subst hs
  exact snd_offer h d

theorem snd_ack_is {i g : Nat} {own : Nat → Nat} {s : Snd} {w : World} (h : SndAt w own i g s) (n r : Int) (s' : Snd) (hn : (s.gone n : Int) = r) (hs : s.ack n = s') :
    Calls Try.prog 22 #[.pointer (some ⟨g, 0, none⟩), .int .i64 n] w (SndRet i own w g (.int .i64 r) s') := by
  subst hn; subst hs
  exact snd_ack h n

def sA : ByteArray := ⟨#[97]⟩
def sB : ByteArray := ⟨#[98]⟩
def sC : ByteArray := ⟨#[99]⟩
def sD : ByteArray := ⟨#[100]⟩

set_option maxHeartbeats 2000000 in
set_option maxRecDepth 10000 in
theorem awake10 (w : World) : Calls Try.prog 19 #[] w (NewRet w (.bool true)) := by
  go_enter Try.func19, Try.ntmps19
  go_wp2_with fail
  refine (snd_new 1 (fun _ => 0) 2 3 w).mono ?_
  rintro e w1 ⟨rfl, own1, st1, h1⟩
  have e1 : Snd.new 2 3 = ⟨2, 3, 0, []⟩ := rfl
  rw [e1] at h1; clear e1
  generalize w.heap.size = g at h1 ⊢
  go_wp2_with fail
  refine (snd_offer_is h1 _ 1 0 ⟨2, 3, 1, [⟨#[97]⟩]⟩ rfl rfl rfl).mono ?_
  rintro e w2 ⟨rfl, own2, st', h2⟩
  have st2 := st1.trans st'
  clear st' st1 h1
  go_wp2_with fail
  refine (snd_offer_is h2 _ 2 0 ⟨2, 3, 2, [⟨#[97]⟩, ⟨#[98]⟩]⟩ rfl rfl rfl).mono ?_
  rintro e w3 ⟨rfl, own3, st', h3⟩
  have st3 := st2.trans st'
  clear st' st2 h2
  go_wp2_with fail
  refine (snd_offer_is h3 _ 0 7 ⟨2, 3, 2, [⟨#[97]⟩, ⟨#[98]⟩]⟩ rfl rfl rfl).mono ?_
  rintro e w4 ⟨rfl, own4, st', h4⟩
  have st4 := st3.trans st'
  clear st' st3 h3
  go_wp2_with fail
  refine (snd_ack_is h4 1 1 ⟨2, 3, 2, [⟨#[98]⟩]⟩ rfl rfl).mono ?_
  rintro e w5 ⟨rfl, own5, st', h5⟩
  have st5 := st4.trans st'
  clear st' st4 h4
  go_wp2_with fail
  refine (snd_offer_is h5 _ 3 0 ⟨2, 3, 3, [⟨#[98]⟩, ⟨#[99]⟩]⟩ rfl rfl rfl).mono ?_
  rintro e w6 ⟨rfl, own6, st', h6⟩
  have st6 := st5.trans st'
  clear st' st5 h5
  go_wp2_with fail
  refine (snd_pieces h6).mono ?_
  rintro e w7 ⟨A', cap', rfl, hnr⟩
  have hp := hnr.row own6 w6.heap.size 2 (Nat.le_refl _)
  have h7 : SndAt w7 (give own6 w6.heap.size 2) 1 g ⟨2, 3, 3, [⟨#[98]⟩, ⟨#[99]⟩]⟩ := h6.grown hnr.grown (Nat.le_refl _)
  have st7 := (st6.give_ 2).grown hnr.grown (by simp)
  clear hnr st6 h6
  generalize give own6 w6.heap.size 2 = own7 at hp h7 st7
  have hp' : Row w7 own7 2 30 2 A' 2 [.int .i64 2, .string ⟨#[98]⟩, .int .i64 3, .string ⟨#[99]⟩] := hp
  clear hp
  go_wp2_with fail
  refine (snd_ack_is h7 3 2 ⟨2, 3, 3, []⟩ rfl rfl).mono ?_
  rintro e w8 ⟨rfl, own8, st', h8⟩
  have st8 := st7.trans st'
  have hp8 := hp'.step st' (by omega)
  clear st' st7 h7 hp'
  go_wp2_with fail
  refine (snd_offer_is h8 _ 0 8 ⟨2, 3, 3, []⟩ rfl rfl rfl).mono ?_
  rintro e w9 ⟨rfl, own9, st', h9⟩
  have st9 := st8.trans st'
  have hp9 := hp8.step st' (by omega)
  clear st' st8 h8 hp8
  obtain ⟨b, o, cs, rfl, _, hbc, hx⟩ := hp9.2 (by omega)
  have k0 : w9.cell? ⟨b, o, none⟩ = some (.int .i64 2) := (hbc.cell o).trans (hx 0 _ rfl)
  have k1 : w9.cell? ⟨b, o + 1, none⟩ = some (.string ⟨#[98]⟩) := (hbc.cell (o + 1)).trans (hx 1 _ rfl)
  clear hbc hx hp9
  go_wp2_with fail
  refine (snd_unacked h9).mono ?_
  rintro e w' ⟨rfl, rfl⟩
  go_wp2_with fail
  refine (snd_sent h9).mono ?_
  rintro e w' ⟨rfl, rfl⟩
  go_wp2
  go_ret
  exact ⟨rfl, grown_of_step st9 (by omega)⟩

/-! ### great -/

set_option maxHeartbeats 1000000 in
theorem great10 (A : Option Addr) (c : Nat) (l : List Act3) (w : World) (h : Rd w 3 A l.length (acells l)) :
    Calls Try.prog 24 #[.slice A l.length c] w (BoolRet w (great3 l)) := by
  by_cases hn : 200 < l.length
  · have hg : great3 l = true := by simp [great3, hn]
    rw [hg]
    generalize l.length = n at *
    clear h hg
    go_enter Try.func24, Try.ntmps24
    go_wp2
    go_ret
    exact ⟨rfl, World.grownBy.refl _ _⟩
  · have H := Lib.hid h; clear h
    have hx : ∀ (e : Ending) (w' : World) (b : Bool), e = .returned (.bool b) → great3 l = b → w.grownBy w' none → BoolRet w (great3 l) e w' := fun e w' b h1 h2 h3 => by rw [h2]; exact ⟨h1, h3⟩
    have Hx := Lib.hid hx; clear hx
    generalize hN : l.length = n at *
    have HN := Lib.hid hN; clear hN
    generalize hR : BoolRet w (great3 l) = R at *
    clear hR
    go_enter Try.func24, Try.ntmps24
    go_wp2
    go_loopw [10] (fun v wr => ∃ k : Nat, k ≤ n ∧ v = .int .i64 k ∧ (∀ j (hj : j < l.length), j < k → l[j].text.size ≤ 100) ∧ w.grownBy wr none) (fun v _ => n - (intOf v).toNat)
    case atStart => exact ⟨0, by omega, rfl, fun j hj h => absurd h (by omega), World.grownBy.refl _ _⟩
    case round =>
      obtain ⟨k, hk, rfl, hall, hg⟩ := hrel
      have Hall := Lib.hid hall; clear hall
      by_cases hlt : k < n
      · have hkl : k < l.length := by have := HN.out; omega
        have hrd : Rd w 3 A l.length (acells l) := by have := HN.out; rw [this]; exact H.out
        obtain ⟨b, off, rfl, c0, c1, c2⟩ := acts_at hrd hkl
        clear hrd
        have c0' := (World.grownBy.cell hg c0 (by simp))
        have c1' := (World.grownBy.cell hg c1 (by simp))
        have c2' := (World.grownBy.cell hg c2 (by simp))
        clear c0 c1 c2
        have Hg := Lib.hid hg; clear hg
        by_cases ht : 100 < l[k].text.size
        · have Ht : Hid (100 < l[k].text.size) := ht
          generalize l[k].text = tx at c2' ht
          generalize l[k].kind = kd at c0'
          generalize l[k].n = nn at c1'
          go_wp2
          exact Hx.out _ _ true rfl (great3_hit hkl Ht.out) (grown_tr Hg.out (World.grownBy_alloc _ _ _))
        · have Hs : Hid (∀ j (hj : j < l.length), j < k + 1 → l[j].text.size ≤ 100) := fun j hj h => by
            rcases Nat.lt_or_ge j k with h' | h'
            · exact Hall.out j hj h'
            · obtain rfl : j = k := by omega
              omega
          clear Hall
          generalize l[k].text = tx at c2' ht
          generalize l[k].kind = kd at c0'
          generalize l[k].n = nn at c1'
          go_wp2
          go_roundw
          case rel => exact ⟨k + 1, by omega, by go_num, Hs.out, grown_tr Hg.out (World.grownBy_alloc _ _ _)⟩
          case measure => simp [intOf]; omega
      · obtain rfl : k = n := by omega
        have Hg := Lib.hid hg; clear hg
        go_wp2
        exact Hx.out _ _ false rfl (great3_miss (by have := HN.out; omega) (fun j hj => Hall.out j hj (by have := HN.out; omega))) Hg.out
end Go.Proofs.Ytjloipjchcaloaa
