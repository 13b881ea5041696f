/- The walk of SenderAcks: for every n and every list of acknowledgements it returns true and changes nothing that was there. -/
import Derived.Test.YtjloipjchcaloaaAw10
namespace Go.Proofs.Ytjloipjchcaloaa
open Go.RowKit
set_option linter.unusedVariables false

/-- A sender that the call made itself, at block g, stands as s; nothing that was there when the call began has changed. -/
def At1 (w0 : World) (g : Nat) (s : Snd) (w : World) : Prop := ∃ own, Step 1 w0 (fun _ => 0) w own ∧ SndAt w own 1 g s

theorem At1.grown {w0 w w' : World} {g : Nat} {s : Snd} (h : At1 w0 g s w) (hg : w.grownBy w' none) : At1 w0 g s w' := by
  obtain ⟨own, st, hs⟩ := h
  exact ⟨give own w.heap.size 0, (st.give_ 0).grown hg (by simp), hs.grown hg (Nat.le_refl _)⟩
theorem At1.drewN {w0 w : World} {g : Nat} {s : Snd} (h : At1 w0 g s w) (n : Nat) : At1 w0 g s (w.drewN n) := by
  obtain ⟨own, st, hs⟩ := h
  exact ⟨own, st.drewN n, hs.drewN n⟩
theorem At1.end_ {w0 w : World} {g : Nat} {s : Snd} (h : At1 w0 g s w) : w0.grownBy w none := by
  obtain ⟨own, st, _⟩ := h
  exact grown_of_step st (by omega)
theorem At1.ok {w0 w : World} {g : Nat} {s : Snd} (h : At1 w0 g s w) : s.Ok := by obtain ⟨_, _, hs⟩ := h; exact hs.ok

def At1Ret (w0 : World) (g : Nat) (v : Value) (s : Snd) (e : Ending) (w' : World) : Prop := e = .returned v ∧ At1 w0 g s w'

theorem at1_new (win last : Int) (w : World) :
    Calls Try.prog 18 #[.int .i64 win, .int .i64 last] w fun e w' => ∃ g, e = .returned (.pointer (some ⟨g, 0, none⟩)) ∧ At1 w g (Snd.new win last) w' :=
  (snd_new 1 (fun _ => 0) win last w).mono fun e w' ⟨he, own, st, h⟩ => ⟨_, he, own, st, h⟩
theorem at1_offer {w0 w : World} {g : Nat} {s : Snd} (h : At1 w0 g s w) (d : ByteArray) (n e : Int) (s' : Snd) (hn : s.offN = n) (he : s.offE = e) (hs : s.off d = s') :
    Calls Try.prog 23 #[.pointer (some ⟨g, 0, none⟩), .string d] w (At1Ret w0 g (.tuple #[.int .i64 n, .int .i64 e]) s') := by
  obtain ⟨own, st, hs1⟩ := h
  exact (snd_offer_is hs1 d n e s' hn he hs).mono fun e w' ⟨he, own', st', h'⟩ => ⟨he, own', st.trans st', h'⟩
theorem at1_ack {w0 w : World} {g : Nat} {s : Snd} (h : At1 w0 g s w) (n r : Int) (s' : Snd) (hn : (s.gone n : Int) = r) (hs : s.ack n = s') :
    Calls Try.prog 22 #[.pointer (some ⟨g, 0, none⟩), .int .i64 n] w (At1Ret w0 g (.int .i64 r) s') := by
  obtain ⟨own, st, hs1⟩ := h
  exact (snd_ack_is hs1 n r s' hn hs).mono fun e w' ⟨he, own', st', h'⟩ => ⟨he, own', st.trans st', h'⟩
theorem at1_unacked {w0 w : World} {g : Nat} {s : Snd} (h : At1 w0 g s w) :
    Calls Try.prog 20 #[.pointer (some ⟨g, 0, none⟩)] w fun e w' => e = .returned (.int .i64 s.ds.length) ∧ w = w' := by
  obtain ⟨own, st, hs1⟩ := h
  exact snd_unacked hs1
theorem at1_sent {w0 w : World} {g : Nat} {s : Snd} (h : At1 w0 g s w) :
    Calls Try.prog 25 #[.pointer (some ⟨g, 0, none⟩)] w fun e w' => e = .returned (.int .i64 s.sent) ∧ w = w' := by
  obtain ⟨own, st, hs1⟩ := h
  exact snd_sent hs1

/-- n pieces 'x' sent, the first m of them acknowledged -/
def sX : ByteArray := ⟨#[120]⟩
def acksS (n m : Nat) : Snd := ⟨16, 1125899906842624, n, List.replicate (n - m) sX⟩

theorem acksS_offer {n k : Nat} (hk : k < n) (hn : n ≤ 16) : (acksS k 0).offN = (k : Int) + 1 ∧ (acksS k 0).offE = 0 ∧ (acksS k 0).off sX = acksS (k + 1) 0 := by
  have h1 : ¬ (acksS k 0).ds.length = (acksS k 0).win := by simp [acksS]; omega
  have h2 : ¬ (acksS k 0).sent = (acksS k 0).last := by simp [acksS]; omega
  refine ⟨by unfold Snd.offN; rw [if_neg h1, if_neg h2]; rfl, by unfold Snd.offE; rw [if_neg h1, if_neg h2], ?_⟩
  unfold Snd.off
  rw [if_neg h1, if_neg h2]
  simp [acksS, List.replicate_succ']

theorem acksS_ack {n m k : Nat} (hm : m < k) (hk : k ≤ n) : ((acksS n m).gone (k : Int) : Int) = (k : Int) - m ∧ (acksS n m).ack (k : Int) = acksS n k := by
  have h1 : ¬ ((n : Nat) : Int) < (k : Int) := by omega
  have hg : (acksS n m).gone (k : Int) = k - m := by
    simp only [Snd.gone, acksS, List.length_replicate]
    rw [if_neg h1]; omega
  refine ⟨by rw [hg]; omega, ?_⟩
  unfold Snd.ack
  rw [hg]
  simp only [acksS, List.drop_replicate]
  rw [show n - m - (k - m) = n - k by omega]

theorem acksS_none {n m : Nat} {k : Int} (hmn : m ≤ n) (h : ¬ ((m : Int) < k ∧ k ≤ n)) : ((acksS n m).gone k : Int) = 0 ∧ (acksS n m).ack k = acksS n m := by
  have hg : (acksS n m).gone k = 0 := by
    simp only [Snd.gone, acksS, List.length_replicate]
    split <;> omega
  exact ⟨by rw [hg]; rfl, by unfold Snd.ack; rw [hg]; rfl⟩

set_option maxHeartbeats 1000000 in
set_option maxRecDepth 10000 in
theorem acks_bad (n : Int) (A : Option Addr) (m c : Nat) (w : World) (h : n < 0 ∨ (0 ≤ n ∧ 16 < n) ∨ (0 ≤ n ∧ n ≤ 16 ∧ 100 < m)) :
    Calls Try.prog 5 #[.int .i64 n, .slice A m c] w (BoolRet w true) := by
  rcases h with h | ⟨h1, h2⟩ | ⟨h1, h2, h3⟩
  all_goals
    go_enter Try.func5, Try.ntmps5
    go_wp2_with fail
    refine (at1_new _ _ w).mono ?_
    rintro e w1 ⟨g, rfl, hs⟩
    go_wp2_with fail
    refine (awake10 w1).mono ?_
    rintro e w2 ⟨rfl, hg⟩
    have hs2 := hs.grown hg
    clear hs hg
    go_wp2_with fail
    refine (awake10 w2).mono ?_
    rintro e w3 ⟨rfl, hg⟩
    have hs3 := hs2.grown hg
    clear hs2 hg
    go_wp2
    go_ret
    exact ⟨rfl, hs3.end_⟩

set_option maxHeartbeats 2000000 in
set_option maxRecDepth 10000 in
theorem acks_good (n : Nat) (A : Option Addr) (c : Nat) (zs : List Int) (w : World) (hn : n ≤ 16) (hz : zs.length ≤ 100) (hr : Rd w 1 A zs.length (zs.map (Value.int .i64))) :
    Calls Try.prog 5 #[.int .i64 n, .slice A zs.length c] w (BoolRet w true) := by
  have Hr := Lib.hid hr; clear hr
  generalize hM : zs.length = m at *
  have HM := Lib.hid hM; clear hM
  go_enter Try.func5, Try.ntmps5
  go_wp2_with fail
  refine (at1_new _ _ w).mono ?_
  rintro e w1 ⟨g, rfl, hs⟩
  go_wp2_with fail
  refine (awake10 w1).mono ?_
  rintro e w2 ⟨rfl, hg⟩
  have hs2 : At1 w g (acksS 0 0) w2 := hs.grown hg
  clear hs hg
  go_wp2
  go_loopw [33] (fun v wr => ∃ k : Nat, k ≤ n ∧ v = .int .i64 k ∧ At1 w g (acksS k 0) wr) (fun v _ => n - (intOf v).toNat)
  case atStart => exact ⟨0, by omega, rfl, hs2⟩
  case round =>
    clear hs2
    obtain ⟨k, hk, rfl, hs⟩ := hrel
    by_cases hlt : k < n
    · have hof := acksS_offer hlt hn
      have Hof := Lib.hid hof; clear hof
      go_wp2_with fail
      refine (at1_offer hs sX _ _ _ Hof.out.1 Hof.out.2.1 Hof.out.2.2).mono ?_
      rintro e w3 ⟨rfl, hs3⟩
      clear hs
      go_wp2_with fail
      go_roundw
      case rel => exact ⟨k + 1, by omega, by go_num, hs3⟩
      case measure => simp [intOf]; omega
    · obtain rfl : k = n := by omega
      go_wp2_with fail
      go_loopw [6, 40] (fun v i wr => ∃ j q : Nat, j ≤ m ∧ q ≤ k ∧ i = .int .i64 j ∧ v = .int .i64 q ∧ At1 w g (acksS k q) wr) (fun _ i _ => m - (intOf i).toNat)
      case atStart => exact ⟨0, 0, by omega, by omega, rfl, rfl, hs⟩
      case round =>
        clear hs
        obtain ⟨j, q, hj, hq, rfl, rfl, hs⟩ := hrel
        by_cases hjm : j < m
        · obtain ⟨b, off, hz', rfl, hcell⟩ := Hr.out.map_at hjm
          have hc := World.grownBy.cell hs.end_ hcell (by simp)
          clear hcell
          by_cases hgo : (q : Int) < zs[j] ∧ zs[j] ≤ k
          · obtain ⟨p, hp⟩ : ∃ p : Nat, zs[j] = (p : Int) := ⟨zs[j].toNat, by omega⟩
            rw [hp] at hc hgo
            clear hp
            obtain ⟨h1, h2⟩ := hgo
            have hof := acksS_ack (n := k) (m := q) (k := p) (by omega) (by omega)
            have Hof := Lib.hid hof; clear hof
            go_wp2_with fail
            refine (at1_ack hs _ _ _ Hof.out.1 Hof.out.2).mono ?_
            rintro e w3 ⟨rfl, hs3⟩
            clear hs hc
            have hu : ((acksS k p).ds.length : Int) = (k : Int) - p := by simp [acksS]; omega
            have Hu := Lib.hid hu; clear hu
            go_wp2_with fail
            refine (at1_unacked hs3).mono ?_
            rintro e w' ⟨rfl, rfl⟩
            rw [Hu.out]
            go_wp2
            go_roundw
            case rel => exact ⟨j + 1, p, by omega, by omega, by go_num, rfl, hs3⟩
            case measure => simp [intOf]; omega
          · have hof := acksS_none (n := k) (m := q) (k := zs[j]) (by omega) hgo
            have Hof := Lib.hid hof; clear hof
            have hu : ((acksS k q).ds.length : Int) = (k : Int) - q := by simp [acksS]; omega
            have Hu := Lib.hid hu; clear hu
            generalize zs[j] = z at *
            have hcase : z ≤ q ∨ ((q : Int) < z ∧ (k : Int) < z) := by omega
            clear hgo
            rcases hcase with h1 | ⟨h1, h2⟩
            all_goals
              go_wp2_with fail
              refine (at1_ack hs _ _ _ Hof.out.1 Hof.out.2).mono ?_
              rintro e w3 ⟨rfl, hs3⟩
              go_wp2_with fail
              refine (at1_unacked hs3).mono ?_
              rintro e w' ⟨rfl, rfl⟩
              rw [Hu.out]
              go_wp2
              go_roundw
              case rel => exact ⟨j + 1, q, by omega, by omega, by go_num, rfl, hs3⟩
              case measure => simp [intOf]; omega
        · obtain rfl : j = m := by omega
          go_wp2
          go_ret
          exact ⟨rfl, hs.end_⟩

theorem acks_walk (n : Int) (A : Option Addr) (c : Nat) (zs : List Int) (w : World) (hr : Rd w 1 A zs.length (zs.map (Value.int .i64))) :
    Calls Try.prog 5 #[.int .i64 n, .slice A zs.length c] w (BoolRet w true) := by
  by_cases h : n < 0 ∨ (0 ≤ n ∧ 16 < n) ∨ (0 ≤ n ∧ n ≤ 16 ∧ 100 < zs.length)
  · exact acks_bad n A _ c w h
  · obtain ⟨k, rfl⟩ : ∃ k : Nat, n = (k : Int) := ⟨n.toNat, by omega⟩
    exact acks_good k A c zs w (by omega) (by omega) hr
end Go.Proofs.Ytjloipjchcaloaa
