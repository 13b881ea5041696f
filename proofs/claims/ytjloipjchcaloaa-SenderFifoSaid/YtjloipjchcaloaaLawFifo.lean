/- The walk of SenderFifo: for every window and every list of texts it returns true and changes nothing that was there. -/
import Derived.Test.YtjloipjchcaloaaAw10
namespace Go.Proofs.Ytjloipjchcaloaa
open Go.RowKit
set_option linter.unusedVariables false

attribute [local go_sem ↓] run_max_mx run_min_mn

theorem Try.info9 : (Try.prog.info? 9).map (fun i => (i.zero, i.size, i.bytes)) = some (some (.string ByteArray.empty), 1, 16) := by kernel_rfl

/-- k texts offered, a of them acknowledged -/
def fifoS (W : Nat) (l : List ByteArray) (k a : Nat) : Snd := ⟨W, 1125899906842624, k, (l.take k).drop a⟩

theorem fifo_len {W : Nat} {l : List ByteArray} {k a : Nat} (hk : k ≤ l.length) (ha : a ≤ k) : (fifoS W l k a).ds.length = k - a := by
  simp [fifoS]; omega

theorem fifo_off {W : Nat} {l : List ByteArray} {k a : Nat} (hk : k < l.length) (ha : a ≤ k) (hw : k - a < W) (hl : l.length ≤ 100) :
    (fifoS W l k a).offN = (k : Int) + 1 ∧ (fifoS W l k a).offE = 0 ∧ (fifoS W l k a).off l[k] = fifoS W l (k + 1) a := by
  have hlen := fifo_len (W := W) (l := l) (Nat.le_of_lt hk) ha
  have h1 : ¬ (fifoS W l k a).ds.length = (fifoS W l k a).win := by rw [hlen]; simp [fifoS]; omega
  have h2 : ¬ (fifoS W l k a).sent = (fifoS W l k a).last := by simp [fifoS]; omega
  refine ⟨by unfold Snd.offN; rw [if_neg h1, if_neg h2]; rfl, by unfold Snd.offE; rw [if_neg h1, if_neg h2], ?_⟩
  unfold Snd.off
  rw [if_neg h1, if_neg h2]
  simp only [fifoS, Snd.mk.injEq, true_and]
  rw [List.take_succ_eq_append_getElem hk, List.drop_append_of_le_length (by simp; omega)]

theorem fifo_ack {W : Nat} {l : List ByteArray} {k a : Nat} (hk : k ≤ l.length) (ha : a < k) :
    ((fifoS W l k a).gone ((a : Int) + 1) : Int) = 1 ∧ (fifoS W l k a).ack ((a : Int) + 1) = fifoS W l k (a + 1) := by
  have hlen := fifo_len (W := W) (l := l) hk (Nat.le_of_lt ha)
  have hg : (fifoS W l k a).gone ((a : Int) + 1) = 1 := by
    have hn : ¬ ((fifoS W l k a).sent : Int) < (a : Int) + 1 := by simp only [fifoS]; omega
    unfold Snd.gone
    rw [if_neg hn, hlen]
    simp only [fifoS]; omega
  refine ⟨by rw [hg]; rfl, ?_⟩
  unfold Snd.ack
  rw [hg]
  simp [fifoS]

theorem fifo_cells {W : Nat} {l : List ByteArray} {k a : Nat} (hk : k ≤ l.length) (ha : a ≤ k) (j : Nat) (hj : j < k - a) (hjl : a + j < l.length) :
    (fifoS W l k a).cells[j * 2]? = some (.int .i64 (((a + j : Nat) : Int) + 1)) ∧ (fifoS W l k a).cells[j * 2 + 1]? = some (.string l[a + j]) := by
  have hlen := fifo_len (W := W) (l := l) hk ha
  unfold Snd.cells
  rw [hlen]
  have e : (fifoS W l k a).sent - (k - a) = a := by simp only [fifoS]; omega
  rw [e]
  refine ⟨pcs_seq j a _ (by omega), ?_⟩
  rw [pcs_data j a _ (by omega)]
  simp [fifoS]

theorem map_take_snoc {α β : Type} (f : α → β) (l : List α) (a : Nat) (h : a < l.length) : (l.take a).map f ++ [f l[a]] = (l.take (a + 1)).map f := by
  rw [List.take_succ_eq_append_getElem h, List.map_append]; rfl

def FifoInv (w0 : World) (g W : Nat) (l : List ByteArray) (k a : Nat) (A : Option Addr) (c : Nat) (w : World) : Prop :=
  ∃ own, Base w0.heap.size w0 w own ∧ SndAt w own 1 g (fifoS W l k a) ∧ OwnS w own 2 9 1 A a c ((l.take a).map Value.string)

theorem fifo_new (window : Int) : Snd.new window 1125899906842624 = fifoS (clampI window 1 16).toNat [] 0 0 := by
  simp [Snd.new, fifoS, clampI]
theorem fifo_zero (W : Nat) (l l' : List ByteArray) : fifoS W l 0 0 = fifoS W l' 0 0 := by simp [fifoS]

set_option maxHeartbeats 1000000 in
set_option maxRecDepth 10000 in
theorem fifo_long (window : Int) (A : Option Addr) (m c : Nat) (w : World) (h : 100 < m) :
    Calls Try.prog 3 #[.int .i64 window, .slice A m c] w (BoolRet w true) := by
  go_enter Try.func3, Try.ntmps3
  go_wp2_with fail
  refine (snd_new 1 (fun _ => 0) _ _ w).mono ?_
  rintro e w1 ⟨rfl, own1, st1, h1⟩
  go_wp2_with fail
  refine (awake10 w1).mono ?_
  rintro e w2 ⟨rfl, hg⟩
  go_wp2_with fail
  refine (awake10 w2).mono ?_
  rintro e w3 ⟨rfl, hg2⟩
  go_wp2
  go_ret
  exact ⟨rfl, grown_of_step ((st1.grown hg (by simp)).grown hg2 (by simp)) (by omega)⟩

set_option maxHeartbeats 4000000 in
set_option maxRecDepth 10000 in
theorem fifo_play (window : Int) (A : Option Addr) (c : Nat) (l : List ByteArray) (w : World) (hl : l.length ≤ 100) (hr : Rd w 1 A l.length (l.map Value.string)) :
    Calls Try.prog 3 #[.int .i64 window, .slice A l.length c] w (BoolRet w true) := by
  have Hr := Lib.hid hr; clear hr
  obtain ⟨W, hW⟩ : ∃ W : Nat, (W : Int) = min (max window 1) 16 := ⟨(min (max window 1) 16).toNat, by omega⟩
  have hW1 : 1 ≤ W := by omega
  have hW16 : W ≤ 16 := by omega
  have hnew : Snd.new window 1125899906842624 = fifoS W l 0 0 := by
    simp only [Snd.new, fifoS, clampI, Snd.mk.injEq, List.take_zero, List.drop_nil, and_true]
    exact ⟨by (repeat' split) <;> omega, by simp⟩
  have Hnew := Lib.hid hnew; clear hnew
  have HW := Lib.hid hW; clear hW
  obtain ⟨i0, hi, hz0, hz1, hz2⟩ := info_parts Try.info9
  go_enter Try.func3, Try.ntmps3
  go_wp2_with fail
  refine (snd_new 1 (fun _ => 0) _ _ w).mono ?_
  rintro e w1 ⟨rfl, own1, st1, h1⟩
  rw [Hnew.out] at h1
  have hB1 := (Base.start w).step st1 (by omega)
  clear st1
  have hg : w.heap.size = w.heap.size := rfl
  clear hg
  obtain ⟨g, hgv⟩ : ∃ g, g = w.heap.size := ⟨_, rfl⟩
  rw [← hgv] at h1 ⊢
  clear hgv
  go_wp2_with fail
  refine (awake10 w1).mono ?_
  rintro e w2 ⟨rfl, hg⟩
  have hst : FifoInv w g W l 0 0 none 0 w2 := ⟨give own1 w1.heap.size 9, hB1.step (((Step.refl 9 w1 own1).give_ 9).grown hg (by simp)) (by omega), h1.grown hg (Nat.le_refl _), OwnS.nil _ _ _ _ _⟩
  clear h1 hB1 hg
  generalize hN : l.length = m at *
  have HN := Lib.hid hN; clear hN
  go_wp2_with fail
  go_loopw [6, 32] (fun v i wr => ∃ k a : Nat, ∃ A c, k ≤ m ∧ a ≤ k ∧ k - a ≤ W ∧ i = .int .i64 k ∧ v = .slice A a c ∧ FifoInv w g W l k a A c wr) (fun _ i _ => m - (intOf i).toNat)
  case atStart => exact ⟨0, 0, none, 0, by omega, by omega, by omega, rfl, rfl, hst⟩
  case round =>
    clear hst
    obtain ⟨k, a, A2, c2, hk, ha, hka, rfl, rfl, own, hB, hs, hO⟩ := hrel
    by_cases hlt : k < m
    · have hkl : k < l.length := by have := HN.out; omega
      have hrd : Rd wr 1 A m (l.map Value.string) := Hr.out.keep (fun b off _ _ hb => hB.below.block b hb) (by omega)
      obtain ⟨b, off, hz', rfl, hcell⟩ := hrd.map_at hlt
      clear hrd
      by_cases hbig : 100 < l[k].size
      · generalize l[k] = x at hcell hbig
        go_wp2_with fail
        go_ret
        exact ⟨rfl, ⟨hB.below.os, hB.below.tape, hB.below.output, hB.below.size, fun q hq _ => hB.below.block q hq⟩⟩
      · obtain ⟨x, hx⟩ : ∃ x, x = l[k] := ⟨_, rfl⟩
        rw [← hx] at hcell hbig
        have Hx := Lib.hid hx; clear hx
        have Hcell := Lib.hid hcell; clear hcell
        have hlen := fifo_len (W := W) (l := l) (k := k) (a := a) (Nat.le_of_lt hkl) ha
        have Hlen := Lib.hid hlen; clear hlen
        by_cases hfull : k - a < W
        · have hof := fifo_off (W := W) (l := l) (k := k) (a := a) hkl ha hfull (by have := HN.out; omega)
          rw [← Hx.out] at hof
          have Hof := Lib.hid hof; clear hof
          have hcell := Hcell.out
          have htest : ((k - a : Nat) : Int) < min (max window 1) 16 := by have := HW.out; omega
          go_wp2_with fail
          refine wp_loop_rounds 1 ?_
          rw [rounds_succ]
          go_wp2_with fail
          refine (snd_unacked hs).mono ?_
          rintro e w' ⟨rfl, rfl⟩
          rw [Hlen.out]
          go_wp2_with fail
          refine (snd_offer_is hs x _ _ _ Hof.out.1 Hof.out.2.1 Hof.out.2.2).mono ?_
          rintro e w4 ⟨rfl, own4, st4, hs4⟩
          go_wp2_with fail
          go_roundw
          case rel => exact ⟨k + 1, a, _, c2, by omega, by omega, by omega, by go_num, rfl, own4, hB.step st4 (by omega), hs4, hO.step st4 (by omega)⟩
          case measure => simp [intOf]; omega
        · have hak : a < k := by omega
          have hal : a < l.length := by omega
          have hack := fifo_ack (W := W) (l := l) (k := k) (a := a) (Nat.le_of_lt hkl) hak
          have Hack := Lib.hid hack; clear hack
          have hce := fifo_cells (W := W) (l := l) (k := k) (a := a) (Nat.le_of_lt hkl) ha 0 (by omega) (by omega)
          have Hce := Lib.hid hce; clear hce
          have hof := fifo_off (W := W) (l := l) (k := k) (a := a + 1) hkl (by omega) (by omega) (by have := HN.out; omega)
          rw [← Hx.out] at hof
          have Hof := Lib.hid hof; clear hof
          have hlen2 := fifo_len (W := W) (l := l) (k := k) (a := a + 1) (Nat.le_of_lt hkl) (by omega)
          have Hlen2 := Lib.hid hlen2; clear hlen2
          have htest : min (max window 1) 16 ≤ ((k - a : Nat) : Int) := by have := HW.out; omega
          have htest2 : ((k - (a + 1) : Nat) : Int) < min (max window 1) 16 := by have := HW.out; omega
          obtain ⟨y, hy⟩ : ∃ y, y = l[a] := ⟨_, rfl⟩
          have Hy := Lib.hid hy; clear hy
          have hcell := Hcell.out
          go_wp2_with fail
          refine wp_loop_rounds 2 ?_
          rw [rounds_succ]
          go_wp2_with fail
          refine (snd_unacked hs).mono ?_
          rintro e w' ⟨rfl, rfl⟩
          rw [Hlen.out]
          go_wp2_with fail
          refine (snd_pieces hs).mono ?_
          rw [Hlen.out]
          rintro e w4 ⟨P, cp, rfl, hnr⟩
          have hs4 := hs.grown (b0 := wr.heap.size) (j := 3) hnr.grown (Nat.le_refl _)
          have hO4 := hO.grown (b0 := wr.heap.size) (j := 3) hnr.grown (Nat.le_refl _)
          have hB4 := hB.step (hnr.step own 3) (by omega)
          have hp4 := hnr.row own wr.heap.size 3 (Nat.le_refl _)
          clear hnr hs hO hB
          generalize give own wr.heap.size 3 = own4 at hs4 hO4 hB4 hp4
          obtain ⟨pb, po, pcs', rfl, _, hpb, hpx⟩ := hp4.2 (by omega)
          have k0 : w4.cell? ⟨pb, po, none⟩ = some (.int .i64 ((a : Int) + 1)) := by
            have := (hpb.cell po).trans (hpx 0 _ Hce.out.1)
            simpa using this
          have k1 : w4.cell? ⟨pb, po + 1, none⟩ = some (.string y) := by
            have := (hpb.cell (po + 1)).trans (hpx 1 _ (by simpa using Hce.out.2))
            rw [Hy.out]; simpa using this
          have hne : (((k - a : Nat) : Int) == 0) = false := by simp; omega
          have hpos : (0 : Int) < ((k - a : Nat) : Int) := by omega
          clear hpb hpx
          go_wp2_with fail
          refine (snd_ack_is hs4 ((a : Int) + 1) 1 _ Hack.out.1 Hack.out.2).mono ?_
          rintro e w5 ⟨rfl, own5, st5, hs5⟩
          have hO5 := hO4.step st5 (by omega)
          have hp5 := hp4.step st5 (by omega)
          have hB5 := hB4.step st5 (by omega)
          clear hO4 hp4 hB4 hs4 st5 k0 k1
          obtain ⟨pb', po', pcs2, e, _, hpb, hpx⟩ := hp5.2 (by omega)
          injection e with e
          injection e with e1 e2
          subst e1; subst e2
          have k1 : w5.cell? ⟨pb, po + 1, none⟩ = some (.string y) := by
            have := (hpb.cell (po + 1)).trans (hpx 1 _ (by simpa using Hce.out.2))
            rw [Hy.out]; simpa using this
          clear hpb hpx hp5
          have hnews : Rd (w5.alloc (.cells #[.string y] 9)) 1 (some ⟨w5.heap.size, 0, none⟩) 1 [.string y] := Rd.of_blk (Blk.new w5 9 _) (by simp) (fun j u h => by simpa using h)
          go_wp2_with (at_builtin; refine wpList_mine rfl (.tmp 70) (.tmp 75) 22 rfl 9 i0 (.string ByteArray.empty) 1 16 Try.underlying22 hi hz0 hz1 hz2 rfl (by decide) own5 2 A2 a c2 _ (by rfl) (hO5.alloc _) (some ⟨w5.heap.size, 0, none⟩) 1 1 [.string y] (by rfl) hnews (by simp [Value.oneCell']) (by unfold maxLen; omega) (by omega) ?_; intro A3 c3 w6 own6 hO6 st6)
          have st56 := ((Step.refl 2 w5 own5).alloc (.cells #[.string y] 9)).trans st6
          have hs6 := hs5.other st56 (by omega)
          have hB6 := hB5.step st56 (by omega)
          have e7 : (l.take a).map Value.string ++ [.string y] = (l.take (a + 1)).map Value.string := by
            rw [Hy.out]; exact map_take_snoc _ l a hal
          rw [e7] at hO6
          clear e7 st56 st6 hs5 hB5 hO5 hnews k1
          rw [rounds_succ]
          go_wp2_with fail
          refine (snd_unacked hs6).mono ?_
          rintro e w' ⟨rfl, rfl⟩
          rw [Hlen2.out]
          go_wp2_with fail
          refine (snd_offer_is hs6 x _ _ _ Hof.out.1 Hof.out.2.1 Hof.out.2.2).mono ?_
          rintro e w7 ⟨rfl, own7, st7, hs7⟩
          go_wp2_with fail
          go_roundw
          case rel => exact ⟨k + 1, a + 1, _, c3, by omega, by omega, by omega, by go_num, rfl, own7, hB6.step st7 (by omega), hs7, hO6.step st7 (by omega)⟩
          case measure => simp [intOf]; omega
    · obtain rfl : k = m := by omega
      have hlen := fifo_len (W := W) (l := l) (k := k) (a := a) (by have := HN.out; omega) ha
      have Hlen := Lib.hid hlen; clear hlen
      go_wp2_with fail
      refine (snd_pieces hs).mono ?_
      rw [Hlen.out]
      rintro e w4 ⟨P, cp, rfl, hnr⟩
      have hO4 := hO.grown (b0 := wr.heap.size) (j := 3) hnr.grown (Nat.le_refl _)
      have hB4 := hB.step (hnr.step own 3) (by omega)
      have hp4 := hnr.row own wr.heap.size 3 (Nat.le_refl _)
      clear hnr hs hO hB
      generalize give own wr.heap.size 3 = own4 at hO4 hB4 hp4
      obtain ⟨q, hq⟩ : ∃ q, q = k - a := ⟨_, rfl⟩
      rw [← hq] at hp4 ⊢
      have hq' : a + q = k := by omega
      clear hq
      go_wp2_with fail
      go_loopw [6, 95] (fun v i wr => ∃ j : Nat, ∃ A c own, j ≤ q ∧ i = .int .i64 j ∧ v = .slice A (a + j) c ∧ Base w.heap.size w wr own ∧ OwnS wr own 2 9 1 A (a + j) c ((l.take (a + j)).map Value.string) ∧ Row wr own 3 30 2 P q (fifoS W l k a).cells) (fun _ i _ => q - (intOf i).toNat)
      case atStart => exact ⟨0, A2, c2, own4, by omega, rfl, rfl, hB4, hO4, hp4⟩
      case round =>
        clear hO4 hB4 hp4
        obtain ⟨j, A5, c5, own5, hj, rfl, rfl, hB5, hO5, hp5⟩ := hrel
        by_cases hjq : j < q
        · have hajl : a + j < l.length := by have := HN.out; omega
          have hce := fifo_cells (W := W) (l := l) (k := k) (a := a) (by have := HN.out; omega) ha j (by omega) hajl
          obtain ⟨y, hy⟩ : ∃ y, y = l[a + j] := ⟨_, rfl⟩
          rw [← hy] at hce
          have Hy := Lib.hid hy; clear hy
          obtain ⟨pb, po, pcs2, rfl, _, hpb, hpx⟩ := hp5.2 (by omega)
          have k0 : wr.cell? ⟨pb, po + j * 2, none⟩ = some (.int .i64 (((a + j : Nat) : Int) + 1)) := (hpb.cell _).trans (hpx _ _ hce.1)
          have k1 : wr.cell? ⟨pb, po + j * 2 + 1, none⟩ = some (.string y) := (hpb.cell _).trans (hpx _ _ hce.2)
          clear hpb hpx hce
          generalize (((a + j : Nat) : Int) + 1) = sq at k0
          have hnews : Rd ((wr.alloc (.cells #[.int .i64 sq, .string y] 30)).alloc (.cells #[.string y] 9)) 1 (some ⟨wr.heap.size + 1, 0, none⟩) 1 [.string y] := Rd.of_blk (by simpa using Blk.new (wr.alloc (.cells #[.int .i64 sq, .string y] 30)) 9 #[.string y]) (by simp) (fun j u h => by simpa using h)
          go_wp2_with (at_builtin; refine wpList_mine rfl (.tmp 99) (.tmp 102) 22 rfl 9 i0 (.string ByteArray.empty) 1 16 Try.underlying22 hi hz0 hz1 hz2 rfl (by decide) own5 2 A5 (a + j) c5 _ (by rfl) ((hO5.alloc _).alloc _) (some ⟨wr.heap.size + 1, 0, none⟩) 1 1 [.string y] (by rfl) hnews (by simp [Value.oneCell']) (by unfold maxLen; omega) (by omega) ?_; intro A6 c6 w6 own6 hO6 st6)
          have st56 := (((Step.refl 2 wr own5).alloc (.cells #[.int .i64 sq, .string y] 30)).alloc (.cells #[.string y] 9)).trans st6
          have e7 : (l.take (a + j)).map Value.string ++ [.string y] = (l.take (a + (j + 1))).map Value.string := by
            rw [Hy.out]; exact map_take_snoc _ l (a + j) hajl
          rw [e7] at hO6
          go_roundw
          case rel => exact ⟨j + 1, A6, c6, own6, by omega, by go_num, rfl, hB5.step st56 (by omega), hO6, hp5.step st56 (by omega)⟩
          case measure => simp [intOf]; omega
        · obtain rfl : j = q := by omega
          rw [hq'] at hO5
          have hlk : l.length = k := HN.out
          have hfull : (l.take k).map Value.string = l.map Value.string := by rw [← hlk, List.take_length]
          rw [hfull] at hO5
          have hrdg := hO5.row.rd
          have hrd : Rd wr 1 A k (l.map Value.string) := Hr.out.keep (fun b off _ _ hb => hB5.below.block b hb) (by omega)
          have Hrdg := Lib.hid hrdg; clear hrdg
          have Hrd := Lib.hid hrd; clear hrd
          clear hlk hfull hp5 hO5
          simp only [hq']
          go_wp2_with fail
          go_loop [107] (fun i => ∃ t : Nat, t ≤ k ∧ i = .int .i64 t) (fun i => k - (intOf i).toNat)
          case atStart => exact ⟨0, by omega, rfl⟩
          case round =>
            obtain ⟨t, ht, rfl⟩ := hrel
            by_cases htk : t < k
            · obtain ⟨b, off, hz', rfl, hcl⟩ := Hrd.out.map_at htk
              obtain ⟨b2, off2, hz2', rfl, hcg⟩ := Hrdg.out.map_at htk
              generalize l[t] = y at hcl hcg
              go_wp2
              go_round
              case rel => exact ⟨t + 1, by omega, by go_num⟩
              case measure => simp [intOf]; omega
            · obtain rfl : t = k := by omega
              go_wp2
              go_ret
              exact ⟨rfl, ⟨hB5.below.os, hB5.below.tape, hB5.below.output, hB5.below.size, fun q hq _ => hB5.below.block q hq⟩⟩

theorem fifo_walk (window : Int) (A : Option Addr) (c : Nat) (l : List ByteArray) (w : World) (hr : Rd w 1 A l.length (l.map Value.string)) :
    Calls Try.prog 3 #[.int .i64 window, .slice A l.length c] w (BoolRet w true) := by
  by_cases h : 100 < l.length
  · exact fifo_long window A _ c w h
  · exact fifo_play window A c l w (by omega) hr
end Go.Proofs.Ytjloipjchcaloaa
