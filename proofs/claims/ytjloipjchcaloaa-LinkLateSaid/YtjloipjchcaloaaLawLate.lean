/- The walk of LinkLate. -/
import Derived.Test.YtjloipjchcaloaaEndO
import Derived.Test.YtjloipjchcaloaaAw12
namespace Go.Proofs.Ytjloipjchcaloaa
open Go.RowKit
set_option linter.unusedVariables false

/-- the end that offers, behind k offers -/
def lateA (T : List ByteArray) (k : Nat) : Lnk := ⟨3, 16, 16, false, ⟨16, 1125899906842624, k, T.take k⟩, Rcv.new 16⟩
/-- the other end, behind k frames and j pops -/
def lateB (T : List ByteArray) (k j : Nat) : Lnk := if k = 0 then Lnk.new 0 16 16 true else ⟨3, 16, 16, true, Snd.new 16 1125899906842624, ⟨16, k, (T.take k).drop j⟩⟩

theorem lateA_new (T : List ByteArray) : Lnk.new 3 16 16 false = lateA T 0 := by
  simp [lateA, Lnk.new, epochC, clampI, Snd.new]
theorem lateA_off (T : List ByteArray) (k : Nat) (hk : k < T.length) (hT : T.length ≤ 16) : (lateA T k).s.offE = 0 ∧ { lateA T k with s := (lateA T k).s.off T[k] } = lateA T (k + 1) := by
  have hl : (T.take k).length = k := by simp; omega
  have h1 : ¬ (T.take k).length = 16 := by omega
  have h2 : ¬ k = 1125899906842624 := by omega
  constructor
  · show Snd.offE ⟨16, 1125899906842624, k, T.take k⟩ = 0
    unfold Snd.offE
    rw [if_neg h1, if_neg h2]
  · show (⟨3, 16, 16, false, Snd.off ⟨16, 1125899906842624, k, T.take k⟩ T[k], Rcv.new 16⟩ : Lnk) = _
    unfold Snd.off
    rw [if_neg h1, if_neg h2]
    unfold lateA
    rw [List.take_succ_eq_append_getElem hk]
theorem lateA_frames (T : List ByteArray) (h0 : 0 < T.length) : (lateA T T.length).frames = frs 3 0 0 T := by
  have hne : T.take T.length ≠ [] := by
    intro e
    have := congrArg List.length e
    simp at this
    rw [this] at h0
    simp at h0
  unfold Lnk.frames lateA
  rw [if_neg (show ¬ (3 : Nat) = 0 by decide), if_neg hne]
  show frs ((3 : Nat) : Int) ((0 : Nat) : Int) (T.length - (T.take T.length).length) (T.take T.length) = _
  rw [List.take_length, Nat.sub_self]
  rfl
theorem late_ack (n : Int) : (Snd.new 16 1125899906842624).ack n = Snd.new 16 1125899906842624 := by simp [Snd.ack, Snd.new]
theorem late_index (late : Int) (j : Nat) (h : 0 < j) : ∃ r : Nat, r < j ∧ (IntKind.u64.wrap late).tmod (j : Int) = (r : Int) := by
  have h0 : 0 ≤ IntKind.u64.wrap late := wrap_u64_nonneg late
  have h1 := Int.tmod_nonneg (j : Int) h0
  have h2 := Int.tmod_lt_of_pos (IntKind.u64.wrap late) (show (0 : Int) < (j : Int) by omega)
  exact ⟨((IntKind.u64.wrap late).tmod (j : Int)).toNat, by omega, by omega⟩
theorem lateB_hear (T : List ByteArray) (k : Nat) (hk : k < T.length) (hT : T.length ≤ 16) (d : ByteArray) (hd : d = T[k]) : (lateB T k 0).hear 3 ((k : Int) + 1) 0 d = lateB T (k + 1) 0 := by
  subst hd
  have e2 : lateB T (k + 1) 0 = ⟨3, 16, 16, true, Snd.new 16 1125899906842624, ⟨16, k + 1, T.take k ++ [T[k]]⟩⟩ := by
    unfold lateB
    rw [if_neg (by omega), List.drop_zero, List.take_succ_eq_append_getElem hk]
  rw [e2]
  have ht : ∀ q : List ByteArray, q.length = k → (⟨16, k, q⟩ : Rcv).hear ((k : Int) + 1) T[k] = ⟨16, k + 1, q ++ [T[k]]⟩ := fun q hq => by
    unfold Rcv.hear
    rw [if_pos]
    simp only [Rcv.takes, decide_eq_true_eq]
    exact ⟨by rw [hq]; omega, trivial⟩
  by_cases h0 : k = 0
  · subst h0
    unfold lateB
    rw [if_pos rfl]
    unfold Lnk.hear
    rw [if_neg (by decide), if_pos (by decide), if_pos (show (Lnk.new 0 16 16 true).passive = true from rfl)]
    have e3 : Lnk.new 3 (Lnk.new 0 16 16 true).window (Lnk.new 0 16 16 true).room (Lnk.new 0 16 16 true).passive = ⟨3, 16, 16, true, Snd.new 16 1125899906842624, ⟨16, 0, []⟩⟩ := by simp [Lnk.new, epochC, clampI, Rcv.new, clampR]
    rw [e3]
    unfold Lnk.heard
    rw [if_neg (by decide)]
    simp only [late_ack]
    rw [ht [] rfl]
    rfl
  · unfold lateB
    rw [if_neg h0, List.drop_zero]
    unfold Lnk.hear
    rw [if_neg (by simp), if_neg (by simp)]
    unfold Lnk.heard
    rw [if_neg (by omega)]
    simp only [late_ack]
    rw [ht _ (by simp; omega)]
theorem lateB_late (T : List ByteArray) (n j i : Nat) (h0 : 0 < n) (hi : i < n) (d : ByteArray) : (lateB T n j).hear 3 ((i : Int) + 1) 0 d = lateB T n j := by
  unfold lateB
  rw [if_neg (by omega)]
  unfold Lnk.hear
  rw [if_neg (by simp), if_neg (by simp)]
  unfold Lnk.heard
  rw [if_neg (by omega)]
  simp only [late_ack]
  have hk : (⟨16, n, (T.take n).drop j⟩ : Rcv).hear ((i : Int) + 1) d = ⟨16, n, (T.take n).drop j⟩ := by
    unfold Rcv.hear
    rw [if_neg]
    simp only [Rcv.takes, decide_eq_true_eq]
    rintro ⟨_, h⟩
    omega
  rw [hk]
theorem lateB_pop (T : List ByteArray) (j : Nat) (hj : j < T.length) : (lateB T T.length j).r.popV = T[j] ∧ (lateB T T.length j).r.popB = true ∧ { lateB T T.length j with r := (lateB T T.length j).r.pop } = lateB T T.length (j + 1) := by
  have e : (T.take T.length).drop j = T[j] :: T.drop (j + 1) := by rw [List.take_length, List.drop_eq_getElem_cons hj]
  unfold lateB
  rw [if_neg (by omega), if_neg (by omega)]
  refine ⟨?_, ?_, ?_⟩
  · simp [Rcv.popV, hj]
  · simp [Rcv.popB, hj]
  · simp [Rcv.pop]
theorem lateB_waiting (T : List ByteArray) (h0 : 0 < T.length) : ((lateB T T.length 0).r.q.length : Int) = (T.length : Int) ∧ ((lateB T T.length T.length).r.q.length : Int) = 0 := by
  unfold lateB
  rw [if_neg (by omega), if_neg (by omega)]
  simp
theorem lateB_acked (T : List ByteArray) (k j : Nat) (hk : k ≤ 16) : (lateB T k j).r.acked ≤ 1125899906842624 := by
  unfold lateB
  split
  · decide
  · show k ≤ _; omega

set_option maxHeartbeats 4000000 in
set_option maxRecDepth 10000 in
theorem late12_bad (late : Int) (A : Option Addr) (m c : Nat) (w : World) (hbad : 16 < m ∨ m = 0) :
    Calls Try.prog 16 #[.slice A m c, .int .i64 late] w (BoolRet w true) := by
  go_enter Try.func16, Try.ntmps16
  go_wp2_with fail
  refine (pre_new (Pre.start w) Kept.none 3 16 16 false).mono ?_
  rintro e w1 ⟨rfl, hE⟩
  go_wp2_with fail
  refine (endo_new2 hE Kept.none 0 16 16 true).mono ?_
  rintro e w2 ⟨rfl, hE2⟩
  clear hE
  go_wp2_with fail
  refine (awake12 w2).mono ?_
  rintro e w3 ⟨rfl, hg⟩
  have hE3 := hE2.grown Kept.none hg
  clear hE2 hg
  rcases hbad with h | h
  · go_wp2_with fail
    refine (awake12 w3).mono ?_
    rintro e w4 ⟨rfl, hg⟩
    have hE4 := hE3.grown Kept.none hg
    clear hE3 hg
    go_wp2
    go_ret
    exact ⟨rfl, hE4.end_⟩
  · subst h
    go_wp2_with fail
    refine (awake12 w3).mono ?_
    rintro e w4 ⟨rfl, hg⟩
    have hE4 := hE3.grown Kept.none hg
    clear hE3 hg
    go_wp2
    go_ret
    exact ⟨rfl, hE4.end_⟩

set_option maxHeartbeats 8000000 in
set_option maxRecDepth 10000 in
theorem late12_play (late : Int) (A : Option Addr) (c : Nat) (l : List ByteArray) (w : World) (hr : Rd w 1 A l.length (l.map Value.string)) (h0 : 0 < l.length) (h16 : l.length ≤ 16) :
    Calls Try.prog 16 #[.slice A l.length c, .int .i64 late] w (BoolRet w true) := by
  have Hr := Lib.hid hr; clear hr
  generalize hN : l.length = m at *
  have HN := Lib.hid hN; clear hN
  have hm0 : ((m : Int) == 0) = false := by simp; omega
  go_enter Try.func16, Try.ntmps16
  go_wp2_with fail
  refine (pre_new (Pre.start w) Kept.none 3 16 16 false).mono ?_
  rintro e w1 ⟨rfl, hE⟩
  rw [lateA_new l] at hE
  generalize w.heap.size = ga at hE ⊢
  go_wp2_with fail
  refine (endo_new2 hE Kept.none 0 16 16 true).mono ?_
  rintro e w2 ⟨rfl, hE2⟩
  clear hE
  generalize w1.heap.size = gb at hE2 ⊢
  rw [show Lnk.new 0 16 16 true = lateB l 0 0 from rfl] at hE2
  go_wp2_with fail
  refine (awake12 w2).mono ?_
  rintro e w3 ⟨rfl, hg⟩
  have hE3 := hE2.grown Kept.none hg
  clear hE2 hg
  go_wp2_with fail
  go_loopw [42] (fun v wr => ∃ k : Nat, k ≤ m ∧ v = .int .i64 k ∧ Ends w ga (lateA l k) gb (lateB l 0 0) (fun _ _ => True) wr) (fun v _ => m - (intOf v).toNat)
  case atStart => exact ⟨0, by omega, rfl, hE3⟩
  case round =>
    clear hE3
    obtain ⟨k, hk, rfl, hs⟩ := hrel
    by_cases hlt : k < m
    · have hrd : Rd wr 1 A m (l.map Value.string) := Hr.out.keep (fun b off _ _ hb => hs.end_.block b hb (by simp)) (by omega)
      obtain ⟨b, off, hkl, rfl, c0⟩ := hrd.map_at hlt
      clear hrd
      obtain ⟨tx, htx⟩ : ∃ tx, l[k] = tx := ⟨_, rfl⟩
      have hof := lateA_off l k hkl (by have := HN.out; omega)
      rw [htx] at c0 hof
      have Hof := Lib.hid hof; clear hof htx
      by_cases ht : 50 < tx.size
      · go_wp2_with fail
        go_ret
        exact ⟨rfl, hs.end_⟩
      · go_wp2_with fail
        refine (ends_offer1 hs Kept.none tx 0 _ Hof.out.1 rfl).mono ?_
        rw [Hof.out.2]
        rintro e w5 ⟨rfl, hE5⟩
        clear hs c0
        go_wp2_with fail
        go_roundw
        case rel => exact ⟨k + 1, by omega, by go_num, hE5⟩
        case measure => simp [intOf]; omega
    · obtain rfl : k = m := by omega
      have hfr := lateA_frames l (by have := HN.out; omega)
      rw [HN.out] at hfr
      have Hfr := Lib.hid hfr; clear hfr
      have hfl : (frs 3 0 0 l).length = k := by rw [frs_length]; exact HN.out
      have hnF : ∀ (i : Nat), i < k → ∃ d, l[i]? = some d ∧ (frs 3 0 0 l)[i]? = some ⟨3, (i : Int) + 1, 0, d⟩ := fun i hi => by
        have hil : i < l.length := by have := HN.out; omega
        refine ⟨l[i], by simp [hil], ?_⟩
        rw [frs_get 3 0 i 0 l hil]
        rw [show ((0 + i + 1 : Nat) : Int) = (i : Int) + 1 by omega]
      have HnF := Lib.hid hnF; clear hnF
      generalize frs 3 0 0 l = F at Hfr hfl HnF
      have Hfl := Lib.hid hfl; clear hfl
      go_wp2_with fail
      refine (ends_frames1 hs).mono ?_
      rw [Hfr.out]
      rintro e w5 ⟨A5, c5, rfl, hnr⟩
      rw [Hfl.out] at hnr ⊢
      have hE5 := hs.hold Kept.none hnr
      have HK5 := Lib.hid (Kept.row Kept.none 78 4 A5 k (fcells F))
      clear hs hnr
      obtain ⟨b5, o5, rfl⟩ : ∃ b5 o5, A5 = some ⟨b5, o5, none⟩ := by
        obtain ⟨own, _, _, _, _, hr⟩ := hE5
        obtain ⟨b, off, _, e, _⟩ := hr.2 h0
        exact ⟨b, off, e⟩
      go_wp2_with fail
      go_loopw [63] (fun v wr => ∃ j : Nat, j ≤ k ∧ v = .int .i64 j ∧ Ends w ga (lateA l k) gb (lateB l j 0) (fun w own => True ∧ Row w own 30 78 4 (some ⟨b5, o5, none⟩) k (fcells F)) wr) (fun v _ => k - (intOf v).toNat)
      case atStart => exact ⟨0, by omega, rfl, hE5⟩
      case round =>
        clear hE5
        obtain ⟨j, hj, rfl, hs⟩ := hrel
        by_cases hlt2 : j < k
        · obtain ⟨d, hd, hf⟩ := HnF.out j hlt2
          obtain ⟨c0, c1, c2, c3⟩ := held_frame hs hlt2 hf
          have hhr := lateB_hear l j (by have := HN.out; omega) (by have := HN.out; omega) d (by rw [List.getElem?_eq_getElem (by have := HN.out; omega)] at hd; exact (Option.some.inj hd).symm)
          have Hhr := Lib.hid hhr; clear hhr hd hf
          have hak := lateB_acked l j 0 (by omega)
          have hEf := hs.alloc HK5.out 78 #[.int .i64 3, .int .i64 ((j : Int) + 1), .int .i64 0, .string d]
          have HKf := Lib.hid (Kept.blk HK5.out wr.heap.size 78 #[.int .i64 3, .int .i64 ((j : Int) + 1), .int .i64 0, .string d])
          clear hs
          go_wp2_with fail
          refine (ends_hear2 hEf HKf.out 3 ((j : Int) + 1) 0 d hak).mono ?_
          rw [Hhr.out]
          rintro e w6 ⟨rfl, hE6⟩
          have hE7 := hE6.weaken (fun _ _ h => h.1)
          clear hEf hE6 c0 c1 c2 c3
          go_wp2_with fail
          go_roundw
          case rel => exact ⟨j + 1, by omega, by go_num, hE7⟩
          case measure => simp [intOf]; omega
        · obtain rfl : j = k := by omega
          have hak := lateB_acked l j 0 (by omega)
          obtain ⟨hw1, hw2⟩ := lateB_waiting l (by have := HN.out; omega)
          rw [HN.out] at hw1 hw2
          have Hw1 := Lib.hid hw1; clear hw1
          have Hw2 := Lib.hid hw2; clear hw2
          obtain ⟨G, hG⟩ : ∃ G, (lateB l j 0).frames = G := ⟨_, rfl⟩
          have HG := Lib.hid hG
          have hgb : G.length ≤ 1099511627776 := by
            rw [← hG]
            obtain ⟨own, _, _, hl, _⟩ := hs
            exact lnk_frames_le hl
          clear hG
          obtain ⟨gl, hgl⟩ : ∃ gl, G.length = gl := ⟨_, rfl⟩
          rw [hgl] at hgb
          have Hgl := Lib.hid hgl; clear hgl
          go_wp2_with fail
          refine (ends_frames2 hs).mono ?_
          rw [HG.out]
          rintro e w6 ⟨A6, c6, rfl, hnr⟩
          rw [Hgl.out] at hnr ⊢
          have hE6 := hs.hold HK5.out hnr
          have HK6 := Lib.hid (Kept.row HK5.out 78 4 A6 gl (fcells G))
          clear hs hnr
          obtain ⟨r, hrj, hr⟩ := late_index late j (by omega)
          obtain ⟨d, hd, hf⟩ := HnF.out r hrj
          have hhr := fun p => lateB_late l j p r (by omega) hrj d
          have Hhr := Lib.hid hhr; clear hhr hd
          have hz : ∀ W (L1 L2 : Lnk), Ends w ga L1 gb L2 (fun w own => (True ∧ Row w own 30 78 4 (some ⟨b5, o5, none⟩) j (fcells F)) ∧ Row w own 30 78 4 A6 gl (fcells G)) W → W.cell? ⟨b5, o5 + r * 4, none⟩ = some (.int .i64 3) ∧ W.cell? ⟨b5, o5 + r * 4 + 1, none⟩ = some (.int .i64 ((r : Int) + 1)) ∧ W.cell? ⟨b5, o5 + r * 4 + 2, none⟩ = some (.int .i64 0) ∧ W.cell? ⟨b5, o5 + r * 4 + 3, none⟩ = some (.string d) := fun W L1 L2 h => held_frame (h.weaken (fun _ _ h => h.1)) hrj hf
          have Hz := Lib.hid hz; clear hz hf
          obtain ⟨c0, c1, c2, c3⟩ := Hz.out _ _ _ hE6
          go_wp2_with fail
          refine (ends_hear2 hE6 HK6.out 3 ((r : Int) + 1) 0 d hak).mono ?_
          rw [Hhr.out 0]
          rintro e w7 ⟨rfl, hE7⟩
          clear hE6 c0 c1 c2 c3
          go_wp2_with fail
          refine (ends_waiting2 hE7 (j : Int) Hw1.out).mono ?_
          rintro e w8 ⟨rfl, rfl⟩
          go_wp2_with fail
          refine (ends_frames2 hE7).mono ?_
          rw [HG.out]
          rintro e w8 ⟨A8, c8, rfl, hnr⟩
          rw [Hgl.out] at hnr ⊢
          have hE8 := hE7.hold HK6.out hnr
          have HK8 := Lib.hid (Kept.row HK6.out 78 4 A8 gl (fcells G))
          clear hE7 hnr
          have hra := hE8.row (fun _ _ h => h.2)
          have hrb := hE8.row (fun _ _ h => h.1.2)
          go_wp2_with fail
          refine (sameFrames_yes _ _ _ _ _ _ _ hra hrb hgb).mono ?_
          rintro e w9 ⟨rfl, mm, rfl⟩
          have hE9 := (hE8.grown HK8.out (grown_drewN _ mm)).weaken (fun _ _ h => h.1)
          clear hE8 hra hrb
          generalize w8.drewN mm = W9 at hE9 ⊢
          go_wp2_with fail
          go_loopw [104] (fun v wr => ∃ q : Nat, q ≤ j ∧ v = .int .i64 q ∧ Ends w ga (lateA l j) gb (lateB l j q) (fun w own => (True ∧ Row w own 30 78 4 (some ⟨b5, o5, none⟩) j (fcells F)) ∧ Row w own 30 78 4 A6 gl (fcells G)) wr) (fun v _ => j - (intOf v).toNat)
          case atStart => exact ⟨0, by omega, rfl, hE9⟩
          case round =>
            clear hE9
            obtain ⟨q, hq, rfl, hs⟩ := hrel
            by_cases hlt3 : q < j
            · have hrd : Rd wr 1 A j (l.map Value.string) := Hr.out.keep (fun b off _ _ hb => hs.end_.block b hb (by simp)) (by omega)
              obtain ⟨b, off, hql, rfl, x0⟩ := hrd.map_at hlt3
              clear hrd
              obtain ⟨tx, htx⟩ : ∃ tx, l[q] = tx := ⟨_, rfl⟩
              have hpp := lateB_pop l q hql
              rw [htx, HN.out] at hpp
              rw [htx] at x0
              have Hpp := Lib.hid hpp; clear hpp htx
              go_wp2_with fail
              refine (ends_pop2 hs HK6.out tx true _ Hpp.out.1 Hpp.out.2.1 rfl).mono ?_
              rw [Hpp.out.2.2]
              rintro e w10 ⟨rfl, hE10⟩
              clear hs x0
              go_wp2_with fail
              go_roundw
              case rel => exact ⟨q + 1, by omega, by go_num, hE10⟩
              case measure => simp [intOf]; omega
            · obtain rfl : q = j := by omega
              have hak2 := lateB_acked l q q (by omega)
              obtain ⟨c0, c1, c2, c3⟩ := Hz.out _ _ _ hs
              go_wp2_with fail
              refine (ends_hear2 hs HK6.out 3 ((r : Int) + 1) 0 d hak2).mono ?_
              rw [Hhr.out q]
              rintro e w10 ⟨rfl, hE10⟩
              clear hs c0 c1 c2 c3
              go_wp2_with fail
              refine (ends_waiting2 hE10 0 Hw2.out).mono ?_
              rintro e w11 ⟨rfl, rfl⟩
              go_wp2
              go_ret
              exact ⟨rfl, hE10.end_⟩

theorem late12_walk (late : Int) (A : Option Addr) (c : Nat) (l : List ByteArray) (w : World) (hr : Rd w 1 A l.length (l.map Value.string)) :
    Calls Try.prog 16 #[.slice A l.length c, .int .i64 late] w (BoolRet w true) := by
  by_cases h : 16 < l.length ∨ l.length = 0
  · exact late12_bad late A l.length c w h
  · exact late12_play late A c l w hr (by omega) (by omega)
end Go.Proofs.Ytjloipjchcaloaa
