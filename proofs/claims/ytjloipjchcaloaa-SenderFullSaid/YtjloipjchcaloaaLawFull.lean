/- The walk of SenderFull: for every two sizes and every list of acts it returns true and changes nothing that was there. -/
import Derived.Test.YtjloipjchcaloaaLawAcks
import Derived.BigQuiet
namespace Go.Proofs.Ytjloipjchcaloaa
open Go.RowKit
set_option linter.unusedVariables false

theorem run_max_mx {P : Program} (ts : Array TypeId) (t : TypeId) (k k' : IntKind) (x y : Int) (w : World) : (Builtin.max_ ts t #[.int k x, .int k' y]).run P w = .ok (.int k (max x y)) w := by
  rw [run_max_int2]
  congr 2
  split <;> omega
theorem run_min_mn {P : Program} (ts : Array TypeId) (t : TypeId) (k k' : IntKind) (x y : Int) (w : World) : (Builtin.min_ ts t #[.int k x, .int k' y]).run P w = .ok (.int k (min x y)) w := by
  rw [run_min_int2]
  congr 2
  split <;> omega
attribute [local go_sem ↓] run_max_mx run_min_mn

theorem at1_unacked_is {w0 w : World} {g : Nat} {s : Snd} (h : At1 w0 g s w) (n : Int) (hn : (s.ds.length : Int) = n) :
    Calls Try.prog 20 #[.pointer (some ⟨g, 0, none⟩)] w fun e w' => e = .returned (.int .i64 n) ∧ w = w' := by
  subst hn; exact at1_unacked h
theorem at1_sent_is {w0 w : World} {g : Nat} {s : Snd} (h : At1 w0 g s w) (n : Int) (hn : (s.sent : Int) = n) :
    Calls Try.prog 25 #[.pointer (some ⟨g, 0, none⟩)] w fun e w' => e = .returned (.int .i64 n) ∧ w = w' := by
  subst hn; exact at1_sent h

theorem at1_unacked_q {w0 w : World} {g : Nat} {s : Snd} (h : At1 w0 g s w) (n : Int) (hn : (s.ds.length : Int) = n) (m : Nat) :
    Calls Try.prog 20 #[.pointer (some ⟨g, 0, none⟩)] (w.drewN m) fun e w' => e = .returned (.int .i64 n) ∧ ∃ m', w' = w.drewN m' :=
  (at1_unacked_is (h.drewN m) n hn).mono fun e w' ⟨h1, h2⟩ => ⟨h1, m, h2.symm⟩
theorem at1_sent_q {w0 w : World} {g : Nat} {s : Snd} (h : At1 w0 g s w) (n : Int) (hn : (s.sent : Int) = n) (m : Nat) :
    Calls Try.prog 25 #[.pointer (some ⟨g, 0, none⟩)] (w.drewN m) fun e w' => e = .returned (.int .i64 n) ∧ ∃ m', w' = w.drewN m' :=
  (at1_sent_is (h.drewN m) n hn).mono fun e w' ⟨h1, h2⟩ => ⟨h1, m, h2.symm⟩

/-- the sender stands within the sizes that New was handed -/
def Within (x0 x1 : Int) (s : Snd) : Prop := (s.win : Int) = min (max x0 1) 16 ∧ (s.last : Int) = min (max x1 0) 1125899906842624

theorem Within.new (x0 x1 : Int) : Within x0 x1 (Snd.new x0 x1) := by
  simp only [Within, Snd.new, clampI]
  constructor <;> ((repeat' split) <;> omega)

/-- what the last test of a round asks of the sender -/
theorem within_tells {x0 x1 : Int} {s : Snd} (h : Within x0 x1 s) (ho : s.Ok) : ∃ M S : Int, (s.ds.length : Int) = M ∧ (s.sent : Int) = S ∧ 0 ≤ M ∧ M ≤ min (max x0 1) 16 ∧ S ≤ min (max x1 0) 1125899906842624 := by
  obtain ⟨h1, h2⟩ := h
  obtain ⟨_, _, _, _, _, _⟩ := ho
  exact ⟨_, _, rfl, rfl, by omega, by omega, by omega⟩

/-- what an offer comes to, in the three cases -/
theorem off_cases (s : Snd) (d : ByteArray) (h : s.Ok) :
    (s.offN = 0 ∧ (s.offE = 7 ∨ s.offE = 8) ∧ s.off d = s) ∨ (s.offN = (s.sent : Int) + 1 ∧ s.offE = 0 ∧ s.off d = ⟨s.win, s.last, s.sent + 1, s.ds ++ [d]⟩ ∧ s.ds.length < s.win ∧ s.sent < s.last) := by
  obtain ⟨_, _, _, _, _, _⟩ := h
  by_cases hf : s.ds.length = s.win
  · left
    simp [Snd.offN, Snd.offE, Snd.off, hf]
  · by_cases hl : s.sent = s.last
    · left
      refine ⟨by unfold Snd.offN; rw [if_neg hf, if_pos hl], .inr (by unfold Snd.offE; rw [if_neg hf, if_pos hl]), by unfold Snd.off; rw [if_neg hf, if_pos hl]⟩
    · right
      refine ⟨by unfold Snd.offN; rw [if_neg hf, if_neg hl], by unfold Snd.offE; rw [if_neg hf, if_neg hl], by unfold Snd.off; rw [if_neg hf, if_neg hl], by omega, by omega⟩

set_option maxHeartbeats 4000000 in
set_option maxRecDepth 10000 in
theorem full_great (x0 x1 : Int) (A : Option Addr) (c : Nat) (l : List Act3) (w : World) (hr : Rd w 3 A l.length (acells l)) (hgr : great3 l = true) :
    Calls Try.prog 4 #[.agg #[.int .i64 x0, .int .i64 x1], .slice A l.length c] w (BoolRet w true) := by
  have Hr := Lib.hid hr; clear hr
  have Hgr := Lib.hid hgr; clear hgr
  go_enter Try.func4, Try.ntmps4
  go_wp2_with fail
  have hg0 := World.grownBy_alloc w (.cells #[.int .i64 x0, .int .i64 x1] 36) none
  generalize w.alloc (.cells #[.int .i64 x0, .int .i64 x1] 36) = wb at hg0 ⊢
  refine (at1_new _ _ wb).mono ?_
  rintro e w1 ⟨g, rfl, hs⟩
  go_wp2_with fail
  refine (awake10 w1).mono ?_
  rintro e w2 ⟨rfl, hg⟩
  have hs2 := hs.grown hg
  clear hs hg
  have hrd : Rd w2 3 A l.length (acells l) := Hr.out.keep (fun b off _ _ hb => (hs2.end_.block b (Nat.lt_of_lt_of_le hb hg0.size) (by simp)).trans (hg0.block b hb (by simp))) (by omega)
  go_wp2_with fail
  refine (great10 A c l w2 hrd).mono ?_
  rintro e w3 ⟨rfl, hg⟩
  rw [Hgr.out]
  have hs3 := hs2.grown hg
  clear hs2 hg hrd
  go_wp2_with fail
  refine (awake10 w3).mono ?_
  rintro e w4 ⟨rfl, hg⟩
  have hs4 := hs3.grown hg
  clear hs3 hg
  go_wp2
  go_ret
  exact ⟨rfl, grown_tr hg0 hs4.end_⟩

set_option maxHeartbeats 4000000 in
set_option maxRecDepth 10000 in
theorem full_play (x0 x1 : Int) (A : Option Addr) (c : Nat) (l : List Act3) (w : World) (hr : Rd w 3 A l.length (acells l)) (hgr : great3 l = false) :
    Calls Try.prog 4 #[.agg #[.int .i64 x0, .int .i64 x1], .slice A l.length c] w (BoolRet w true) := by
  have hlen : l.length ≤ 200 := by
    simp only [great3, Bool.or_eq_false_iff, decide_eq_false_iff_not] at hgr
    omega
  have Hr := Lib.hid hr; clear hr
  have Hgr := Lib.hid hgr; clear hgr
  go_enter Try.func4, Try.ntmps4
  go_wp2_with fail
  have hg0 := World.grownBy_alloc w (.cells #[.int .i64 x0, .int .i64 x1] 36) none
  have hbx : Blk (w.alloc (.cells #[.int .i64 x0, .int .i64 x1] 36)) w.heap.size 36 #[.int .i64 x0, .int .i64 x1] := Blk.new w 36 _
  generalize w.alloc (.cells #[.int .i64 x0, .int .i64 x1] 36) = wb at hg0 hbx ⊢
  have hrb : Rd wb 3 A l.length (acells l) := Hr.out.keep (fun b off _ _ hb => (hg0.block b hb (by simp))) (by omega)
  have Hrb := Lib.hid hrb; clear hrb
  have Hg0 := Lib.hid hg0; clear hg0
  have Hbx := Lib.hid hbx; clear hbx
  generalize w.heap.size = bx at *
  refine (at1_new _ _ wb).mono ?_
  rintro e w1 ⟨g, rfl, hs⟩
  go_wp2_with fail
  refine (awake10 w1).mono ?_
  rintro e w2 ⟨rfl, hg⟩
  have hs2 := hs.grown hg
  clear hs hg
  have hrd : Rd w2 3 A l.length (acells l) := Hrb.out.keep (fun b off _ _ hb => (hs2.end_.block b hb (by simp))) (by omega)
  go_wp2_with fail
  refine (great10 A c l w2 hrd).mono ?_
  rintro e w3 ⟨rfl, hg⟩
  rw [Hgr.out]
  have hs3 := hs2.grown hg
  clear hs2 hg hrd
  have hst : ∃ s, At1 wb g s w3 ∧ Within x0 x1 s := ⟨_, hs3, Within.new x0 x1⟩
  clear hs3
  generalize hN : l.length = n at *
  have HN := Lib.hid hN; clear hN
  go_wp2_with fail
  go_loopw [31] (fun v wr => ∃ k : Nat, k ≤ n ∧ v = .int .i64 k ∧ ∃ s, At1 wb g s wr ∧ Within x0 x1 s) (fun v _ => n - (intOf v).toNat)
  case atStart => exact ⟨0, by omega, rfl, hst⟩
  case round =>
    clear hst
    obtain ⟨k, hk, rfl, s, hs, hwi⟩ := hrel
    by_cases hlt : k < n
    · have hok := hs.ok
      obtain ⟨o1, o2, o3, o4, o5, o6⟩ := hok
      have hkl : k < l.length := by have := HN.out; omega
      have hrd : Rd wb 3 A l.length (acells l) := by have := HN.out; rw [this]; exact Hrb.out
      obtain ⟨b, off, rfl, c0, c1, c2⟩ := acts_at hrd hkl
      clear hrd
      have c0' := (World.grownBy.cell hs.end_ c0 (by simp))
      have c1' := (World.grownBy.cell hs.end_ c1 (by simp))
      have c2' := (World.grownBy.cell hs.end_ c2 (by simp))
      clear c0 c1 c2
      generalize l[k].text = tx at c2'
      generalize l[k].kind = kd at c0'
      generalize l[k].n = nn at c1'
      have hbx0 : wr.cell? ⟨bx, 0, none⟩ = some (.int .i64 x0) := World.grownBy.cell hs.end_ (Hbx.out.cell 0) (by simp)
      have hbx1 : wr.cell? ⟨bx, 1, none⟩ = some (.int .i64 x1) := World.grownBy.cell hs.end_ (Hbx.out.cell 1) (by simp)
      have hwi' := hwi
      have hsa : At1 wb g s (wr.alloc (.cells #[.int .i64 kd, .int .i64 nn, .string tx] 40)) := hs.grown (World.grownBy_alloc wr _ none)
      clear hs
      by_cases h1 : kd = 1
      · subst h1
        rcases off_cases s tx hsa.ok with ⟨q1, q2, q3⟩ | ⟨q1, q2, q3, q4, q5⟩
        · have Q1 := Lib.hid q1; clear q1
          have Q3 := Lib.hid q3; clear q3
          rcases q2 with q2 | q2
          all_goals
            have Q2 := Lib.hid q2; clear q2
            go_wp2_with (first | (go_at_call 25; refine (at1_sent_is hsa _ rfl).mono ?_; rintro e w' ⟨rfl, rfl⟩) | (go_at_call 20; refine (at1_unacked_is hsa _ rfl).mono ?_; rintro e w' ⟨rfl, rfl⟩))
            refine (at1_offer hsa tx _ _ _ Q1.out Q2.out Q3.out).mono ?_
            rintro e w5 ⟨rfl, hs5⟩
            clear hsa c0' c1' c2'
            go_wp2_with (first | (go_at_call 25; refine (at1_sent_is hs5 ((s.sent : Int)) (rfl)).mono ?_; rintro e w' ⟨rfl, rfl⟩) | (go_at_call 20; refine (at1_unacked_is hs5 ((s.ds.length : Int)) (rfl)).mono ?_; rintro e w' ⟨rfl, rfl⟩))
            skip
            obtain ⟨M, S, hM, hS, b1, b2, b3⟩ := within_tells hwi' hs5.ok
            have HM := Lib.hid hM; clear hM
            have HS := Lib.hid hS; clear hS
            have hx0 : w5.cell? ⟨bx, 0, none⟩ = some (.int .i64 x0) := World.grownBy.cell hs5.end_ (Hbx.out.cell 0) (by simp)
            have hx1 : w5.cell? ⟨bx, 1, none⟩ = some (.int .i64 x1) := World.grownBy.cell hs5.end_ (Hbx.out.cell 1) (by simp)
            go_quiet ((first | (go_at_call 20; exact at1_unacked_q hs5 M HM.out _) | (go_at_call 25; exact at1_sent_q hs5 S HS.out _)))
            go_wp2
            go_roundw
            case rel => exact ⟨k + 1, by omega, by go_num, _, hs5.drewN _, hwi'⟩
            case measure => simp [intOf]; omega
        · have Q1 := Lib.hid q1; clear q1
          have Q2 := Lib.hid q2; clear q2
          have Q3 := Lib.hid q3; clear q3
          go_wp2_with (first | (go_at_call 25; refine (at1_sent_is hsa _ rfl).mono ?_; rintro e w' ⟨rfl, rfl⟩) | (go_at_call 20; refine (at1_unacked_is hsa _ rfl).mono ?_; rintro e w' ⟨rfl, rfl⟩))
          refine (at1_offer hsa tx _ _ _ Q1.out Q2.out Q3.out).mono ?_
          rintro e w5 ⟨rfl, hs5⟩
          clear hsa c0' c1' c2'
          have hwi' : Within x0 x1 ⟨s.win, s.last, s.sent + 1, s.ds ++ [tx]⟩ := hwi
          go_wp2_with (first | (go_at_call 25; refine (at1_sent_is hs5 ((s.sent : Int) + 1) (by simp)).mono ?_; rintro e w' ⟨rfl, rfl⟩) | (go_at_call 20; refine (at1_unacked_is hs5 ((s.ds.length : Int) + 1) (by simp)).mono ?_; rintro e w' ⟨rfl, rfl⟩))
          skip
          obtain ⟨M, S, hM, hS, b1, b2, b3⟩ := within_tells hwi' hs5.ok
          have HM := Lib.hid hM; clear hM
          have HS := Lib.hid hS; clear hS
          have hx0 : w5.cell? ⟨bx, 0, none⟩ = some (.int .i64 x0) := World.grownBy.cell hs5.end_ (Hbx.out.cell 0) (by simp)
          have hx1 : w5.cell? ⟨bx, 1, none⟩ = some (.int .i64 x1) := World.grownBy.cell hs5.end_ (Hbx.out.cell 1) (by simp)
          go_quiet ((first | (go_at_call 20; exact at1_unacked_q hs5 M HM.out _) | (go_at_call 25; exact at1_sent_q hs5 S HS.out _)))
          go_wp2
          go_roundw
          case rel => exact ⟨k + 1, by omega, by go_num, _, hs5.drewN _, hwi'⟩
          case measure => simp [intOf]; omega
      · by_cases h2 : kd = 2
        · subst h2
          have Hok := Lib.hid hsa.ok
          have hgl := s.gone_le Hok.out nn
          have hu5 : ((s.ack nn).ds.length : Int) = (s.ds.length : Int) - (s.gone nn : Int) := by simp [Snd.ack]; omega
          have Hu5 := Lib.hid hu5; clear hu5
          go_wp2_with (first | (go_at_call 25; refine (at1_sent_is hsa _ rfl).mono ?_; rintro e w' ⟨rfl, rfl⟩) | (go_at_call 20; refine (at1_unacked_is hsa _ rfl).mono ?_; rintro e w' ⟨rfl, rfl⟩))
          refine (at1_ack hsa nn _ _ rfl rfl).mono ?_
          rintro e w5 ⟨rfl, hs5⟩
          clear hsa c0' c1' c2'
          have hwi' : Within x0 x1 (s.ack nn) := hwi
          go_wp2_with (first | (go_at_call 25; refine (at1_sent_is hs5 (s.sent : Int) rfl).mono ?_; rintro e w' ⟨rfl, rfl⟩) | (go_at_call 20; refine (at1_unacked_is hs5 _ Hu5.out).mono ?_; rintro e w' ⟨rfl, rfl⟩))
          skip
          obtain ⟨M, S, hM, hS, b1, b2, b3⟩ := within_tells hwi' hs5.ok
          have HM := Lib.hid hM; clear hM
          have HS := Lib.hid hS; clear hS
          have hx0 : w5.cell? ⟨bx, 0, none⟩ = some (.int .i64 x0) := World.grownBy.cell hs5.end_ (Hbx.out.cell 0) (by simp)
          have hx1 : w5.cell? ⟨bx, 1, none⟩ = some (.int .i64 x1) := World.grownBy.cell hs5.end_ (Hbx.out.cell 1) (by simp)
          go_quiet ((first | (go_at_call 20; exact at1_unacked_q hs5 M HM.out _) | (go_at_call 25; exact at1_sent_q hs5 S HS.out _)))
          go_wp2
          go_roundw
          case rel => exact ⟨k + 1, by omega, by go_num, _, hs5.drewN _, hwi'⟩
          case measure => simp [intOf]; omega
        · have h1' : (kd == 1) = false := by simpa using h1
          have h2' : (kd == 2) = false := by simpa using h2
          clear h1 h2
          go_wp2_with (first | (go_at_call 25; refine (at1_sent_is hsa _ rfl).mono ?_; rintro e w' ⟨rfl, rfl⟩) | (go_at_call 20; refine (at1_unacked_is hsa _ rfl).mono ?_; rintro e w' ⟨rfl, rfl⟩))
          skip
          obtain ⟨M, S, hM, hS, b1, b2, b3⟩ := within_tells hwi' hsa.ok
          have HM := Lib.hid hM; clear hM
          have HS := Lib.hid hS; clear hS
          have hx0 : (wr.alloc (.cells #[.int .i64 kd, .int .i64 nn, .string tx] 40)).cell? ⟨bx, 0, none⟩ = some (.int .i64 x0) := World.grownBy.cell hsa.end_ (Hbx.out.cell 0) (by simp)
          have hx1 : (wr.alloc (.cells #[.int .i64 kd, .int .i64 nn, .string tx] 40)).cell? ⟨bx, 1, none⟩ = some (.int .i64 x1) := World.grownBy.cell hsa.end_ (Hbx.out.cell 1) (by simp)
          go_quiet ((first | (go_at_call 20; exact at1_unacked_q hsa M HM.out _) | (go_at_call 25; exact at1_sent_q hsa S HS.out _)))
          go_wp2
          go_roundw
          case rel => exact ⟨k + 1, by omega, by go_num, _, hsa.drewN _, hwi'⟩
          case measure => simp [intOf]; omega
    · obtain rfl : k = n := by omega
      go_wp2
      go_ret
      exact ⟨rfl, grown_tr Hg0.out hs.end_⟩

theorem full_walk (x0 x1 : Int) (A : Option Addr) (c : Nat) (l : List Act3) (w : World) (hr : Rd w 3 A l.length (acells l)) :
    Calls Try.prog 4 #[.agg #[.int .i64 x0, .int .i64 x1], .slice A l.length c] w (BoolRet w true) := by
  by_cases h : great3 l = true
  · exact full_great x0 x1 A c l w hr h
  · exact full_play x0 x1 A c l w hr (by simpa using h)
end Go.Proofs.Ytjloipjchcaloaa
