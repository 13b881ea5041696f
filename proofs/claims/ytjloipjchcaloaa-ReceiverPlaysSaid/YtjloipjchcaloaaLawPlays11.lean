/- The walk of ReceiverPlays: the receiver and the reference's one, side by side. -/
import Derived.Test.YtjloipjchcaloaaRef11
import Derived.Test.YtjloipjchcaloaaLawOrder
namespace Go.Proofs.Ytjloipjchcaloaa
open Go.RowKit
set_option linter.unusedVariables false

/-- Two objects of the call's own, at g and g2, and blocks that it holds besides; nothing that was there when the call began has changed. -/
def Two (w0 : World) (g : Nat) (s : Rcv) (g2 : Nat) (s2 : Rcv) (bs : List (Nat × Array Value)) (w : World) : Prop :=
  ∃ own, Base w0.heap.size w0 w own ∧ RcvAt w own 1 g s ∧ RefAt w own 2 g2 s2 ∧ ∀ p ∈ bs, own p.1 = 3 ∧ Blk w p.1 50 p.2

section
variable {w0 w w' : World} {g g2 : Nat} {s s2 : Rcv} {bs : List (Nat × Array Value)}
theorem Two.step {own own' : Nat → Nat} (st : Step 4 w own w' own') (hB : Base w0.heap.size w0 w own) (ha : RcvAt w own 1 g s) (hb : RefAt w own 2 g2 s2) (hx : ∀ p ∈ bs, own p.1 = 3 ∧ Blk w p.1 50 p.2) : Two w0 g s g2 s2 bs w' :=
  ⟨own', hB.step st (by omega), ha.other st (by omega), hb.other st (by omega), fun p hp => by
    have := st.other (j := 3) (by omega) (hx p hp).2.lt (hx p hp).1
    exact ⟨this.2, (hx p hp).2.of_eq this.1⟩⟩
theorem Two.grown (h : Two w0 g s g2 s2 bs w) (hg : w.grownBy w' none) : Two w0 g s g2 s2 bs w' := by
  obtain ⟨own, hB, ha, hb, hx⟩ := h
  exact Two.step (((Step.refl 4 w own).give_ 4).grown hg (by simp)) hB ha hb hx
theorem Two.drewN (h : Two w0 g s g2 s2 bs w) (n : Nat) : Two w0 g s g2 s2 bs (w.drewN n) := by
  obtain ⟨own, hB, ha, hb, hx⟩ := h
  exact ⟨own, hB.drewN n, ha.drewN n, hb.drewN n, hx⟩
theorem Two.drew (h : Two w0 g s g2 s2 bs w) : Two w0 g s g2 s2 bs w.drew := h.drewN 1
theorem Two.drop (h : Two w0 g s g2 s2 bs w) : Two w0 g s g2 s2 [] w := by
  obtain ⟨own, hB, ha, hb, hx⟩ := h
  exact ⟨own, hB, ha, hb, by simp⟩
theorem Two.alloc (h : Two w0 g s g2 s2 [] w) (cs : Array Value) : Two w0 g s g2 s2 [(w.heap.size, cs)] (w.alloc (.cells cs 50)) := by
  obtain ⟨own, hB, ha, hb, hx⟩ := h
  refine ⟨give own w.heap.size 3, hB.step (((Step.refl 3 w own).give_ 3).alloc _) (by omega), ha.grown (World.grownBy_alloc _ _ none) (Nat.le_refl _), hb.grown (World.grownBy_alloc _ _ none) (Nat.le_refl _), ?_⟩
  intro p hp
  simp only [List.mem_singleton] at hp
  subst hp
  exact ⟨give_new (Nat.le_refl _), Blk.new w 50 cs⟩
theorem Two.blk (h : Two w0 g s g2 s2 bs w) {p : Nat × Array Value} (hp : p ∈ bs) : Blk w p.1 50 p.2 := by
  obtain ⟨own, hB, ha, hb, hx⟩ := h
  exact (hx p hp).2
theorem Two.end_ (h : Two w0 g s g2 s2 bs w) : w0.grownBy w none := by
  obtain ⟨own, hB, ha, hb, hx⟩ := h
  exact base_grown hB rfl
theorem Two.all (h : Two w0 g s g2 s2 bs w) : ∃ A c, w.cell? ⟨g2, 1, none⟩ = some (.slice A s2.acked c) := by
  obtain ⟨own, hB, ha, hb, hx⟩ := h
  exact hb.all
end

def TwoRet (w0 : World) (g : Nat) (v : Value) (s : Rcv) (g2 : Nat) (s2 : Rcv) (bs : List (Nat × Array Value)) (e : Ending) (w' : World) : Prop := e = .returned v ∧ Two w0 g s g2 s2 bs w'

section
variable {w0 w : World} {g g2 : Nat} {s s2 : Rcv} {bs : List (Nat × Array Value)}
theorem two_hear (h : Two w0 g s g2 s2 bs w) (seq : Int) (d : ByteArray) (b : Bool) (s' : Rcv) (ha : s.acked ≤ 300) (hb : s.takes seq = b) (hs : s.hear seq d = s') :
    Calls Try.prog 30 #[.pointer (some ⟨g, 0, none⟩), .int .i64 seq, .string d] w (TwoRet w0 g (.bool b) s' g2 s2 bs) := by
  obtain ⟨own, hB, hs1, hs2, hx⟩ := h
  refine (rcv_hear_is hs1 seq d b s' (by omega) hb hs).mono ?_
  rintro e w' ⟨he, own', st, h'⟩
  exact ⟨he, own', hB.step st (by omega), h', hs2.other st (by omega), fun p hp => by
    have := st.other (j := 3) (by omega) (hx p hp).2.lt (hx p hp).1
    exact ⟨this.2, (hx p hp).2.of_eq this.1⟩⟩
theorem two_hear2 (h : Two w0 g s g2 s2 bs w) (seq : Int) (d : ByteArray) (b : Bool) (s' : Rcv) (ha : s2.acked ≤ 300) (hq : seq ≤ 9223372036854775807) (hb : s2.takes seq = b) (hs : s2.hear seq d = s') :
    Calls Try.prog 31 #[.pointer (some ⟨g2, 0, none⟩), .int .i64 seq, .string d] w (TwoRet w0 g (.bool b) s g2 s' bs) := by
  subst hb; subst hs
  obtain ⟨own, hB, hs1, hs2, hx⟩ := h
  refine (ref_hear hs2 seq d ha hq).mono ?_
  rintro e w' ⟨he, own', st, h'⟩
  exact ⟨he, own', hB.step st (by omega), hs1.other st (by omega), h', fun p hp => by
    have := st.other (j := 3) (by omega) (hx p hp).2.lt (hx p hp).1
    exact ⟨this.2, (hx p hp).2.of_eq this.1⟩⟩
theorem two_pop (h : Two w0 g s g2 s2 bs w) (x : ByteArray) (b : Bool) (s' : Rcv) (hx : s.popV = x) (hb : s.popB = b) (hs : s.pop = s') :
    Calls Try.prog 32 #[.pointer (some ⟨g, 0, none⟩)] w (TwoRet w0 g (.tuple #[.string x, .bool b]) s' g2 s2 bs) := by
  obtain ⟨own, hB, hs1, hs2, hbs⟩ := h
  refine (rcv_pop_is hs1 x b s' hx hb hs).mono ?_
  rintro e w' ⟨he, own', st, h'⟩
  exact ⟨he, own', hB.step st (by omega), h', hs2.other st (by omega), fun p hp => by
    have := st.other (j := 3) (by omega) (hbs p hp).2.lt (hbs p hp).1
    exact ⟨this.2, (hbs p hp).2.of_eq this.1⟩⟩
theorem two_pop2 (h : Two w0 g s g2 s2 bs w) (x : ByteArray) (b : Bool) (s' : Rcv) (ha : s2.acked ≤ 300) (hx : s2.popV = x) (hb : s2.popB = b) (hs : s2.pop = s') :
    Calls Try.prog 33 #[.pointer (some ⟨g2, 0, none⟩)] w (TwoRet w0 g (.tuple #[.string x, .bool b]) s g2 s' bs) := by
  subst hx; subst hb; subst hs
  obtain ⟨own, hB, hs1, hs2, hbs⟩ := h
  refine (ref_pop hs2 ha).mono ?_
  rintro e w' ⟨he, own', st, h'⟩
  exact ⟨he, own', hB.step st (by omega), hs1.other st (by omega), h', fun p hp => by
    have := st.other (j := 3) (by omega) (hbs p hp).2.lt (hbs p hp).1
    exact ⟨this.2, (hbs p hp).2.of_eq this.1⟩⟩
theorem two_ack (h : Two w0 g s g2 s2 bs w) : Calls Try.prog 34 #[.pointer (some ⟨g, 0, none⟩)] w fun e w' => e = .returned (.int .i64 s.acked) ∧ w = w' := by
  obtain ⟨own, hB, hs1, hs2, hbs⟩ := h
  exact rcv_ack hs1
theorem two_waiting (h : Two w0 g s g2 s2 bs w) : Calls Try.prog 35 #[.pointer (some ⟨g, 0, none⟩)] w fun e w' => e = .returned (.int .i64 s.q.length) ∧ w = w' := by
  obtain ⟨own, hB, hs1, hs2, hbs⟩ := h
  exact rcv_waiting hs1

/-- What a look hands back beside two objects that stand. -/
def TwoLook (w0 : World) (g : Nat) (s : Rcv) (g2 : Nat) (s2 : Rcv) (q : List ByteArray) (w : World) (e : Ending) (w' : World) : Prop :=
  ∃ A c, e = .returned (.slice A q.length c) ∧ Two w0 g s g2 s2 [] w' ∧ w.grownBy w' none ∧ Rd w' 1 A q.length (q.map Value.string)
theorem two_look (h : Two w0 g s g2 s2 [] w) : Calls Try.prog 38 #[.pointer (some ⟨g, 0, none⟩)] w (TwoLook w0 g s g2 s2 s.q w) := by
  have h' := h
  obtain ⟨own, hB, hs1, hs2, hbs⟩ := h
  refine (rcv_look hs1).mono ?_
  rintro e w' ⟨A, c, rfl, hnr⟩
  exact ⟨A, c, rfl, h'.grown hnr.grown, hnr.grown, (hnr.row own w.heap.size 7 (Nat.le_refl _)).rd⟩
theorem two_look2 (h : Two w0 g s g2 s2 [] w) (ha : s2.acked ≤ 300) : Calls Try.prog 36 #[.pointer (some ⟨g2, 0, none⟩)] w (TwoLook w0 g s g2 s2 s2.q w) := by
  have h' := h
  obtain ⟨own, hB, hs1, hs2, hbs⟩ := h
  refine (ref_look hs2 ha).mono ?_
  rintro e w' ⟨A, c, rfl, hnr⟩
  exact ⟨A, c, rfl, h'.grown hnr.grown, hnr.grown, (hnr.row own w.heap.size 7 (Nat.le_refl _)).rd⟩
end
theorem Rd.grown_ {w w' : World} {A : Option Addr} {n : Nat} {xs : List Value} (h : Rd w 1 A n xs) (hg : w.grownBy w' none) : Rd w' 1 A n xs :=
  h.keep (fun b off _ _ hb => hg.block b hb (by simp)) (by omega)

set_option maxHeartbeats 20000000 in
set_option maxRecDepth 10000 in
theorem plays11_play (room : Int) (A : Option Addr) (c : Nat) (l : List Act3) (w : World) (hr : Rd w 3 A l.length (acells l)) (hw : ∀ a ∈ l, a.n ≤ 9223372036854775807) (hgr : great3 l = false) :
    Calls Try.prog 6 #[.int .i64 room, .slice A l.length c] w (BoolRet w true) := by
  have hll : l.length ≤ 200 := by
    simp only [great3, Bool.or_eq_false_iff, decide_eq_false_iff_not] at hgr
    omega
  have hg3 : ∀ W, Rd W 3 A l.length (acells l) → Calls Try.prog 29 #[.slice A l.length c] W (BoolRet W false) := fun W h => by
    have := great11 A c l W h
    rwa [hgr] at this
  have Hg3 := Lib.hid hg3; clear hg3
  have Hr := Lib.hid hr; clear hr
  have Hw := Lib.hid hw; clear hw
  clear hgr
  generalize hN : l.length = m at *
  have HN := Lib.hid hN; clear hN
  go_enter Try.func6, Try.ntmps6
  go_wp2_with fail
  refine (rcv_new 1 (fun _ => 0) room w).mono ?_
  rintro e w1 ⟨rfl, own1, st1, h1⟩
  have hB1 := (Base.start w).step st1 (by omega)
  obtain ⟨ga, hga⟩ : ∃ ga, ga = w.heap.size := ⟨_, rfl⟩
  rw [← hga] at h1 ⊢
  clear hga st1
  go_wp2_with fail
  refine (ref_new 2 own1 room w1).mono ?_
  rintro e w2 ⟨rfl, own2, st2, h2⟩
  have hB2 := hB1.step st2 (by omega)
  have h12 := h1.other st2 (by omega)
  obtain ⟨gb, hgb⟩ : ∃ gb, gb = w1.heap.size := ⟨_, rfl⟩
  rw [← hgb] at h2 ⊢
  clear hgb st2 h1 hB1
  have ht : Two w ga (Rcv.new room) gb (Rcv.new room) [] w2 := ⟨own2, hB2, h12, h2, by simp⟩
  have hz : (Rcv.new room).acked = 0 := rfl
  clear hB2 h12 h2
  generalize Rcv.new room = s0 at ht hz
  go_wp2_with fail
  refine (awake11 w2).mono ?_
  rintro e w3 ⟨rfl, hg⟩
  have ht3 := ht.grown hg
  clear ht hg
  go_wp2_with fail
  refine (Hg3.out w3 (Hr.out.keep (fun b off _ _ hb => ht3.end_.block b hb (by simp)) (by omega))).mono ?_
  rintro e w4 ⟨rfl, hg⟩
  have ht4 := ht3.grown hg
  clear ht3 hg
  go_wp2_with fail
  go_loopw [31] (fun v wr => ∃ k : Nat, k ≤ m ∧ v = .int .i64 k ∧ ∃ s, s.acked ≤ k ∧ Two w ga s gb s [] wr) (fun v _ => m - (intOf v).toNat)
  case atStart => exact ⟨0, by omega, rfl, s0, by omega, ht4⟩
  case round =>
    clear ht4
    obtain ⟨k, hk, rfl, s, hsk, hs⟩ := hrel
    by_cases hlt : k < m
    · have hkl : k < l.length := by have := HN.out; omega
      have hrd : Rd wr 3 A l.length (acells l) := by
        have := HN.out; rw [this]
        exact Hr.out.keep (fun b off _ _ hb => hs.end_.block b hb (by simp)) (by omega)
      obtain ⟨b, off, rfl, c0, c1, c2⟩ := acts_at hrd hkl
      have hnb := Hw.out _ (List.getElem_mem hkl)
      clear hrd
      generalize l[k].text = tx at c2
      generalize l[k].kind = kd at c0
      generalize l[k].n = nn at c1 hnb
      have ht := hs.alloc #[.int .i64 kd, .int .i64 nn, .string tx]
      clear hs
      by_cases h1 : kd = 1
      · subst h1
        obtain ⟨bb, hbb⟩ : ∃ bb, s.takes nn = bb := ⟨_, rfl⟩
        obtain ⟨s', hs'⟩ : ∃ s', s.hear nn tx = s' := ⟨_, rfl⟩
        have hacc : s'.acked ≤ k + 1 := by rw [← hs']; unfold Rcv.hear; split <;> (try simp) <;> omega
        have hs0 : s.acked ≤ 300 := by omega
        have Hbb := Lib.hid hbb; clear hbb
        have Hs' := Lib.hid hs'; clear hs'
        go_wp2_with fail
        clear c0 c1 c2
        generalize wr.heap.size = ba at ht ⊢
        generalize hW0 : wr.alloc _ = W0 at ht ⊢
        clear hW0
        have x1 : W0.cell? ⟨ba, 1, none⟩ = some (.int .i64 nn) := (ht.blk (List.mem_singleton.2 rfl)).cell 1
        have x2 : W0.cell? ⟨ba, 2, none⟩ = some (.string tx) := (ht.blk (List.mem_singleton.2 rfl)).cell 2
        go_region_held3 (fun w' => w'.cell? ⟨ba, 1, none⟩ = some (.int .i64 nn) ∧ w'.cell? ⟨ba, 2, none⟩ = some (.string tx)) (first | (go_keep; done) | (constructor <;> assumption))
         (first
          | (go_at_call 30
             refine (two_hear ht.drew nn tx bb s' hs0 Hbb.out Hs'.out).mono ?_
             rintro e w1a ⟨rfl, hta⟩
             have xa1 : w1a.cell? ⟨ba, 1, none⟩ = some (.int .i64 nn) := (hta.blk (List.mem_singleton.2 rfl)).cell 1
             have xa2 : w1a.cell? ⟨ba, 2, none⟩ = some (.string tx) := (hta.blk (List.mem_singleton.2 rfl)).cell 2)
          | (go_at_call 31
             refine (two_hear2 hta nn tx bb s' hs0 hnb Hbb.out Hs'.out).mono ?_
             rintro e w1b ⟨rfl, htb⟩
             have xb1 : w1b.cell? ⟨ba, 1, none⟩ = some (.int .i64 nn) := (htb.blk (List.mem_singleton.2 rfl)).cell 1
             have xb2 : w1b.cell? ⟨ba, 2, none⟩ = some (.string tx) := (htb.blk (List.mem_singleton.2 rfl)).cell 2))
        go_wp2_with fail
        have ht2 := htb.drop
        clear ht hta htb xa1 xa2 xb1 xb2 x1 x2
        generalize hW : w1b = W at ht2 ⊢
        clear hW
        obtain ⟨A2, cc2, hall⟩ := ht2.all
        have hall' : W.drew.cell? ⟨gb, 1, none⟩ = some (.slice A2 s'.acked cc2) := hall
        have hs300 : s'.acked ≤ 300 := by omega
        have hq : s'.q.length ≤ 1099511627776 := by obtain ⟨_, _, hx, _⟩ := ht2; have := hx.ok; unfold Rcv.Ok at this; omega
        go_region_held3 (fun w' => w'.cell? ⟨gb, 1, none⟩ = some (.slice A2 s'.acked cc2)) (first | (go_keep; done) | assumption)
         (first
          | (go_at_call 34; refine (two_ack ht2.drew).mono ?_; rintro e w' ⟨rfl, rfl⟩)
          | (go_at_call 35; refine (two_waiting ht5).mono ?_; rintro e w' ⟨rfl, rfl⟩)
          | (go_at_call 35; refine (two_waiting ht2.drew).mono ?_; rintro e w' ⟨rfl, rfl⟩)
          | (go_at_call 36
             refine (two_look2 ht6 hs300).mono ?_
             rintro e w7 ⟨P7, c7, rfl, ht7, hg7, hr7⟩
             have hall7 : w7.cell? ⟨gb, 1, none⟩ = some (.slice A2 s'.acked cc2) := World.grownBy.cell hg7 hall6 (by simp)
             have hr67 := hr6.grown_ hg7
             clear hg7)
          | (go_at_call 36
             refine (two_look2 ht2.drew hs300).mono ?_
             rintro e w5 ⟨P5, c5, rfl, ht5, hg5, hr5⟩
             have hall5 : w5.cell? ⟨gb, 1, none⟩ = some (.slice A2 s'.acked cc2) := World.grownBy.cell hg5 hall' (by simp)
             clear hg5 hr5)
          | (go_at_call 38
             refine (two_look ht5).mono ?_
             rintro e w6 ⟨P6, c6, rfl, ht6, hg6, hr6⟩
             have hall6 : w6.cell? ⟨gb, 1, none⟩ = some (.slice A2 s'.acked cc2) := World.grownBy.cell hg6 hall5 (by simp)
             clear hg6)
          | (go_at_call 37
             refine (same_yes _ _ _ _ _ _ _ hr67 hr7 hq).mono ?_
             rintro e w8 ⟨rfl, m8, rfl⟩
             have ht8 := ht7.drewN m8
             have hall8 : (w7.drewN m8).cell? ⟨gb, 1, none⟩ = some (.slice A2 s'.acked cc2) := hall7))
        go_wp2
        go_roundw
        case rel => exact ⟨k + 1, by omega, by go_num, s', by omega, ht8⟩
        case measure => simp [intOf]; omega
      by_cases h2 : kd = 2
      · subst h2
        obtain ⟨xx, hxx⟩ : ∃ xx, s.popV = xx := ⟨_, rfl⟩
        obtain ⟨bb, hbb⟩ : ∃ bb, s.popB = bb := ⟨_, rfl⟩
        obtain ⟨s', hs'⟩ : ∃ s', s.pop = s' := ⟨_, rfl⟩
        have hacc : s'.acked ≤ k + 1 := by rw [← hs']; unfold Rcv.pop; simp; omega
        have hs0 : s.acked ≤ 300 := by omega
        have Hxx := Lib.hid hxx; clear hxx
        have Hbb := Lib.hid hbb; clear hbb
        have Hs' := Lib.hid hs'; clear hs'
        go_wp2_with fail
        refine (two_pop ht xx bb s' Hxx.out Hbb.out Hs'.out).mono ?_
        rintro e w1a ⟨rfl, hta⟩
        clear c0 c1 c2
        go_wp2_with fail
        refine (two_pop2 hta xx bb s' hs0 Hxx.out Hbb.out Hs'.out).mono ?_
        rintro e w1b ⟨rfl, htb⟩
        go_wp2_with fail
        have ht2 := htb.drop
        clear ht hta htb
        generalize hW : w1b = W at ht2 ⊢
        clear hW
        obtain ⟨A2, cc2, hall⟩ := ht2.all
        have hall' : W.drew.cell? ⟨gb, 1, none⟩ = some (.slice A2 s'.acked cc2) := hall
        have hs300 : s'.acked ≤ 300 := by omega
        have hq : s'.q.length ≤ 1099511627776 := by obtain ⟨_, _, hx, _⟩ := ht2; have := hx.ok; unfold Rcv.Ok at this; omega
        go_region_held3 (fun w' => w'.cell? ⟨gb, 1, none⟩ = some (.slice A2 s'.acked cc2)) (first | (go_keep; done) | assumption)
         (first
          | (go_at_call 34; refine (two_ack ht2.drew).mono ?_; rintro e w' ⟨rfl, rfl⟩)
          | (go_at_call 35; refine (two_waiting ht5).mono ?_; rintro e w' ⟨rfl, rfl⟩)
          | (go_at_call 35; refine (two_waiting ht2.drew).mono ?_; rintro e w' ⟨rfl, rfl⟩)
          | (go_at_call 36
             refine (two_look2 ht6 hs300).mono ?_
             rintro e w7 ⟨P7, c7, rfl, ht7, hg7, hr7⟩
             have hall7 : w7.cell? ⟨gb, 1, none⟩ = some (.slice A2 s'.acked cc2) := World.grownBy.cell hg7 hall6 (by simp)
             have hr67 := hr6.grown_ hg7
             clear hg7)
          | (go_at_call 36
             refine (two_look2 ht2.drew hs300).mono ?_
             rintro e w5 ⟨P5, c5, rfl, ht5, hg5, hr5⟩
             have hall5 : w5.cell? ⟨gb, 1, none⟩ = some (.slice A2 s'.acked cc2) := World.grownBy.cell hg5 hall' (by simp)
             clear hg5 hr5)
          | (go_at_call 38
             refine (two_look ht5).mono ?_
             rintro e w6 ⟨P6, c6, rfl, ht6, hg6, hr6⟩
             have hall6 : w6.cell? ⟨gb, 1, none⟩ = some (.slice A2 s'.acked cc2) := World.grownBy.cell hg6 hall5 (by simp)
             clear hg6)
          | (go_at_call 37
             refine (same_yes _ _ _ _ _ _ _ hr67 hr7 hq).mono ?_
             rintro e w8 ⟨rfl, m8, rfl⟩
             have ht8 := ht7.drewN m8
             have hall8 : (w7.drewN m8).cell? ⟨gb, 1, none⟩ = some (.slice A2 s'.acked cc2) := hall7))
        go_wp2
        go_roundw
        case rel => exact ⟨k + 1, by omega, by go_num, s', by omega, ht8⟩
        case measure => simp [intOf]; omega
      by_cases h3 : kd = 3
      · subst h3
        obtain ⟨bb, hbb⟩ : ∃ bb, s.takes ((s.acked : Int) + 1) = bb := ⟨_, rfl⟩
        obtain ⟨s', hs'⟩ : ∃ s', s.hear ((s.acked : Int) + 1) tx = s' := ⟨_, rfl⟩
        have hacc : s'.acked ≤ k + 1 := by rw [← hs']; unfold Rcv.hear; split <;> (try simp) <;> omega
        have hs0 : s.acked ≤ 300 := by omega
        have hnn : (s.acked : Int) + 1 ≤ 9223372036854775807 := by omega
        have hwr := wrapI ((s.acked : Int) + 1) (by omega)
        have Hbb := Lib.hid hbb; clear hbb
        have Hs' := Lib.hid hs'; clear hs'
        go_wp2_with fail
        clear c0 c1 c2
        generalize wr.heap.size = ba at ht ⊢
        generalize hW0 : wr.alloc _ = W0 at ht ⊢
        clear hW0
        have x2 : W0.cell? ⟨ba, 2, none⟩ = some (.string tx) := (ht.blk (List.mem_singleton.2 rfl)).cell 2
        obtain ⟨A3, cc3, hall3⟩ := ht.all
        refine wp_region_held_drew (S := fun w' => w'.cell? ⟨ba, 2, none⟩ = some (.string tx)) (by kernel_rfl) x2 (fun hHeld => ?_)
        refine wpAnyH_take (i := 0) (v := ?_) rfl (by kernel_rfl) (by kernel_rfl) (by kernel_rfl) (fun _ _ _ h => h) (Or.inl ⟨by rfl, ?_⟩) (by assumption) ?_
        rotate_left 1
        · (intro w hSw; (try dsimp only at hSw); go_simp; try (with_reducible rfl))
        simp only [Act.put, List.getElem_toArray, List.getElem_cons_zero, List.setIfInBounds_toArray, List.set_cons_zero, List.set_cons_succ]
        refine wpAnyH_take (i := 1) (v := ?_) rfl (by kernel_rfl) (by kernel_rfl) (by kernel_rfl) (fun _ _ _ h => h) (Or.inl ⟨by rfl, ?_⟩) (by assumption) ?_
        rotate_left 1
        · (intro w hSw; (try dsimp only at hSw); go_simp; try (with_reducible rfl))
        simp only [Act.put, List.getElem_toArray, List.getElem_cons_zero, List.getElem_cons_succ, List.setIfInBounds_toArray, List.set_cons_zero, List.set_cons_succ]
        refine wpAnyH_take (i := 4) (v := ?_) rfl (by kernel_rfl) (by kernel_rfl) (by kernel_rfl) (fun _ _ _ h => h) (Or.inl ⟨by rfl, ?_⟩) (by assumption) ?_
        rotate_left 1
        · (intro w hSw; (try dsimp only at hSw); go_simp; try (with_reducible rfl))
        simp only [Act.put, List.getElem_toArray, List.getElem_cons_zero, List.getElem_cons_succ, List.setIfInBounds_toArray, List.set_cons_zero, List.set_cons_succ]
        refine wpAnyH_take (i := 5) (v := ?_) rfl (by kernel_rfl) (by kernel_rfl) (by kernel_rfl) (fun _ _ _ h => h) (Or.inl ⟨by rfl, ?_⟩) (by assumption) ?_
        rotate_left 1
        · (intro w hSw; (try dsimp only at hSw); go_simp; try (with_reducible rfl))
        simp only [Act.put, List.getElem_toArray, List.getElem_cons_zero, List.getElem_cons_succ, List.setIfInBounds_toArray, List.set_cons_zero, List.set_cons_succ]
        refine wpAnyH_take (i := 7) (v := ?_) rfl (by kernel_rfl) (by kernel_rfl) (by kernel_rfl) (fun _ _ _ h => h) (Or.inl ⟨by rfl, ?_⟩) (by assumption) ?_
        rotate_left 1
        · (intro w hSw; (try dsimp only at hSw); go_simp; try (with_reducible rfl))
        simp only [Act.put, List.getElem_toArray, List.getElem_cons_zero, List.getElem_cons_succ, List.setIfInBounds_toArray, List.set_cons_zero, List.set_cons_succ]
        refine wpAnyH_take (i := 8) (v := ?_) rfl (by kernel_rfl) (by kernel_rfl) (by kernel_rfl) (fun _ _ _ h => h) (Or.inl ⟨by rfl, ?_⟩) (by assumption) ?_
        rotate_left 1
        · (intro w hSw; (try dsimp only at hSw); go_simp; try (with_reducible rfl))
        simp only [Act.put, List.getElem_toArray, List.getElem_cons_zero, List.getElem_cons_succ, List.setIfInBounds_toArray, List.set_cons_zero, List.set_cons_succ]
        refine wpAnyH_take (i := 9) (v := ?_) rfl (by kernel_rfl) (by kernel_rfl) (by kernel_rfl) (fun _ _ _ h => h) (Or.inl ⟨by rfl, ?_⟩) (by assumption) ?_
        rotate_left 1
        · (intro w hSw; (try dsimp only at hSw); go_simp; try (with_reducible rfl))
        simp only [Act.put, List.getElem_toArray, List.getElem_cons_zero, List.getElem_cons_succ, List.setIfInBounds_toArray, List.set_cons_zero, List.set_cons_succ]
        refine wpAnyH_take (i := 10) (v := ?_) rfl (by kernel_rfl) (by kernel_rfl) (by kernel_rfl) (fun _ _ _ h => h) (Or.inl ⟨by rfl, ?_⟩) (by assumption) ?_
        rotate_left 1
        · (intro w hSw; (try dsimp only at hSw); go_simp; try (with_reducible rfl))
        simp only [Act.put, List.getElem_toArray, List.getElem_cons_zero, List.getElem_cons_succ, List.setIfInBounds_toArray, List.set_cons_zero, List.set_cons_succ]
        refine wpAnyH_take (i := 14) (v := ?_) rfl (by kernel_rfl) (by kernel_rfl) (by kernel_rfl) (fun _ _ _ h => h) (Or.inl ⟨by rfl, ?_⟩) (by assumption) ?_
        rotate_left 1
        · (intro w hSw; (try dsimp only at hSw); go_simp; try (with_reducible rfl))
        simp only [Act.put, List.getElem_toArray, List.getElem_cons_zero, List.getElem_cons_succ, List.setIfInBounds_toArray, List.set_cons_zero, List.set_cons_succ]
        refine wpAnyH_take (i := 15) (v := ?_) rfl (by kernel_rfl) (by kernel_rfl) (by kernel_rfl) (fun _ _ _ h => h) (Or.inl ⟨by rfl, ?_⟩) (by assumption) ?_
        rotate_left 1
        · (intro w hSw; (try dsimp only at hSw); go_simp; try (with_reducible rfl))
        simp only [Act.put, List.getElem_toArray, List.getElem_cons_zero, List.getElem_cons_succ, List.setIfInBounds_toArray, List.set_cons_zero, List.set_cons_succ]
        refine wpAnyH_ready (rs := [2, 11]) (by kernel_rfl) (by simp) ?_
        refine AllReadyH.cons rfl (fun K hK => ?_) ?_
        · skip
          go_simp
          go_at_call 34; refine (two_ack ht.drew).mono ?_; rintro e w' ⟨rfl, rfl⟩
          go_simp
          refine hK.out _ _ (by first | exact hHeld | exact hHeld) (fun hHeld => ?_)
          clear hK K
          try simp only [Act.put]
          refine wpAnyH_take (i := 3) (v := ?_) rfl (by kernel_rfl) (by kernel_rfl) (by kernel_rfl) (fun _ _ _ h => h) (Or.inl ⟨by rfl, ?_⟩) (by assumption) ?_
          rotate_left 1
          · (intro w hSw; (try dsimp only at hSw); go_simp; try (with_reducible rfl))
          simp only [Act.put, List.getElem_toArray, List.getElem_cons_zero, List.getElem_cons_succ, List.setIfInBounds_toArray, List.set_cons_zero, List.set_cons_succ]
          refine wpAnyH_ready (rs := [6, 11]) (by kernel_rfl) (by simp) ?_
          refine AllReadyH.cons rfl (fun K hK => ?_) ?_
          · skip
            go_simp
            go_at_call 30; refine (two_hear ht.drew ((s.acked : Int) + 1) tx bb s' hs0 Hbb.out Hs'.out).mono ?_; rintro e w1a ⟨rfl, hta⟩
            have xa2 : w1a.cell? ⟨ba, 2, none⟩ = some (.string tx) := (hta.blk (List.mem_singleton.2 rfl)).cell 2
            obtain ⟨A4, cc4, hall4⟩ := hta.all
            go_simp
            refine hK.out _ _ (by first | exact hHeld | exact xa2) (fun hHeld => ?_)
            clear hK K
            try simp only [Act.put]
            refine wpAnyH_ready (rs := [11]) (by kernel_rfl) (by simp) ?_
            refine AllReadyH.cons rfl (fun K hK => ?_) ?_
            · skip
              go_simp
              refine hK.out _ _ (by first | exact hHeld | exact hHeld) (fun hHeld => ?_)
              clear hK K
              try simp only [Act.put]
              refine wpAnyH_take (i := 12) (v := ?_) rfl (by kernel_rfl) (by kernel_rfl) (by kernel_rfl) (fun _ _ _ h => h) (Or.inl ⟨by rfl, ?_⟩) (by assumption) ?_
              rotate_left 1
              · (intro w hSw; (try dsimp only at hSw); go_simp; try (with_reducible rfl))
              simp only [Act.put, List.getElem_toArray, List.getElem_cons_zero, List.getElem_cons_succ, List.setIfInBounds_toArray, List.set_cons_zero, List.set_cons_succ]
              refine wpAnyH_take (i := 13) (v := ?_) rfl (by kernel_rfl) (by kernel_rfl) (by kernel_rfl) (fun _ _ _ h => h) (Or.inl ⟨by rfl, ?_⟩) (by assumption) ?_
              rotate_left 1
              · (intro w hSw; (try dsimp only at hSw); go_simp; try (with_reducible rfl))
              simp only [Act.put, List.getElem_toArray, List.getElem_cons_zero, List.getElem_cons_succ, List.setIfInBounds_toArray, List.set_cons_zero, List.set_cons_succ]
              refine wpAnyH_ready (rs := [16]) (by kernel_rfl) (by simp) ?_
              refine AllReadyH.cons rfl (fun K hK => ?_) ?_
              · skip
                go_simp
                go_at_call 31; refine (two_hear2 hta ((s.acked : Int) + 1) tx bb s' hs0 hnn Hbb.out Hs'.out).mono ?_; rintro e w1b ⟨rfl, htb⟩
                have xb2 : w1b.cell? ⟨ba, 2, none⟩ = some (.string tx) := (htb.blk (List.mem_singleton.2 rfl)).cell 2
                go_simp
                refine hK.out _ _ (by first | exact hHeld | exact xb2) (fun hHeld => ?_)
                clear hK K
                try simp only [Act.put]
                refine wpAnyH_take (i := 17) (v := ?_) rfl (by kernel_rfl) (by kernel_rfl) (by kernel_rfl) (fun _ _ _ h => h) (Or.inl ⟨by rfl, ?_⟩) (by assumption) ?_
                rotate_left 1
                · (intro w hSw; (try dsimp only at hSw); go_simp; try (with_reducible rfl))
                simp only [Act.put, List.getElem_toArray, List.getElem_cons_zero, List.getElem_cons_succ, List.setIfInBounds_toArray, List.set_cons_zero, List.set_cons_succ]
                refine wpAnyH_take (i := 18) (v := ?_) rfl (by kernel_rfl) (by kernel_rfl) (by kernel_rfl) (fun _ _ _ h => h) (Or.inl ⟨by rfl, ?_⟩) (by assumption) ?_
                rotate_left 1
                · (intro w hSw; (try dsimp only at hSw); go_simp; try (with_reducible rfl))
                simp only [Act.put, List.getElem_toArray, List.getElem_cons_zero, List.getElem_cons_succ, List.setIfInBounds_toArray, List.set_cons_zero, List.set_cons_succ]
                refine wpAnyH_done (by kernel_rfl) ?_ _
                go_wp2_with fail
                have ht2 := htb.drop
                clear ht hta htb xa2 xb2 x2 hall3 hall4
                generalize hW : w1b = W at ht2 ⊢
                clear hW
                obtain ⟨A2, cc2, hall⟩ := ht2.all
                have hall' : W.drew.cell? ⟨gb, 1, none⟩ = some (.slice A2 s'.acked cc2) := hall
                have hs300 : s'.acked ≤ 300 := by omega
                have hq : s'.q.length ≤ 1099511627776 := by obtain ⟨_, _, hx, _⟩ := ht2; have := hx.ok; unfold Rcv.Ok at this; omega
                go_region_held3 (fun w' => w'.cell? ⟨gb, 1, none⟩ = some (.slice A2 s'.acked cc2)) (first | (go_keep; done) | assumption)
                 (first
                  | (go_at_call 34; refine (two_ack ht2.drew).mono ?_; rintro e w' ⟨rfl, rfl⟩)
                  | (go_at_call 35; refine (two_waiting ht5).mono ?_; rintro e w' ⟨rfl, rfl⟩)
                  | (go_at_call 35; refine (two_waiting ht2.drew).mono ?_; rintro e w' ⟨rfl, rfl⟩)
                  | (go_at_call 36
                     refine (two_look2 ht6 hs300).mono ?_
                     rintro e w7 ⟨P7, c7, rfl, ht7, hg7, hr7⟩
                     have hall7 : w7.cell? ⟨gb, 1, none⟩ = some (.slice A2 s'.acked cc2) := World.grownBy.cell hg7 hall6 (by simp)
                     have hr67 := hr6.grown_ hg7
                     clear hg7)
                  | (go_at_call 36
                     refine (two_look2 ht2.drew hs300).mono ?_
                     rintro e w5 ⟨P5, c5, rfl, ht5, hg5, hr5⟩
                     have hall5 : w5.cell? ⟨gb, 1, none⟩ = some (.slice A2 s'.acked cc2) := World.grownBy.cell hg5 hall' (by simp)
                     clear hg5 hr5)
                  | (go_at_call 38
                     refine (two_look ht5).mono ?_
                     rintro e w6 ⟨P6, c6, rfl, ht6, hg6, hr6⟩
                     have hall6 : w6.cell? ⟨gb, 1, none⟩ = some (.slice A2 s'.acked cc2) := World.grownBy.cell hg6 hall5 (by simp)
                     clear hg6)
                  | (go_at_call 37
                     refine (same_yes _ _ _ _ _ _ _ hr67 hr7 hq).mono ?_
                     rintro e w8 ⟨rfl, m8, rfl⟩
                     have ht8 := ht7.drewN m8
                     have hall8 : (w7.drewN m8).cell? ⟨gb, 1, none⟩ = some (.slice A2 s'.acked cc2) := hall7))
                go_wp2
                go_roundw
                case rel => exact ⟨k + 1, by omega, by go_num, s', by omega, ht8⟩
                case measure => simp [intOf]; omega
              exact AllReadyH.nil
            exact AllReadyH.nil
          refine AllReadyH.cons rfl (fun K hK => ?_) ?_
          · skip
            go_simp
            refine hK.out _ _ (by first | exact hHeld | exact hHeld) (fun hHeld => ?_)
            clear hK K
            try simp only [Act.put]
            refine wpAnyH_take (i := 12) (v := ?_) rfl (by kernel_rfl) (by kernel_rfl) (by kernel_rfl) (fun _ _ _ h => h) (Or.inl ⟨by rfl, ?_⟩) (by assumption) ?_
            rotate_left 1
            · (intro w hSw; (try dsimp only at hSw); go_simp; try (with_reducible rfl))
            simp only [Act.put, List.getElem_toArray, List.getElem_cons_zero, List.getElem_cons_succ, List.setIfInBounds_toArray, List.set_cons_zero, List.set_cons_succ]
            refine wpAnyH_take (i := 13) (v := ?_) rfl (by kernel_rfl) (by kernel_rfl) (by kernel_rfl) (fun _ _ _ h => h) (Or.inl ⟨by rfl, ?_⟩) (by assumption) ?_
            rotate_left 1
            · (intro w hSw; (try dsimp only at hSw); go_simp; try (with_reducible rfl))
            simp only [Act.put, List.getElem_toArray, List.getElem_cons_zero, List.getElem_cons_succ, List.setIfInBounds_toArray, List.set_cons_zero, List.set_cons_succ]
            refine wpAnyH_ready (rs := [6]) (by kernel_rfl) (by simp) ?_
            refine AllReadyH.cons rfl (fun K hK => ?_) ?_
            · skip
              go_simp
              go_at_call 30; refine (two_hear ht.drew ((s.acked : Int) + 1) tx bb s' hs0 Hbb.out Hs'.out).mono ?_; rintro e w1a ⟨rfl, hta⟩
              have xa2 : w1a.cell? ⟨ba, 2, none⟩ = some (.string tx) := (hta.blk (List.mem_singleton.2 rfl)).cell 2
              obtain ⟨A4, cc4, hall4⟩ := hta.all
              go_simp
              refine hK.out _ _ (by first | exact hHeld | exact xa2) (fun hHeld => ?_)
              clear hK K
              try simp only [Act.put]
              refine wpAnyH_ready (rs := [16]) (by kernel_rfl) (by simp) ?_
              refine AllReadyH.cons rfl (fun K hK => ?_) ?_
              · skip
                go_simp
                go_at_call 31; refine (two_hear2 hta ((s.acked : Int) + 1) tx bb s' hs0 hnn Hbb.out Hs'.out).mono ?_; rintro e w1b ⟨rfl, htb⟩
                have xb2 : w1b.cell? ⟨ba, 2, none⟩ = some (.string tx) := (htb.blk (List.mem_singleton.2 rfl)).cell 2
                go_simp
                refine hK.out _ _ (by first | exact hHeld | exact xb2) (fun hHeld => ?_)
                clear hK K
                try simp only [Act.put]
                refine wpAnyH_take (i := 17) (v := ?_) rfl (by kernel_rfl) (by kernel_rfl) (by kernel_rfl) (fun _ _ _ h => h) (Or.inl ⟨by rfl, ?_⟩) (by assumption) ?_
                rotate_left 1
                · (intro w hSw; (try dsimp only at hSw); go_simp; try (with_reducible rfl))
                simp only [Act.put, List.getElem_toArray, List.getElem_cons_zero, List.getElem_cons_succ, List.setIfInBounds_toArray, List.set_cons_zero, List.set_cons_succ]
                refine wpAnyH_take (i := 18) (v := ?_) rfl (by kernel_rfl) (by kernel_rfl) (by kernel_rfl) (fun _ _ _ h => h) (Or.inl ⟨by rfl, ?_⟩) (by assumption) ?_
                rotate_left 1
                · (intro w hSw; (try dsimp only at hSw); go_simp; try (with_reducible rfl))
                simp only [Act.put, List.getElem_toArray, List.getElem_cons_zero, List.getElem_cons_succ, List.setIfInBounds_toArray, List.set_cons_zero, List.set_cons_succ]
                refine wpAnyH_done (by kernel_rfl) ?_ _
                go_wp2_with fail
                have ht2 := htb.drop
                clear ht hta htb xa2 xb2 x2 hall3 hall4
                generalize hW : w1b = W at ht2 ⊢
                clear hW
                obtain ⟨A2, cc2, hall⟩ := ht2.all
                have hall' : W.drew.cell? ⟨gb, 1, none⟩ = some (.slice A2 s'.acked cc2) := hall
                have hs300 : s'.acked ≤ 300 := by omega
                have hq : s'.q.length ≤ 1099511627776 := by obtain ⟨_, _, hx, _⟩ := ht2; have := hx.ok; unfold Rcv.Ok at this; omega
                go_region_held3 (fun w' => w'.cell? ⟨gb, 1, none⟩ = some (.slice A2 s'.acked cc2)) (first | (go_keep; done) | assumption)
                 (first
                  | (go_at_call 34; refine (two_ack ht2.drew).mono ?_; rintro e w' ⟨rfl, rfl⟩)
                  | (go_at_call 35; refine (two_waiting ht5).mono ?_; rintro e w' ⟨rfl, rfl⟩)
                  | (go_at_call 35; refine (two_waiting ht2.drew).mono ?_; rintro e w' ⟨rfl, rfl⟩)
                  | (go_at_call 36
                     refine (two_look2 ht6 hs300).mono ?_
                     rintro e w7 ⟨P7, c7, rfl, ht7, hg7, hr7⟩
                     have hall7 : w7.cell? ⟨gb, 1, none⟩ = some (.slice A2 s'.acked cc2) := World.grownBy.cell hg7 hall6 (by simp)
                     have hr67 := hr6.grown_ hg7
                     clear hg7)
                  | (go_at_call 36
                     refine (two_look2 ht2.drew hs300).mono ?_
                     rintro e w5 ⟨P5, c5, rfl, ht5, hg5, hr5⟩
                     have hall5 : w5.cell? ⟨gb, 1, none⟩ = some (.slice A2 s'.acked cc2) := World.grownBy.cell hg5 hall' (by simp)
                     clear hg5 hr5)
                  | (go_at_call 38
                     refine (two_look ht5).mono ?_
                     rintro e w6 ⟨P6, c6, rfl, ht6, hg6, hr6⟩
                     have hall6 : w6.cell? ⟨gb, 1, none⟩ = some (.slice A2 s'.acked cc2) := World.grownBy.cell hg6 hall5 (by simp)
                     clear hg6)
                  | (go_at_call 37
                     refine (same_yes _ _ _ _ _ _ _ hr67 hr7 hq).mono ?_
                     rintro e w8 ⟨rfl, m8, rfl⟩
                     have ht8 := ht7.drewN m8
                     have hall8 : (w7.drewN m8).cell? ⟨gb, 1, none⟩ = some (.slice A2 s'.acked cc2) := hall7))
                go_wp2
                go_roundw
                case rel => exact ⟨k + 1, by omega, by go_num, s', by omega, ht8⟩
                case measure => simp [intOf]; omega
              exact AllReadyH.nil
            exact AllReadyH.nil
          exact AllReadyH.nil
        refine AllReadyH.cons rfl (fun K hK => ?_) ?_
        · skip
          go_simp
          refine hK.out _ _ (by first | exact hHeld | exact hHeld) (fun hHeld => ?_)
          clear hK K
          try simp only [Act.put]
          refine wpAnyH_take (i := 12) (v := ?_) rfl (by kernel_rfl) (by kernel_rfl) (by kernel_rfl) (fun _ _ _ h => h) (Or.inl ⟨by rfl, ?_⟩) (by assumption) ?_
          rotate_left 1
          · (intro w hSw; (try dsimp only at hSw); go_simp; try (with_reducible rfl))
          simp only [Act.put, List.getElem_toArray, List.getElem_cons_zero, List.getElem_cons_succ, List.setIfInBounds_toArray, List.set_cons_zero, List.set_cons_succ]
          refine wpAnyH_take (i := 13) (v := ?_) rfl (by kernel_rfl) (by kernel_rfl) (by kernel_rfl) (fun _ _ _ h => h) (Or.inl ⟨by rfl, ?_⟩) (by assumption) ?_
          rotate_left 1
          · (intro w hSw; (try dsimp only at hSw); go_simp; try (with_reducible rfl))
          simp only [Act.put, List.getElem_toArray, List.getElem_cons_zero, List.getElem_cons_succ, List.setIfInBounds_toArray, List.set_cons_zero, List.set_cons_succ]
          refine wpAnyH_ready (rs := [2]) (by kernel_rfl) (by simp) ?_
          refine AllReadyH.cons rfl (fun K hK => ?_) ?_
          · skip
            go_simp
            go_at_call 34; refine (two_ack ht.drew).mono ?_; rintro e w' ⟨rfl, rfl⟩
            go_simp
            refine hK.out _ _ (by first | exact hHeld | exact hHeld) (fun hHeld => ?_)
            clear hK K
            try simp only [Act.put]
            refine wpAnyH_take (i := 3) (v := ?_) rfl (by kernel_rfl) (by kernel_rfl) (by kernel_rfl) (fun _ _ _ h => h) (Or.inl ⟨by rfl, ?_⟩) (by assumption) ?_
            rotate_left 1
            · (intro w hSw; (try dsimp only at hSw); go_simp; try (with_reducible rfl))
            simp only [Act.put, List.getElem_toArray, List.getElem_cons_zero, List.getElem_cons_succ, List.setIfInBounds_toArray, List.set_cons_zero, List.set_cons_succ]
            refine wpAnyH_ready (rs := [6]) (by kernel_rfl) (by simp) ?_
            refine AllReadyH.cons rfl (fun K hK => ?_) ?_
            · skip
              go_simp
              go_at_call 30; refine (two_hear ht.drew ((s.acked : Int) + 1) tx bb s' hs0 Hbb.out Hs'.out).mono ?_; rintro e w1a ⟨rfl, hta⟩
              have xa2 : w1a.cell? ⟨ba, 2, none⟩ = some (.string tx) := (hta.blk (List.mem_singleton.2 rfl)).cell 2
              obtain ⟨A4, cc4, hall4⟩ := hta.all
              go_simp
              refine hK.out _ _ (by first | exact hHeld | exact xa2) (fun hHeld => ?_)
              clear hK K
              try simp only [Act.put]
              refine wpAnyH_ready (rs := [16]) (by kernel_rfl) (by simp) ?_
              refine AllReadyH.cons rfl (fun K hK => ?_) ?_
              · skip
                go_simp
                go_at_call 31; refine (two_hear2 hta ((s.acked : Int) + 1) tx bb s' hs0 hnn Hbb.out Hs'.out).mono ?_; rintro e w1b ⟨rfl, htb⟩
                have xb2 : w1b.cell? ⟨ba, 2, none⟩ = some (.string tx) := (htb.blk (List.mem_singleton.2 rfl)).cell 2
                go_simp
                refine hK.out _ _ (by first | exact hHeld | exact xb2) (fun hHeld => ?_)
                clear hK K
                try simp only [Act.put]
                refine wpAnyH_take (i := 17) (v := ?_) rfl (by kernel_rfl) (by kernel_rfl) (by kernel_rfl) (fun _ _ _ h => h) (Or.inl ⟨by rfl, ?_⟩) (by assumption) ?_
                rotate_left 1
                · (intro w hSw; (try dsimp only at hSw); go_simp; try (with_reducible rfl))
                simp only [Act.put, List.getElem_toArray, List.getElem_cons_zero, List.getElem_cons_succ, List.setIfInBounds_toArray, List.set_cons_zero, List.set_cons_succ]
                refine wpAnyH_take (i := 18) (v := ?_) rfl (by kernel_rfl) (by kernel_rfl) (by kernel_rfl) (fun _ _ _ h => h) (Or.inl ⟨by rfl, ?_⟩) (by assumption) ?_
                rotate_left 1
                · (intro w hSw; (try dsimp only at hSw); go_simp; try (with_reducible rfl))
                simp only [Act.put, List.getElem_toArray, List.getElem_cons_zero, List.getElem_cons_succ, List.setIfInBounds_toArray, List.set_cons_zero, List.set_cons_succ]
                refine wpAnyH_done (by kernel_rfl) ?_ _
                go_wp2_with fail
                have ht2 := htb.drop
                clear ht hta htb xa2 xb2 x2 hall3 hall4
                generalize hW : w1b = W at ht2 ⊢
                clear hW
                obtain ⟨A2, cc2, hall⟩ := ht2.all
                have hall' : W.drew.cell? ⟨gb, 1, none⟩ = some (.slice A2 s'.acked cc2) := hall
                have hs300 : s'.acked ≤ 300 := by omega
                have hq : s'.q.length ≤ 1099511627776 := by obtain ⟨_, _, hx, _⟩ := ht2; have := hx.ok; unfold Rcv.Ok at this; omega
                go_region_held3 (fun w' => w'.cell? ⟨gb, 1, none⟩ = some (.slice A2 s'.acked cc2)) (first | (go_keep; done) | assumption)
                 (first
                  | (go_at_call 34; refine (two_ack ht2.drew).mono ?_; rintro e w' ⟨rfl, rfl⟩)
                  | (go_at_call 35; refine (two_waiting ht5).mono ?_; rintro e w' ⟨rfl, rfl⟩)
                  | (go_at_call 35; refine (two_waiting ht2.drew).mono ?_; rintro e w' ⟨rfl, rfl⟩)
                  | (go_at_call 36
                     refine (two_look2 ht6 hs300).mono ?_
                     rintro e w7 ⟨P7, c7, rfl, ht7, hg7, hr7⟩
                     have hall7 : w7.cell? ⟨gb, 1, none⟩ = some (.slice A2 s'.acked cc2) := World.grownBy.cell hg7 hall6 (by simp)
                     have hr67 := hr6.grown_ hg7
                     clear hg7)
                  | (go_at_call 36
                     refine (two_look2 ht2.drew hs300).mono ?_
                     rintro e w5 ⟨P5, c5, rfl, ht5, hg5, hr5⟩
                     have hall5 : w5.cell? ⟨gb, 1, none⟩ = some (.slice A2 s'.acked cc2) := World.grownBy.cell hg5 hall' (by simp)
                     clear hg5 hr5)
                  | (go_at_call 38
                     refine (two_look ht5).mono ?_
                     rintro e w6 ⟨P6, c6, rfl, ht6, hg6, hr6⟩
                     have hall6 : w6.cell? ⟨gb, 1, none⟩ = some (.slice A2 s'.acked cc2) := World.grownBy.cell hg6 hall5 (by simp)
                     clear hg6)
                  | (go_at_call 37
                     refine (same_yes _ _ _ _ _ _ _ hr67 hr7 hq).mono ?_
                     rintro e w8 ⟨rfl, m8, rfl⟩
                     have ht8 := ht7.drewN m8
                     have hall8 : (w7.drewN m8).cell? ⟨gb, 1, none⟩ = some (.slice A2 s'.acked cc2) := hall7))
                go_wp2
                go_roundw
                case rel => exact ⟨k + 1, by omega, by go_num, s', by omega, ht8⟩
                case measure => simp [intOf]; omega
              exact AllReadyH.nil
            exact AllReadyH.nil
          exact AllReadyH.nil
        exact AllReadyH.nil
      · have h1' : (kd == 1) = false := by simpa using h1
        have h2' : (kd == 2) = false := by simpa using h2
        have h3' : (kd == 3) = false := by simpa using h3
        go_wp2_with fail
        have ht2 := ht.drop
        clear ht c0 c1 c2 h1 h2 h3
        generalize hW : wr.alloc _ = W at ht2 ⊢
        clear hW
        have hacc : s.acked ≤ k + 1 := by omega
        obtain ⟨A2, cc2, hall⟩ := ht2.all
        have hall' : W.drew.cell? ⟨gb, 1, none⟩ = some (.slice A2 s.acked cc2) := hall
        have hs300 : s.acked ≤ 300 := by omega
        have hq : s.q.length ≤ 1099511627776 := by obtain ⟨_, _, hx, _⟩ := ht2; have := hx.ok; unfold Rcv.Ok at this; omega
        go_region_held3 (fun w' => w'.cell? ⟨gb, 1, none⟩ = some (.slice A2 s.acked cc2)) (first | (go_keep; done) | assumption)
         (first
          | (go_at_call 34; refine (two_ack ht2.drew).mono ?_; rintro e w' ⟨rfl, rfl⟩)
          | (go_at_call 35; refine (two_waiting ht5).mono ?_; rintro e w' ⟨rfl, rfl⟩)
          | (go_at_call 35; refine (two_waiting ht2.drew).mono ?_; rintro e w' ⟨rfl, rfl⟩)
          | (go_at_call 36
             refine (two_look2 ht6 hs300).mono ?_
             rintro e w7 ⟨P7, c7, rfl, ht7, hg7, hr7⟩
             have hall7 : w7.cell? ⟨gb, 1, none⟩ = some (.slice A2 s.acked cc2) := World.grownBy.cell hg7 hall6 (by simp)
             have hr67 := hr6.grown_ hg7
             clear hg7)
          | (go_at_call 36
             refine (two_look2 ht2.drew hs300).mono ?_
             rintro e w5 ⟨P5, c5, rfl, ht5, hg5, hr5⟩
             have hall5 : w5.cell? ⟨gb, 1, none⟩ = some (.slice A2 s.acked cc2) := World.grownBy.cell hg5 hall' (by simp)
             clear hg5 hr5)
          | (go_at_call 38
             refine (two_look ht5).mono ?_
             rintro e w6 ⟨P6, c6, rfl, ht6, hg6, hr6⟩
             have hall6 : w6.cell? ⟨gb, 1, none⟩ = some (.slice A2 s.acked cc2) := World.grownBy.cell hg6 hall5 (by simp)
             clear hg6)
          | (go_at_call 37
             refine (same_yes _ _ _ _ _ _ _ hr67 hr7 hq).mono ?_
             rintro e w8 ⟨rfl, m8, rfl⟩
             have ht8 := ht7.drewN m8
             have hall8 : (w7.drewN m8).cell? ⟨gb, 1, none⟩ = some (.slice A2 s.acked cc2) := hall7))
        go_wp2
        go_roundw
        case rel => exact ⟨k + 1, by omega, by go_num, s, by omega, ht8⟩
        case measure => simp [intOf]; omega
    · obtain rfl : k = m := by omega
      go_wp2
      go_ret
      exact ⟨rfl, hs.end_⟩
end Go.Proofs.Ytjloipjchcaloaa
