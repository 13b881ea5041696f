/- A sender, the reference's one, and others that stand by: contracts beside one another. -/
import Derived.Test.YtjloipjchcaloaaAlike10
namespace Go.Proofs.Ytjloipjchcaloaa
open Go.RowKit
set_option linter.unusedVariables false

theorem duo_base {B : Nat} {w0 w : World} {own : Nat → Nat} (h : Base B w0 w own) (hB : B = w0.heap.size) : w0.grownBy w none :=
  ⟨h.below.os, h.below.tape, h.below.output, h.below.size, fun q hq _ => h.below.block q (by omega)⟩

/-- The sender at g is i's and stands as s, the reference's one at g2 stands as s2, others (an owner, an address, a state each) stand by, blocks are held; nothing that was there when the call began has changed. -/
def Duo (w0 : World) (i g : Nat) (s : Snd) (g2 : Nat) (s2 : Snd) (rest : List (Nat × Nat × Snd)) (bs : List (Nat × Array Value)) (w : World) : Prop :=
  4 < i ∧ (∀ p ∈ rest, 4 < p.1 ∧ p.1 ≠ i) ∧ ∃ own, Base w0.heap.size w0 w own ∧ SndAt w own i g s ∧ Ref10At w own 2 g2 s2 ∧ (∀ p ∈ rest, SndAt w own p.1 p.2.1 p.2.2) ∧ ∀ p ∈ bs, own p.1 = 3 ∧ Blk w p.1 40 p.2

section
variable {w0 w w' : World} {i g g2 : Nat} {s s2 : Snd} {rest : List (Nat × Nat × Snd)} {bs : List (Nat × Array Value)}
theorem held_step {j : Nat} {own own' : Nat → Nat} (st : Step j w own w' own') (hj : j ≠ 3) (hx : ∀ p ∈ bs, own p.1 = 3 ∧ Blk w p.1 40 p.2) : ∀ p ∈ bs, own' p.1 = 3 ∧ Blk w' p.1 40 p.2 := fun p hp => by
  have := st.other (j := 3) (by omega) (hx p hp).2.lt (hx p hp).1
  exact ⟨this.2, (hx p hp).2.of_eq this.1⟩
theorem Duo.grown (h : Duo w0 i g s g2 s2 rest bs w) (hg : w.grownBy w' none) : Duo w0 i g s g2 s2 rest bs w' := by
  obtain ⟨h1, h2, own, hB, ha, hb, hr, hx⟩ := h
  have st : Step 4 w own w' (give own w.heap.size 4) := ((Step.refl 4 w own).give_ 4).grown hg (by simp)
  exact ⟨h1, h2, _, hB.step st (by omega), ha.other st (by omega), hb.other st (by omega), fun p hp => (hr p hp).other st (by have := h2 p hp; omega), held_step st (by omega) hx⟩
theorem Duo.drewN (h : Duo w0 i g s g2 s2 rest bs w) (n : Nat) : Duo w0 i g s g2 s2 rest bs (w.drewN n) := by
  obtain ⟨h1, h2, own, hB, ha, hb, hr, hx⟩ := h
  exact ⟨h1, h2, own, hB.drewN n, ha.drewN n, hb.drewN n, fun p hp => (hr p hp).drewN n, hx⟩
theorem Duo.drew (h : Duo w0 i g s g2 s2 rest bs w) : Duo w0 i g s g2 s2 rest bs w.drew := h.drewN 1
theorem Duo.drop (h : Duo w0 i g s g2 s2 rest bs w) : Duo w0 i g s g2 s2 rest [] w := by
  obtain ⟨h1, h2, own, hB, ha, hb, hr, hx⟩ := h
  exact ⟨h1, h2, own, hB, ha, hb, hr, by simp⟩
theorem Duo.alloc (h : Duo w0 i g s g2 s2 rest [] w) (cs : Array Value) : Duo w0 i g s g2 s2 rest [(w.heap.size, cs)] (w.alloc (.cells cs 40)) := by
  obtain ⟨h1, h2, own, hB, ha, hb, hr, hx⟩ := h
  refine ⟨h1, h2, give own w.heap.size 3, hB.step (((Step.refl 3 w own).give_ 3).alloc _) (by omega), ha.grown (World.grownBy_alloc _ _ none) (Nat.le_refl _), hb.grown (World.grownBy_alloc _ _ none) (Nat.le_refl _), fun p hp => (hr p hp).grown (World.grownBy_alloc _ _ none) (Nat.le_refl _), ?_⟩
  intro p hp
  simp only [List.mem_singleton] at hp
  subst hp
  exact ⟨give_new (Nat.le_refl _), Blk.new w 40 cs⟩
theorem Duo.blk (h : Duo w0 i g s g2 s2 rest bs w) {p : Nat × Array Value} (hp : p ∈ bs) : Blk w p.1 40 p.2 := by
  obtain ⟨h1, h2, own, hB, ha, hb, hr, hx⟩ := h
  exact (hx p hp).2
theorem Duo.end_ (h : Duo w0 i g s g2 s2 rest bs w) : w0.grownBy w none := by
  obtain ⟨h1, h2, own, hB, ha, hb, hr, hx⟩ := h
  exact duo_base hB rfl
theorem Duo.ok (h : Duo w0 i g s g2 s2 rest bs w) : s.Ok := by
  obtain ⟨h1, h2, own, hB, ha, hb, hr, hx⟩ := h
  exact ha.ok

def DuoRet (w0 : World) (i g : Nat) (v : Value) (s : Snd) (g2 : Nat) (s2 : Snd) (rest : List (Nat × Nat × Snd)) (bs : List (Nat × Array Value)) (e : Ending) (w' : World) : Prop := e = .returned v ∧ Duo w0 i g s g2 s2 rest bs w'

theorem duo_offer (h : Duo w0 i g s g2 s2 rest bs w) (d : ByteArray) (n e : Int) (s' : Snd) (hn : s.offN = n) (he : s.offE = e) (hs : s.off d = s') :
    Calls Try.prog 23 #[.pointer (some ⟨g, 0, none⟩), .string d] w (DuoRet w0 i g (.tuple #[.int .i64 n, .int .i64 e]) s' g2 s2 rest bs) := by
  obtain ⟨h1, h2, own, hB, ha, hb, hr, hx⟩ := h
  refine (snd_offer_is ha d n e s' hn he hs).mono ?_
  rintro e w' ⟨he, own', st, h'⟩
  exact ⟨he, h1, h2, own', hB.step st (by omega), h', hb.other st (by omega), fun p hp => (hr p hp).other st (by have := h2 p hp; omega), held_step st (by omega) hx⟩
theorem duo_ack (h : Duo w0 i g s g2 s2 rest bs w) (n r : Int) (s' : Snd) (hn : (s.gone n : Int) = r) (hs : s.ack n = s') :
    Calls Try.prog 22 #[.pointer (some ⟨g, 0, none⟩), .int .i64 n] w (DuoRet w0 i g (.int .i64 r) s' g2 s2 rest bs) := by
  obtain ⟨h1, h2, own, hB, ha, hb, hr, hx⟩ := h
  refine (snd_ack_is ha n r s' hn hs).mono ?_
  rintro e w' ⟨he, own', st, h'⟩
  exact ⟨he, h1, h2, own', hB.step st (by omega), h', hb.other st (by omega), fun p hp => (hr p hp).other st (by have := h2 p hp; omega), held_step st (by omega) hx⟩
theorem duo_offer2 (h : Duo w0 i g s g2 s2 rest bs w) (d : ByteArray) (n e : Int) (s' : Snd) (hl : s2.sent ≤ 300) (hn : s2.offN = n) (he : s2.offE = e) (hs : s2.off d = s') :
    Calls Try.prog 40 #[.pointer (some ⟨g2, 0, none⟩), .string d] w (DuoRet w0 i g (.tuple #[.int .i64 n, .int .i64 e]) s g2 s' rest bs) := by
  subst hn; subst he; subst hs
  obtain ⟨h1, h2, own, hB, ha, hb, hr, hx⟩ := h
  refine (ref10_offer hb d hl).mono ?_
  rintro e w' ⟨he, own', st, h'⟩
  exact ⟨he, h1, h2, own', hB.step st (by omega), ha.other st (by omega), h', fun p hp => (hr p hp).other st (by have := h2 p hp; omega), held_step st (by omega) hx⟩
theorem duo_ack2 (h : Duo w0 i g s g2 s2 rest bs w) (n r : Int) (s' : Snd) (hl : s2.sent ≤ 300) (hn : (s2.gone n : Int) = r) (hs : s2.ack n = s') :
    Calls Try.prog 41 #[.pointer (some ⟨g2, 0, none⟩), .int .i64 n] w (DuoRet w0 i g (.int .i64 r) s g2 s' rest bs) := by
  subst hn; subst hs
  obtain ⟨h1, h2, own, hB, ha, hb, hr, hx⟩ := h
  refine (ref10_ack hb n hl).mono ?_
  rintro e w' ⟨he, own', st, h'⟩
  exact ⟨he, h1, h2, own', hB.step st (by omega), ha.other st (by omega), h', fun p hp => (hr p hp).other st (by have := h2 p hp; omega), held_step st (by omega) hx⟩
theorem duo_sent (h : Duo w0 i g s g2 s2 rest bs w) (n : Int) (hn : (s.sent : Int) = n) : Calls Try.prog 25 #[.pointer (some ⟨g, 0, none⟩)] w fun e w' => e = .returned (.int .i64 n) ∧ w = w' := by
  subst hn
  obtain ⟨h1, h2, own, hB, ha, hb, hr, hx⟩ := h
  exact snd_sent ha
/-- a copy stands by; its owner is the caller's to name -/
theorem duo_copy (h : Duo w0 i g s g2 s2 [] bs w) (j : Nat) (hj : 4 < j) (hij : j ≠ i) :
    Calls Try.prog 42 #[.pointer (some ⟨g, 0, none⟩)] w fun e w' => ∃ g', e = .returned (.pointer (some ⟨g', 0, none⟩)) ∧ Duo w0 i g s g2 s2 [(j, g', s)] bs w' := by
  obtain ⟨h1, h2, own, hB, ha, hb, hr, hx⟩ := h
  refine (snd_copy ha j).mono ?_
  rintro e w' ⟨rfl, st, h3, h4⟩
  refine ⟨_, rfl, h1, ?_, _, hB.step st (by omega), h3, hb.other st (by omega), ?_, held_step st (by omega) hx⟩
  · intro p hp; simp only [List.mem_singleton] at hp; subst hp; exact ⟨hj, hij⟩
  · intro p hp; simp only [List.mem_singleton] at hp; subst hp; exact h4
/-- the one that stands by takes the other's place -/
theorem Duo.swap {j g' : Nat} {s' : Snd} (h : Duo w0 i g s g2 s2 [(j, g', s')] bs w) : Duo w0 j g' s' g2 s2 [(i, g, s)] bs w := by
  obtain ⟨h1, h2, own, hB, ha, hb, hr, hx⟩ := h
  have hj := h2 _ (List.mem_singleton.2 rfl)
  refine ⟨hj.1, ?_, own, hB, hr _ (List.mem_singleton.2 rfl), hb, ?_, hx⟩
  · intro p hp; simp only [List.mem_singleton] at hp; subst hp; exact ⟨h1, fun e => hj.2 e.symm⟩
  · intro p hp; simp only [List.mem_singleton] at hp; subst hp; exact ha
theorem Duo.alone (h : Duo w0 i g s g2 s2 rest bs w) : Duo w0 i g s g2 s2 [] bs w := by
  obtain ⟨h1, h2, own, hB, ha, hb, hr, hx⟩ := h
  exact ⟨h1, by simp, own, hB, ha, hb, by simp, hx⟩
theorem duo_alike (h : Duo w0 i g s g2 s rest bs w) (hl : s.sent ≤ 300) :
    Calls Try.prog 43 #[.pointer (some ⟨g, 0, none⟩), .pointer (some ⟨g2, 0, none⟩)] w (DuoRet w0 i g (.bool true) s g2 s rest bs) := by
  have h' := h
  obtain ⟨h1, h2, own, hB, ha, hb, hr, hx⟩ := h
  refine (alike10 ha hb hl).mono ?_
  rintro e w' ⟨rfl, hg⟩
  exact ⟨rfl, h'.grown hg⟩
end

/-- Two senders, just made. -/
theorem duo_new {w0 w w1 w2 : World} {own1 own2 : Nat → Nat} {i g g2 : Nat} {s : Snd} (h0 : w0.grownBy w none) (hi : 4 < i) (st1 : Step i w (fun _ => 0) w1 own1) (h1 : SndAt w1 own1 i g s) (st2 : Step 2 w1 own1 w2 own2) (h2 : Ref10At w2 own2 2 g2 s) : Duo w0 i g s g2 s [] [] w2 := by
  have hB0 : Base w0.heap.size w0 w (fun _ => 0) := (Base.start w0).step (((Step.refl 4 w0 (fun _ => 0)).grown h0 (by simp))) (by omega)
  exact ⟨hi, by simp, own2, (hB0.step st1 (by omega)).step st2 (by omega), h1.other st2 (by omega), h2, by simp, by simp⟩
end Go.Proofs.Ytjloipjchcaloaa
