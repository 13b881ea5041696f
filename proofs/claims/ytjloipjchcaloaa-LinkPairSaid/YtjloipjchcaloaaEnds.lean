/- Two links (or a link and the reference's one) side by side, and what is held besides (group 3): contracts beside one another. -/
import Derived.Test.YtjloipjchcaloaaGreat12
namespace Go.Proofs.Ytjloipjchcaloaa
open Go.RowKit
set_option linter.unusedVariables false

/-- What is said of blocks of group 3 alone. -/
def Kept (X : World → (Nat → Nat) → Prop) : Prop :=
  ∀ w own w' own', (∀ k, k < w.heap.size → own k / 10 = 3 → w'.heap[k]? = w.heap[k]? ∧ own' k = own k) → X w own → X w' own'

theorem Kept.none : Kept (fun _ _ => True) := fun _ _ _ _ _ _ => trivial
theorem Kept.row {X : World → (Nat → Nat) → Prop} (h : Kept X) (t size : Nat) (A : Option Addr) (n : Nat) (xs : List Value) : Kept (fun w own => X w own ∧ Row w own 30 t size A n xs) :=
  fun w own w' own' hk hx => ⟨h w own w' own' hk hx.1, hx.2.keep fun k hk' ho => ⟨(hk k hk' (by omega)).1, by rw [(hk k hk' (by omega)).2]; exact ho⟩⟩
theorem Kept.blk {X : World → (Nat → Nat) → Prop} (h : Kept X) (b t : Nat) (cs : Array Value) : Kept (fun w own => X w own ∧ own b = 31 ∧ Blk w b t cs) :=
  fun w own w' own' hk hx => by
    have := hk b hx.2.2.lt (by rw [hx.2.1])
    exact ⟨h w own w' own' hk hx.1, by rw [this.2]; exact hx.2.1, hx.2.2.of_eq this.1⟩
theorem Kept.step {X : World → (Nat → Nat) → Prop} (h : Kept X) {l : Nat} {w w' : World} {own own' : Nat → Nat} (st : StepG l w own w' own') (hl : l ≠ 3) (hx : X w own) : X w' own' :=
  h w own w' own' (fun k hk ho => ⟨st.heap k hk (by rw [ho]; exact fun e => hl e.symm), st.own k hk⟩) hx

/-- Two links stand, and X holds of what is held besides; nothing that was there when the call began has changed. -/
def Ends (w0 : World) (g1 : Nat) (L1 : Lnk) (g2 : Nat) (L2 : Lnk) (X : World → (Nat → Nat) → Prop) (w : World) : Prop :=
  ∃ own, Base w0.heap.size w0 w own ∧ LnkAt w own 1 g1 L1 ∧ LnkAt w own 2 g2 L2 ∧ X w own

section
variable {w0 w w' : World} {g1 g2 : Nat} {L1 L2 : Lnk} {X : World → (Nat → Nat) → Prop}
theorem StepG.of_grown (l : Nat) (own : Nat → Nat) (hg : w.grownBy w' none) (j : Nat) : StepG l w own w' (give own w.heap.size j) :=
  ⟨hg.os, hg.tape, hg.output, hg.size, fun k hk _ => hg.block k hk (by simp), fun k hk => give_old hk⟩
theorem Ends.grown (h : Ends w0 g1 L1 g2 L2 X w) (hX : Kept X) (hg : w.grownBy w' none) : Ends w0 g1 L1 g2 L2 X w' := by
  obtain ⟨own, hB, h1, h2, hx⟩ := h
  have st := StepG.of_grown 4 own hg 40
  exact ⟨_, hB.stepG st (by omega), h1.other st (by omega), h2.other st (by omega), hX.step st (by omega) hx⟩
theorem Ends.end_ (h : Ends w0 g1 L1 g2 L2 X w) : w0.grownBy w none := by
  obtain ⟨own, hB, _⟩ := h
  exact duo_base hB rfl
theorem Ends.swap (h : Ends w0 g1 L1 g2 L2 X w) : ∃ own, Base w0.heap.size w0 w own ∧ LnkAt w own 2 g2 L2 ∧ LnkAt w own 1 g1 L1 ∧ X w own := by
  obtain ⟨own, hB, h1, h2, hx⟩ := h
  exact ⟨own, hB, h2, h1, hx⟩
/-- a row in new memory is held besides -/
theorem Ends.hold {t size n c : Nat} {A : Option Addr} {xs : List Value} (h : Ends w0 g1 L1 g2 L2 X w) (hX : Kept X) (hnr : NewRow t size xs w A n c w') : Ends w0 g1 L1 g2 L2 (fun w own => X w own ∧ Row w own 30 t size A n xs) w' := by
  obtain ⟨own, hB, h1, h2, hx⟩ := h
  have st := StepG.of_grown 4 own hnr.grown 30
  exact ⟨_, hB.stepG st (by omega), h1.other st (by omega), h2.other st (by omega), hX.step st (by omega) hx, hnr.row own w.heap.size 30 (Nat.le_refl _)⟩
end

section
variable {w0 w : World} {g1 g2 : Nat} {L1 L2 : Lnk} {X : World → (Nat → Nat) → Prop}
theorem ends_offer1 (h : Ends w0 g1 L1 g2 L2 X w) (hX : Kept X) (d : ByteArray) (n : Int) (s' : Snd) (hn : L1.s.offE = n) (hs' : L1.s.off d = s') :
    Calls Try.prog 48 #[.pointer (some ⟨g1, 0, none⟩), .string d] w (fun e w' => e = .returned (.int .i64 n) ∧ Ends w0 g1 { L1 with s := s' } g2 L2 X w') := by
  obtain ⟨own, hB, h1, h2, hx⟩ := h
  refine (lnk_offer h1 d n s' hn hs').mono ?_
  rintro e w' ⟨he, own', st, h'⟩
  exact ⟨he, own', hB.stepG st (by omega), h', h2.other st (by omega), hX.step st (by omega) hx⟩
theorem ends_pop1 (h : Ends w0 g1 L1 g2 L2 X w) (hX : Kept X) (x : ByteArray) (b : Bool) (r' : Rcv) (hx' : L1.r.popV = x) (hb' : L1.r.popB = b) (hr' : L1.r.pop = r') :
    Calls Try.prog 52 #[.pointer (some ⟨g1, 0, none⟩)] w (fun e w' => e = .returned (.tuple #[.string x, .bool b]) ∧ Ends w0 g1 { L1 with r := r' } g2 L2 X w') := by
  obtain ⟨own, hB, h1, h2, hx⟩ := h
  refine (lnk_pop h1 x b r' hx' hb' hr').mono ?_
  rintro e w' ⟨he, own', st, h'⟩
  exact ⟨he, own', hB.stepG st (by omega), h', h2.other st (by omega), hX.step st (by omega) hx⟩
theorem ends_hear1 (h : Ends w0 g1 L1 g2 L2 X w) (hX : Kept X) (fe fs fa : Int) (fd : ByteArray) (hk : L1.r.acked ≤ 1125899906842624) :
    Calls Try.prog 50 #[.pointer (some ⟨g1, 0, none⟩), .agg #[.int .i64 fe, .int .i64 fs, .int .i64 fa, .string fd]] w (fun e w' => e = .returned (.bool (L1.anew fe)) ∧ Ends w0 g1 (L1.hear fe fs fa fd) g2 L2 X w') := by
  obtain ⟨own, hB, h1, h2, hx⟩ := h
  refine (lnk_hear h1 (by omega) fe fs fa fd hk).mono ?_
  rintro e w' ⟨he, own', st, h'⟩
  exact ⟨he, own', hB.stepG st (by omega), h', h2.other st (by omega), hX.step st (by omega) hx⟩
theorem ends_epoch1 (h : Ends w0 g1 L1 g2 L2 X w) (n : Int) (hn : (L1.epoch : Int) = n) : Calls Try.prog 53 #[.pointer (some ⟨g1, 0, none⟩)] w fun e w' => e = .returned (.int .i64 n) ∧ w = w' := by
  subst hn
  obtain ⟨own, hB, h1, h2, hx⟩ := h
  exact lnk_epoch h1
theorem ends_unacked1 (h : Ends w0 g1 L1 g2 L2 X w) (n : Int) (hn : (L1.s.ds.length : Int) = n) : Calls Try.prog 54 #[.pointer (some ⟨g1, 0, none⟩)] w fun e w' => e = .returned (.int .i64 n) ∧ w = w' := by
  subst hn
  obtain ⟨own, hB, h1, h2, hx⟩ := h
  exact lnk_unacked h1
theorem ends_waiting1 (h : Ends w0 g1 L1 g2 L2 X w) (n : Int) (hn : (L1.r.q.length : Int) = n) : Calls Try.prog 56 #[.pointer (some ⟨g1, 0, none⟩)] w fun e w' => e = .returned (.int .i64 n) ∧ w = w' := by
  subst hn
  obtain ⟨own, hB, h1, h2, hx⟩ := h
  exact lnk_waiting h1
theorem ends_frames1 (h : Ends w0 g1 L1 g2 L2 X w) : Calls Try.prog 58 #[.pointer (some ⟨g1, 0, none⟩)] w (FramesOk w L1.frames) := by
  obtain ⟨own, hB, h1, h2, hx⟩ := h
  exact lnk_frames h1
theorem ends_offer2 (h : Ends w0 g1 L1 g2 L2 X w) (hX : Kept X) (d : ByteArray) (n : Int) (s' : Snd) (hn : L2.s.offE = n) (hs' : L2.s.off d = s') :
    Calls Try.prog 48 #[.pointer (some ⟨g2, 0, none⟩), .string d] w (fun e w' => e = .returned (.int .i64 n) ∧ Ends w0 g1 L1 g2 { L2 with s := s' } X w') := by
  obtain ⟨own, hB, h1, h2, hx⟩ := h
  refine (lnk_offer h2 d n s' hn hs').mono ?_
  rintro e w' ⟨he, own', st, h'⟩
  exact ⟨he, own', hB.stepG st (by omega), h1.other st (by omega), h', hX.step st (by omega) hx⟩
theorem ends_pop2 (h : Ends w0 g1 L1 g2 L2 X w) (hX : Kept X) (x : ByteArray) (b : Bool) (r' : Rcv) (hx' : L2.r.popV = x) (hb' : L2.r.popB = b) (hr' : L2.r.pop = r') :
    Calls Try.prog 52 #[.pointer (some ⟨g2, 0, none⟩)] w (fun e w' => e = .returned (.tuple #[.string x, .bool b]) ∧ Ends w0 g1 L1 g2 { L2 with r := r' } X w') := by
  obtain ⟨own, hB, h1, h2, hx⟩ := h
  refine (lnk_pop h2 x b r' hx' hb' hr').mono ?_
  rintro e w' ⟨he, own', st, h'⟩
  exact ⟨he, own', hB.stepG st (by omega), h1.other st (by omega), h', hX.step st (by omega) hx⟩
theorem ends_hear2 (h : Ends w0 g1 L1 g2 L2 X w) (hX : Kept X) (fe fs fa : Int) (fd : ByteArray) (hk : L2.r.acked ≤ 1125899906842624) :
    Calls Try.prog 50 #[.pointer (some ⟨g2, 0, none⟩), .agg #[.int .i64 fe, .int .i64 fs, .int .i64 fa, .string fd]] w (fun e w' => e = .returned (.bool (L2.anew fe)) ∧ Ends w0 g1 L1 g2 (L2.hear fe fs fa fd) X w') := by
  obtain ⟨own, hB, h1, h2, hx⟩ := h
  refine (lnk_hear h2 (by omega) fe fs fa fd hk).mono ?_
  rintro e w' ⟨he, own', st, h'⟩
  exact ⟨he, own', hB.stepG st (by omega), h1.other st (by omega), h', hX.step st (by omega) hx⟩
theorem ends_epoch2 (h : Ends w0 g1 L1 g2 L2 X w) (n : Int) (hn : (L2.epoch : Int) = n) : Calls Try.prog 53 #[.pointer (some ⟨g2, 0, none⟩)] w fun e w' => e = .returned (.int .i64 n) ∧ w = w' := by
  subst hn
  obtain ⟨own, hB, h1, h2, hx⟩ := h
  exact lnk_epoch h2
theorem ends_unacked2 (h : Ends w0 g1 L1 g2 L2 X w) (n : Int) (hn : (L2.s.ds.length : Int) = n) : Calls Try.prog 54 #[.pointer (some ⟨g2, 0, none⟩)] w fun e w' => e = .returned (.int .i64 n) ∧ w = w' := by
  subst hn
  obtain ⟨own, hB, h1, h2, hx⟩ := h
  exact lnk_unacked h2
theorem ends_waiting2 (h : Ends w0 g1 L1 g2 L2 X w) (n : Int) (hn : (L2.r.q.length : Int) = n) : Calls Try.prog 56 #[.pointer (some ⟨g2, 0, none⟩)] w fun e w' => e = .returned (.int .i64 n) ∧ w = w' := by
  subst hn
  obtain ⟨own, hB, h1, h2, hx⟩ := h
  exact lnk_waiting h2
theorem ends_frames2 (h : Ends w0 g1 L1 g2 L2 X w) : Calls Try.prog 58 #[.pointer (some ⟨g2, 0, none⟩)] w (FramesOk w L2.frames) := by
  obtain ⟨own, hB, h1, h2, hx⟩ := h
  exact lnk_frames h2
end

theorem grown_drewN (w : World) (m : Nat) : w.grownBy (w.drewN m) none := ⟨rfl, rfl, rfl, Nat.le_refl _, fun _ _ _ => rfl⟩

/-- the cells of a frame of a list that is held -/
theorem held_frame {w0 w : World} {g1 g2 : Nat} {L1 L2 : Lnk} {X : World → (Nat → Nat) → Prop} {b off n : Nat} {l : List Frm}
    (h : Ends w0 g1 L1 g2 L2 (fun w own => X w own ∧ Row w own 30 78 4 (some ⟨b, off, none⟩) n (fcells l)) w) {k : Nat} (hk : k < n) {f : Frm} (hf : l[k]? = some f) :
    w.cell? ⟨b, off + k * 4, none⟩ = some (.int .i64 f.epoch) ∧ w.cell? ⟨b, off + k * 4 + 1, none⟩ = some (.int .i64 f.seq) ∧ w.cell? ⟨b, off + k * 4 + 2, none⟩ = some (.int .i64 f.ack) ∧ w.cell? ⟨b, off + k * 4 + 3, none⟩ = some (.string f.data) := by
  obtain ⟨own, hB, h1, h2, hx, hr⟩ := h
  obtain ⟨b', off', f', e, hf', c0, c1, c2, c3⟩ := frame_at hr.rd hk
  injection e with e
  injection e with e1 e2
  subst e1; subst e2
  rw [hf] at hf'
  injection hf' with hf'
  subst hf'
  exact ⟨c0, c1, c2, c3⟩
end Go.Proofs.Ytjloipjchcaloaa
