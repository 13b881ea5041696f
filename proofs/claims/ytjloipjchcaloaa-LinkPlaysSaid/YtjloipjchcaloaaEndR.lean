/- A link and the reference's one side by side, and what is held besides (group 3): contracts beside one another. -/
import Derived.Test.YtjloipjchcaloaaEndO
namespace Go.Proofs.Ytjloipjchcaloaa
open Go.RowKit
set_option linter.unusedVariables false

/-- Two links stand, and X holds of what is held besides; nothing that was there when the call began has changed. -/
def EndR (w0 : World) (g1 : Nat) (L1 : Lnk) (g2 : Nat) (L2 : Lnk) (X : World → (Nat → Nat) → Prop) (w : World) : Prop :=
  ∃ own, Base w0.heap.size w0 w own ∧ LnkAt w own 1 g1 L1 ∧ RLnkAt w own 2 g2 L2 ∧ X w own

section
variable {w0 w w' : World} {g1 g2 : Nat} {L1 L2 : Lnk} {X : World → (Nat → Nat) → Prop}
theorem EndR.grown (h : EndR w0 g1 L1 g2 L2 X w) (hX : Kept X) (hg : w.grownBy w' none) : EndR w0 g1 L1 g2 L2 X w' := by
  obtain ⟨own, hB, h1, h2, hx⟩ := h
  have st := StepG.of_grown 4 own hg 40
  exact ⟨_, hB.stepG st (by omega), h1.other st (by omega), h2.other st (by omega), hX.step st (by omega) hx⟩
theorem EndR.end_ (h : EndR w0 g1 L1 g2 L2 X w) : w0.grownBy w none := by
  obtain ⟨own, hB, _⟩ := h
  exact duo_base hB rfl
/-- a row in new memory is held besides -/
theorem EndR.hold {t size n c : Nat} {A : Option Addr} {xs : List Value} (h : EndR w0 g1 L1 g2 L2 X w) (hX : Kept X) (hnr : NewRow t size xs w A n c w') : EndR w0 g1 L1 g2 L2 (fun w own => X w own ∧ Row w own 30 t size A n xs) w' := by
  obtain ⟨own, hB, h1, h2, hx⟩ := h
  have st := StepG.of_grown 4 own hnr.grown 30
  exact ⟨_, hB.stepG st (by omega), h1.other st (by omega), h2.other st (by omega), hX.step st (by omega) hx, hnr.row own w.heap.size 30 (Nat.le_refl _)⟩
end

section
variable {w0 w : World} {g1 g2 : Nat} {L1 L2 : Lnk} {X : World → (Nat → Nat) → Prop}
theorem endr_offer1 (h : EndR w0 g1 L1 g2 L2 X w) (hX : Kept X) (d : ByteArray) (n : Int) (s' : Snd) (hn : L1.s.offE = n) (hs' : L1.s.off d = s') :
    Calls Try.prog 48 #[.pointer (some ⟨g1, 0, none⟩), .string d] w (fun e w' => e = .returned (.int .i64 n) ∧ EndR w0 g1 { L1 with s := s' } g2 L2 X w') := by
  obtain ⟨own, hB, h1, h2, hx⟩ := h
  refine (lnk_offer h1 d n s' hn hs').mono ?_
  rintro e w' ⟨he, own', st, h'⟩
  exact ⟨he, own', hB.stepG st (by omega), h', h2.other st (by omega), hX.step st (by omega) hx⟩
theorem endr_pop1 (h : EndR w0 g1 L1 g2 L2 X w) (hX : Kept X) (x : ByteArray) (b : Bool) (r' : Rcv) (hx' : L1.r.popV = x) (hb' : L1.r.popB = b) (hr' : L1.r.pop = r') :
    Calls Try.prog 52 #[.pointer (some ⟨g1, 0, none⟩)] w (fun e w' => e = .returned (.tuple #[.string x, .bool b]) ∧ EndR w0 g1 { L1 with r := r' } g2 L2 X w') := by
  obtain ⟨own, hB, h1, h2, hx⟩ := h
  refine (lnk_pop h1 x b r' hx' hb' hr').mono ?_
  rintro e w' ⟨he, own', st, h'⟩
  exact ⟨he, own', hB.stepG st (by omega), h', h2.other st (by omega), hX.step st (by omega) hx⟩
theorem endr_hear1 (h : EndR w0 g1 L1 g2 L2 X w) (hX : Kept X) (fe fs fa : Int) (fd : ByteArray) (hk : L1.r.acked ≤ 1125899906842624) :
    Calls Try.prog 50 #[.pointer (some ⟨g1, 0, none⟩), .agg #[.int .i64 fe, .int .i64 fs, .int .i64 fa, .string fd]] w (fun e w' => e = .returned (.bool (L1.anew fe)) ∧ EndR w0 g1 (L1.hear fe fs fa fd) g2 L2 X w') := by
  obtain ⟨own, hB, h1, h2, hx⟩ := h
  refine (lnk_hear h1 (by omega) fe fs fa fd hk).mono ?_
  rintro e w' ⟨he, own', st, h'⟩
  exact ⟨he, own', hB.stepG st (by omega), h', h2.other st (by omega), hX.step st (by omega) hx⟩
theorem endr_epoch1 (h : EndR w0 g1 L1 g2 L2 X w) (n : Int) (hn : (L1.epoch : Int) = n) : Calls Try.prog 53 #[.pointer (some ⟨g1, 0, none⟩)] w fun e w' => e = .returned (.int .i64 n) ∧ w = w' := by
  subst hn
  obtain ⟨own, hB, h1, h2, hx⟩ := h
  exact lnk_epoch h1
theorem endr_unacked1 (h : EndR w0 g1 L1 g2 L2 X w) (n : Int) (hn : (L1.s.ds.length : Int) = n) : Calls Try.prog 54 #[.pointer (some ⟨g1, 0, none⟩)] w fun e w' => e = .returned (.int .i64 n) ∧ w = w' := by
  subst hn
  obtain ⟨own, hB, h1, h2, hx⟩ := h
  exact lnk_unacked h1
theorem endr_waiting1 (h : EndR w0 g1 L1 g2 L2 X w) (n : Int) (hn : (L1.r.q.length : Int) = n) : Calls Try.prog 56 #[.pointer (some ⟨g1, 0, none⟩)] w fun e w' => e = .returned (.int .i64 n) ∧ w = w' := by
  subst hn
  obtain ⟨own, hB, h1, h2, hx⟩ := h
  exact lnk_waiting h1
theorem endr_frames1 (h : EndR w0 g1 L1 g2 L2 X w) : Calls Try.prog 58 #[.pointer (some ⟨g1, 0, none⟩)] w (FramesOk w L1.frames) := by
  obtain ⟨own, hB, h1, h2, hx⟩ := h
  exact lnk_frames h1
theorem endr_hear2 (h : EndR w0 g1 L1 g2 L2 X w) (hX : Kept X) (fe fs fa : Int) (fd : ByteArray) (hk : L2.r.acked ≤ 300) (hks : L2.s.sent ≤ 300) (hfe : fe ≤ 1099511627776) (hfe0 : 1 ≤ fe) (hfs0 : 0 ≤ fs) (hfm : fs ≤ 9223372036854775807) :
    Calls Try.prog 51 #[.pointer (some ⟨g2, 0, none⟩), .agg #[.int .i64 fe, .int .i64 fs, .int .i64 fa, .string fd]] w (fun e w' => e = .returned (.bool (L2.anew fe)) ∧ EndR w0 g1 L1 g2 (L2.hear fe fs fa fd) X w') := by
  obtain ⟨own, hB, h1, h2, hx⟩ := h
  refine (rlnk_hear h2 (by omega) fe fs fa fd hk hks hfe hfe0 hfs0 hfm).mono ?_
  rintro e w' ⟨he, own', st, h'⟩
  exact ⟨he, own', hB.stepG st (by omega), h1.other st (by omega), h', hX.step st (by omega) hx⟩
theorem endr_frames2 (h : EndR w0 g1 L1 g2 L2 X w) (hss : L2.s.sent ≤ 300) (hra : L2.r.acked ≤ 300) : Calls Try.prog 59 #[.pointer (some ⟨g2, 0, none⟩)] w (FramesOk w L2.frames) := by
  obtain ⟨own, hB, h1, h2, hx⟩ := h
  exact rlnk_frames h2 hss hra
end

section
variable {w0 w w' : World} {g1 g2 : Nat} {L1 L2 : Lnk} {X Y : World → (Nat → Nat) → Prop}
theorem EndR.weaken (h : EndR w0 g1 L1 g2 L2 X w) (hxy : ∀ w own, X w own → Y w own) : EndR w0 g1 L1 g2 L2 Y w := by
  obtain ⟨own, hB, h1, h2, hx⟩ := h
  exact ⟨own, hB, h1, h2, hxy _ _ hx⟩
theorem EndR.drop1 {Z : World → (Nat → Nat) → Prop} (h : EndR w0 g1 L1 g2 L2 (fun w own => X w own ∧ Z w own) w) : EndR w0 g1 L1 g2 L2 X w := h.weaken fun _ _ h => h.1
/-- a block in new memory is held besides -/
theorem EndR.alloc (h : EndR w0 g1 L1 g2 L2 X w) (hX : Kept X) (t : TypeId) (cs : Array Value) : EndR w0 g1 L1 g2 L2 (fun w' own => X w' own ∧ own w.heap.size = 31 ∧ Blk w' w.heap.size t cs) (w.alloc (.cells cs t)) := by
  obtain ⟨own, hB, h1, h2, hx⟩ := h
  have st := StepG.of_grown 4 own (World.grownBy_alloc w (.cells cs t) none) 31
  exact ⟨_, hB.stepG st (by omega), h1.other st (by omega), h2.other st (by omega), hX.step st (by omega) hx, give_new (Nat.le_refl _), Blk.new w t cs⟩
theorem EndR.blk {b t : Nat} {cs : Array Value} (h : EndR w0 g1 L1 g2 L2 X w) (hx : ∀ w own, X w own → Blk w b t cs) : Blk w b t cs := by
  obtain ⟨own, hB, h1, h2, h3⟩ := h
  exact hx _ _ h3
theorem EndR.row {t size n : Nat} {A : Option Addr} {xs : List Value} (h : EndR w0 g1 L1 g2 L2 X w) (hx : ∀ w own, X w own → Row w own 30 t size A n xs) : Rd w size A n xs := by
  obtain ⟨own, hB, h1, h2, h3⟩ := h
  exact (hx _ _ h3).rd
theorem endr_new2 (h : EndO w0 g1 L1 X w) (hX : Kept X) (x0 x1 x2 : Int) (p : Bool) :
    Calls Try.prog 45 #[.int .i64 x0, .int .i64 x1, .int .i64 x2, .bool p] w (fun e w' => e = .returned (.pointer (some ⟨w.heap.size, 0, none⟩)) ∧ EndR w0 g1 L1 w.heap.size (Lnk.new x0 x1 x2 p) X w') := by
  obtain ⟨own, hB, h1, hx⟩ := h
  refine (rlnk_new 2 own x0 x1 x2 p w).mono ?_
  rintro e w' ⟨he, own', st, h'⟩
  exact ⟨he, own', hB.stepG st (by omega), h1.other st (by omega), h', hX.step st (by omega) hx⟩
end
end Go.Proofs.Ytjloipjchcaloaa
