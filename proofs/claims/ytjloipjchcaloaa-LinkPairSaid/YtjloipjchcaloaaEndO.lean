/- One link alone, and what is held besides (group 3): contracts. -/
import Derived.Test.YtjloipjchcaloaaEndsMore
namespace Go.Proofs.Ytjloipjchcaloaa
open Go.RowKit
set_option linter.unusedVariables false

/-- a callee that leaves the world as it is, inside a region that only reads -/
theorem quiet_same {P : Program} {f : FuncId} {args : Array Value} {w : World} {n : Nat} {v : Value}
    (h : Calls P f args (w.drewN n) fun e w' => e = .returned v ∧ w.drewN n = w') : Calls P f args (w.drewN n) fun e w'' => e = .returned v ∧ ∃ m, w'' = w.drewN m :=
  h.mono fun _ _ ⟨he, hm⟩ => ⟨he, n, hm.symm⟩

/-- A link stands, and X holds of what is held besides; nothing that was there when the call began has changed. -/
def EndO (w0 : World) (g1 : Nat) (L1 : Lnk) (X : World → (Nat → Nat) → Prop) (w : World) : Prop :=
  ∃ own, Base w0.heap.size w0 w own ∧ LnkAt w own 1 g1 L1 ∧ X w own

section
variable {w0 w w' : World} {g1 : Nat} {L1 : Lnk} {X Y : World → (Nat → Nat) → Prop}
theorem EndO.grown (h : EndO w0 g1 L1 X w) (hX : Kept X) (hg : w.grownBy w' none) : EndO w0 g1 L1 X w' := by
  obtain ⟨own, hB, h1, hx⟩ := h
  have st := StepG.of_grown 4 own hg 40
  exact ⟨_, hB.stepG st (by omega), h1.other st (by omega), hX.step st (by omega) hx⟩
theorem EndO.end_ (h : EndO w0 g1 L1 X w) : w0.grownBy w none := by
  obtain ⟨own, hB, _⟩ := h
  exact duo_base hB rfl
theorem EndO.hold {t size n c : Nat} {A : Option Addr} {xs : List Value} (h : EndO w0 g1 L1 X w) (hX : Kept X) (hnr : NewRow t size xs w A n c w') : EndO w0 g1 L1 (fun w own => X w own ∧ Row w own 30 t size A n xs) w' := by
  obtain ⟨own, hB, h1, hx⟩ := h
  have st := StepG.of_grown 4 own hnr.grown 30
  exact ⟨_, hB.stepG st (by omega), h1.other st (by omega), hX.step st (by omega) hx, hnr.row own w.heap.size 30 (Nat.le_refl _)⟩
theorem EndO.weaken (h : EndO w0 g1 L1 X w) (hxy : ∀ w own, X w own → Y w own) : EndO w0 g1 L1 Y w := by
  obtain ⟨own, hB, h1, hx⟩ := h
  exact ⟨own, hB, h1, hxy _ _ hx⟩
theorem EndO.alloc (h : EndO w0 g1 L1 X w) (hX : Kept X) (t : TypeId) (cs : Array Value) : EndO w0 g1 L1 (fun w' own => X w' own ∧ own w.heap.size = 31 ∧ Blk w' w.heap.size t cs) (w.alloc (.cells cs t)) := by
  obtain ⟨own, hB, h1, hx⟩ := h
  have st := StepG.of_grown 4 own (World.grownBy_alloc w (.cells cs t) none) 31
  exact ⟨_, hB.stepG st (by omega), h1.other st (by omega), hX.step st (by omega) hx, give_new (Nat.le_refl _), Blk.new w t cs⟩
theorem EndO.blk {b t : Nat} {cs : Array Value} (h : EndO w0 g1 L1 X w) (hx : ∀ w own, X w own → Blk w b t cs) : Blk w b t cs := by
  obtain ⟨own, hB, h1, h3⟩ := h
  exact hx _ _ h3
theorem EndO.row {t size n : Nat} {A : Option Addr} {xs : List Value} (h : EndO w0 g1 L1 X w) (hx : ∀ w own, X w own → Row w own 30 t size A n xs) : Rd w size A n xs := by
  obtain ⟨own, hB, h1, h3⟩ := h
  exact (hx _ _ h3).rd
theorem endo_offer (h : EndO w0 g1 L1 X w) (hX : Kept X) (d : ByteArray) (n : Int) (s' : Snd) (hn : L1.s.offE = n) (hs' : L1.s.off d = s') :
    Calls Try.prog 48 #[.pointer (some ⟨g1, 0, none⟩), .string d] w (fun e w' => e = .returned (.int .i64 n) ∧ EndO w0 g1 { L1 with s := s' } X w') := by
  obtain ⟨own, hB, h1, hx⟩ := h
  refine (lnk_offer h1 d n s' hn hs').mono ?_
  rintro e w' ⟨he, own', st, h'⟩
  exact ⟨he, own', hB.stepG st (by omega), h', hX.step st (by omega) hx⟩
theorem endo_hear (h : EndO w0 g1 L1 X w) (hX : Kept X) (fe fs fa : Int) (fd : ByteArray) (hk : L1.r.acked ≤ 1125899906842624) :
    Calls Try.prog 50 #[.pointer (some ⟨g1, 0, none⟩), .agg #[.int .i64 fe, .int .i64 fs, .int .i64 fa, .string fd]] w (fun e w' => e = .returned (.bool (L1.anew fe)) ∧ EndO w0 g1 (L1.hear fe fs fa fd) X w') := by
  obtain ⟨own, hB, h1, hx⟩ := h
  refine (lnk_hear h1 (by omega) fe fs fa fd hk).mono ?_
  rintro e w' ⟨he, own', st, h'⟩
  exact ⟨he, own', hB.stepG st (by omega), h', hX.step st (by omega) hx⟩
theorem endo_epoch (h : EndO w0 g1 L1 X w) (n : Int) (hn : (L1.epoch : Int) = n) : Calls Try.prog 53 #[.pointer (some ⟨g1, 0, none⟩)] w fun e w' => e = .returned (.int .i64 n) ∧ w = w' := by
  subst hn
  obtain ⟨own, hB, h1, hx⟩ := h
  exact lnk_epoch h1
theorem endo_unacked (h : EndO w0 g1 L1 X w) (n : Int) (hn : (L1.s.ds.length : Int) = n) : Calls Try.prog 54 #[.pointer (some ⟨g1, 0, none⟩)] w fun e w' => e = .returned (.int .i64 n) ∧ w = w' := by
  subst hn
  obtain ⟨own, hB, h1, hx⟩ := h
  exact lnk_unacked h1
theorem endo_waiting (h : EndO w0 g1 L1 X w) (n : Int) (hn : (L1.r.q.length : Int) = n) : Calls Try.prog 56 #[.pointer (some ⟨g1, 0, none⟩)] w fun e w' => e = .returned (.int .i64 n) ∧ w = w' := by
  subst hn
  obtain ⟨own, hB, h1, hx⟩ := h
  exact lnk_waiting h1
theorem endo_frames (h : EndO w0 g1 L1 X w) : Calls Try.prog 58 #[.pointer (some ⟨g1, 0, none⟩)] w (FramesOk w L1.frames) := by
  obtain ⟨own, hB, h1, hx⟩ := h
  exact lnk_frames h1
end

/-- Before any link stands: X holds of what is held, nothing that was there when the call began has changed. -/
def Pre (w0 : World) (X : World → (Nat → Nat) → Prop) (w : World) : Prop := ∃ own, Base w0.heap.size w0 w own ∧ X w own

section
variable {w0 w w' : World} {g1 : Nat} {L1 : Lnk} {X Y : World → (Nat → Nat) → Prop}
theorem Pre.start (w : World) : Pre w (fun _ _ => True) w := ⟨fun _ => 0, Base.start w, trivial⟩
theorem Pre.grown (h : Pre w0 X w) (hX : Kept X) (hg : w.grownBy w' none) : Pre w0 X w' := by
  obtain ⟨own, hB, hx⟩ := h
  have st := StepG.of_grown 4 own hg 40
  exact ⟨_, hB.stepG st (by omega), hX.step st (by omega) hx⟩
theorem Pre.weaken (h : Pre w0 X w) (hxy : ∀ w own, X w own → Y w own) : Pre w0 Y w := by
  obtain ⟨own, hB, hx⟩ := h
  exact ⟨own, hB, hxy _ _ hx⟩
theorem Pre.alloc (h : Pre w0 X w) (hX : Kept X) (t : TypeId) (cs : Array Value) : Pre w0 (fun w' own => X w' own ∧ own w.heap.size = 31 ∧ Blk w' w.heap.size t cs) (w.alloc (.cells cs t)) := by
  obtain ⟨own, hB, hx⟩ := h
  have st := StepG.of_grown 4 own (World.grownBy_alloc w (.cells cs t) none) 31
  exact ⟨_, hB.stepG st (by omega), hX.step st (by omega) hx, give_new (Nat.le_refl _), Blk.new w t cs⟩
theorem Pre.blk {b t : Nat} {cs : Array Value} (h : Pre w0 X w) (hx : ∀ w own, X w own → Blk w b t cs) : Blk w b t cs := by
  obtain ⟨own, hB, h3⟩ := h
  exact hx _ _ h3
theorem pre_new (h : Pre w0 X w) (hX : Kept X) (x0 x1 x2 : Int) (p : Bool) :
    Calls Try.prog 44 #[.int .i64 x0, .int .i64 x1, .int .i64 x2, .bool p] w (fun e w' => e = .returned (.pointer (some ⟨w.heap.size, 0, none⟩)) ∧ EndO w0 w.heap.size (Lnk.new x0 x1 x2 p) X w') := by
  obtain ⟨own, hB, hx⟩ := h
  refine (lnk_new 1 own x0 x1 x2 p w).mono ?_
  rintro e w' ⟨he, own', st, h'⟩
  exact ⟨he, own', hB.stepG st (by omega), h', hX.step st (by omega) hx⟩
theorem endo_new2 (h : EndO w0 g1 L1 X w) (hX : Kept X) (x0 x1 x2 : Int) (p : Bool) :
    Calls Try.prog 44 #[.int .i64 x0, .int .i64 x1, .int .i64 x2, .bool p] w (fun e w' => e = .returned (.pointer (some ⟨w.heap.size, 0, none⟩)) ∧ Ends w0 g1 L1 w.heap.size (Lnk.new x0 x1 x2 p) X w') := by
  obtain ⟨own, hB, h1, hx⟩ := h
  refine (lnk_new 2 own x0 x1 x2 p w).mono ?_
  rintro e w' ⟨he, own', st, h'⟩
  exact ⟨he, own', hB.stepG st (by omega), h1.other st (by omega), h', hX.step st (by omega) hx⟩
/-- two blocks in a row -/
theorem Pre.two (w : World) (t1 t2 : TypeId) (cs1 cs2 : Array Value) : Pre w (fun w' own => (True ∧ own w.heap.size = 31 ∧ Blk w' w.heap.size t1 cs1) ∧ own (w.heap.size + 1) = 31 ∧ Blk w' (w.heap.size + 1) t2 cs2) ((w.alloc (.cells cs1 t1)).alloc (.cells cs2 t2)) := by
  have h := ((Pre.start w).alloc Kept.none t1 cs1).alloc (Kept.blk Kept.none w.heap.size t1 cs1) t2 cs2
  rw [show (w.alloc (.cells cs1 t1)).heap.size = w.heap.size + 1 by simp] at h
  exact h
end
end Go.Proofs.Ytjloipjchcaloaa
