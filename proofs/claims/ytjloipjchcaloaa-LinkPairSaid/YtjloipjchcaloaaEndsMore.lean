/- More of two links side by side: blocks and rows that are held besides. -/
import Derived.Test.YtjloipjchcaloaaEnds
namespace Go.Proofs.Ytjloipjchcaloaa
open Go.RowKit
set_option linter.unusedVariables false

theorem frames_le16 {L : Lnk} (h : L.s.Ok) : L.frames.length ≤ 16 := by
  obtain ⟨o1, o2, o3, o4, o5, o6⟩ := h
  unfold Lnk.frames
  split
  · simp
  · split
    · simp
    · rw [frs_length]; omega
theorem lnk_frames_le {w : World} {own : Nat → Nat} {l g : Nat} {L : Lnk} (h : LnkAt w own l g L) : L.frames.length ≤ 1099511627776 := by
  obtain ⟨_, _, _, _, _, hs, _⟩ := h
  have := frames_le16 hs.ok
  omega

section
variable {w0 w w' : World} {g1 g2 : Nat} {L1 L2 : Lnk} {X Y : World → (Nat → Nat) → Prop}
theorem Ends.weaken (h : Ends w0 g1 L1 g2 L2 X w) (hxy : ∀ w own, X w own → Y w own) : Ends w0 g1 L1 g2 L2 Y w := by
  obtain ⟨own, hB, h1, h2, hx⟩ := h
  exact ⟨own, hB, h1, h2, hxy _ _ hx⟩
theorem Ends.drop1 {Z : World → (Nat → Nat) → Prop} (h : Ends w0 g1 L1 g2 L2 (fun w own => X w own ∧ Z w own) w) : Ends w0 g1 L1 g2 L2 X w := h.weaken fun _ _ h => h.1
/-- a block in new memory is held besides -/
theorem Ends.alloc (h : Ends w0 g1 L1 g2 L2 X w) (hX : Kept X) (t : TypeId) (cs : Array Value) : Ends w0 g1 L1 g2 L2 (fun w' own => X w' own ∧ own w.heap.size = 31 ∧ Blk w' w.heap.size t cs) (w.alloc (.cells cs t)) := by
  obtain ⟨own, hB, h1, h2, hx⟩ := h
  have st := StepG.of_grown 4 own (World.grownBy_alloc w (.cells cs t) none) 31
  exact ⟨_, hB.stepG st (by omega), h1.other st (by omega), h2.other st (by omega), hX.step st (by omega) hx, give_new (Nat.le_refl _), Blk.new w t cs⟩
theorem Ends.blk {b t : Nat} {cs : Array Value} (h : Ends w0 g1 L1 g2 L2 X w) (hx : ∀ w own, X w own → Blk w b t cs) : Blk w b t cs := by
  obtain ⟨own, hB, h1, h2, h3⟩ := h
  exact hx _ _ h3
theorem Ends.row {t size n : Nat} {A : Option Addr} {xs : List Value} (h : Ends w0 g1 L1 g2 L2 X w) (hx : ∀ w own, X w own → Row w own 30 t size A n xs) : Rd w size A n xs := by
  obtain ⟨own, hB, h1, h2, h3⟩ := h
  exact (hx _ _ h3).rd
end
end Go.Proofs.Ytjloipjchcaloaa
