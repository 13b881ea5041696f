/- A bag beside a map of packets, as they stand in BagKeeps's walk. -/
import Derived.Test.YtiipioifjjemoaaKeyC
import Derived.Test.YtiipioifjjemoaaOpenK
import Derived.Test.YtiipioifjjemoaaSame11
import Derived.Test.YtiipioifjjemoaaAw19
namespace Go.Proofs.Ytiipioifjjemoaa
open Go.RowKit
set_option linter.unusedVariables false

/-- The map at b knows the packets ks; the act's block stands. -/
def KX (b n : Nat) (ks : List Pkt) : Hold := fun w own => own b = 32 ∧ KnownAt w b n ks
def KB (b n : Nat) (ks : List Pkt) (bx : Nat) (cs : Array Value) : Hold := fun w own => KX b n ks w own ∧ own bx = 31 ∧ Blk w bx 34 cs
theorem KX.kept (b n : Nat) (ks : List Pkt) : Kept (KX b n ks) := fun w own w' own' hk h => by
  have := hk b h.2.lt (by rw [h.1])
  exact ⟨by rw [this.2]; exact h.1, h.2.of_eq this.1⟩
theorem KB.kept (b n : Nat) (ks : List Pkt) (bx : Nat) (cs : Array Value) : Kept (KB b n ks bx cs) := Kept.blk (KX.kept b n ks) 31 (by omega) bx 34 cs
section
variable {w0 w w' : World} {g b n bx : Nat} {s : BSt} {ks : List Pkt} {cs : Array Value} {X : Hold}
theorem Bg.known (h : Bg w0 g s X w) (hx : ∀ w own, X w own → KnownAt w b n ks) : KnownAt w b n ks := by
  obtain ⟨own, hB, hb, h3⟩ := h
  exact hx _ _ h3
theorem Bg.made (h : Bg w0 g s (fun _ _ => True) w) : Bg w0 g s (KX w.heap.size 0 []) (w.alloc (.map #[] 0)) := by
  obtain ⟨own, hB, hb, hx⟩ := h
  have st := StepG.of_grown 4 own (World.grownBy_alloc w (.map #[] 0) none) 32
  exact ⟨_, hB.stepG st (by omega), hb.other st (by omega), give_new (Nat.le_refl _), KnownAt.made w⟩
theorem Bg.put (h : Bg w0 g s (KB b n ks bx cs) w) (hg : w.grownBy w' (some b)) {ks' : List Pkt} {n' : Nat} (hk : KnownAt w' b n' ks') : Bg w0 g s (KB b n' ks' bx cs) w' := by
  obtain ⟨own, hB, hb, ⟨ho, hkn⟩, hox, hbx⟩ := h
  have st : Step 32 w own w' own := (Step.refl 32 w own).grown hg (fun q hq => by injection hq with hq; subst hq; exact ho)
  have stG := st.toG (l := 3) (by omega)
  exact ⟨own, hB.stepG stG (by omega), hb.other stG (by omega), ⟨ho, hk⟩, hox, hbx.of_eq (st.other (by omega) hbx.lt hox).1⟩
theorem bg_all (h : Bg w0 g s X w) : Calls Try.prog 12 #[.pointer (some ⟨g, 0, none⟩)] w (AllOk s w) := by
  obtain ⟨own, hB, hb, hx⟩ := h
  exact all19 hb
theorem Bg.hold {e size n c : Nat} {xs : List Value} {A : Option Addr} (h : Bg w0 g s X w) (hX : Kept X) (hn : NewRow e size xs w A n c w') : Bg w0 g s (fun w' own => X w' own ∧ Row w' own 30 e size A n xs) w' := by
  obtain ⟨own, hB, hb, hx⟩ := h
  have st := StepG.of_grown 4 own hn.grown 30
  exact ⟨_, hB.stepG st (by omega), hb.other st (by omega), hX.step st (by omega) hx, hn.row own w.heap.size 30 (Nat.le_refl _)⟩
theorem Bg.rd {j size n e : Nat} {A : Option Addr} {xs : List Value} (h : Bg w0 g s X w) (hx : ∀ w own, X w own → Row w own j e size A n xs) : Rd w size A n xs := by
  obtain ⟨own, hB, hb, h3⟩ := h
  exact (hx _ _ h3).rd
theorem Bg.old {size n : Nat} {A : Option Addr} {xs : List Value} (h : Bg w0 g s X w) (hr : Rd w0 size A n xs) (hs : 0 < size) : Rd w size A n xs := by
  obtain ⟨own, hB, _⟩ := h
  exact (base_oRow hB hr hs).rd
theorem Bg.wf (h : Bg w0 g s X w) {l : List ActC} (hw : ∀ a ∈ l, ActWf w0 a) : ∀ a ∈ l, ActWf w a := fun a ha => by
  obtain ⟨h1, h2, h3, h4, h5⟩ := hw a ha
  exact ⟨h1, h2, h3, h4, h.old h5 (by omega)⟩
end
theorem KnownAt.monoN {w : World} {b n n' : Nat} {ks : List Pkt} (h : KnownAt w b n ks) (hn : n ≤ n') : KnownAt w b n' ks := by
  obtain ⟨D, h1, hk⟩ := h
  exact ⟨D, h1.mono hn, hk⟩
/-- each packet of the bag is known -/
def Inn (s : BSt) (ks : List Pkt) : Prop := ∀ q ∈ s, q.1 ∈ ks ∧ PktWf q.1
end Go.Proofs.Ytiipioifjjemoaa
