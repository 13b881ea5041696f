/- A link and the reference's one, the reference's parts by name. -/
import Derived.Test.YtjloipjchcaloaaEndR
namespace Go.Proofs.Ytjloipjchcaloaa
open Go.RowKit
set_option linter.unusedVariables false

def RLnkP (w : World) (own : Nat → Nat) (l g gs gr : Nat) (L : Lnk) : Prop :=
  own g = 10 * l ∧ L.epoch ≤ 1099511627776 ∧ Blk w g 82 #[.int .i64 (L.epoch : Int), .pointer (some ⟨gs, 0, none⟩), .pointer (some ⟨gr, 0, none⟩), .int .i64 L.window, .int .i64 L.room, .bool L.passive] ∧
    Ref10At w own (10 * l + 1) gs L.s ∧ RefAt w own (10 * l + 2) gr L.r
theorem RLnkP.close {w : World} {own : Nat → Nat} {l g gs gr : Nat} {L : Lnk} (h : RLnkP w own l g gs gr L) : RLnkAt w own l g L := ⟨h.1, h.2.1, gs, gr, h.2.2⟩
theorem RLnkP.other {w w' : World} {own own' : Nat → Nat} {l m g gs gr : Nat} {L : Lnk} (h : RLnkP w own l g gs gr L) (st : StepG m w own w' own') (hlm : l ≠ m) : RLnkP w' own' l g gs gr L := by
  obtain ⟨ho, he, hb, hs, hr⟩ := h
  have h0 := st.other (j := 10 * l) (by omega) hb.lt ho
  exact ⟨h0.2, he, hb.of_eq h0.1, hs.keep (fun k hk ho => st.other (by omega) hk ho), hr.keep (fun k hk ho => st.other (by omega) hk ho)⟩

def EndP (w0 : World) (g1 : Nat) (L1 : Lnk) (g2 gs gr : Nat) (L2 : Lnk) (X : World → (Nat → Nat) → Prop) (w : World) : Prop :=
  ∃ own, Base w0.heap.size w0 w own ∧ LnkAt w own 1 g1 L1 ∧ RLnkP w own 2 g2 gs gr L2 ∧ X w own

section
variable {w0 w w' : World} {g1 g2 gs gr : Nat} {L1 L2 : Lnk} {X Y : World → (Nat → Nat) → Prop}
theorem EndR.parts_ (h : EndR w0 g1 L1 g2 L2 X w) : ∃ gs gr, EndP w0 g1 L1 g2 gs gr L2 X w := by
  obtain ⟨own, hB, h1, ⟨ho, he, gs, gr, h2⟩, hx⟩ := h
  exact ⟨gs, gr, own, hB, h1, ⟨ho, he, h2⟩, hx⟩
theorem EndP.close (h : EndP w0 g1 L1 g2 gs gr L2 X w) : EndR w0 g1 L1 g2 L2 X w := by
  obtain ⟨own, hB, h1, h2, hx⟩ := h
  exact ⟨own, hB, h1, h2.close, hx⟩
theorem EndP.grown (h : EndP w0 g1 L1 g2 gs gr L2 X w) (hX : Kept X) (hg : w.grownBy w' none) : EndP w0 g1 L1 g2 gs gr L2 X w' := by
  obtain ⟨own, hB, h1, h2, hx⟩ := h
  have st := StepG.of_grown 4 own hg 40
  exact ⟨_, hB.stepG st (by omega), h1.other st (by omega), h2.other st (by omega), hX.step st (by omega) hx⟩
theorem EndP.hold {t size n c : Nat} {A : Option Addr} {xs : List Value} (h : EndP w0 g1 L1 g2 gs gr L2 X w) (hX : Kept X) (hnr : NewRow t size xs w A n c w') : EndP w0 g1 L1 g2 gs gr L2 (fun w own => X w own ∧ Row w own 30 t size A n xs) w' := by
  obtain ⟨own, hB, h1, h2, hx⟩ := h
  have st := StepG.of_grown 4 own hnr.grown 30
  exact ⟨_, hB.stepG st (by omega), h1.other st (by omega), h2.other st (by omega), hX.step st (by omega) hx, hnr.row own w.heap.size 30 (Nat.le_refl _)⟩
theorem EndP.cells (h : EndP w0 g1 L1 g2 gs gr L2 X w) : w.cell? ⟨g2, 0, none⟩ = some (.int .i64 (L2.epoch : Int)) ∧ w.cell? ⟨g2, 1, none⟩ = some (.pointer (some ⟨gs, 0, none⟩)) ∧ w.cell? ⟨g2, 2, none⟩ = some (.pointer (some ⟨gr, 0, none⟩)) := by
  obtain ⟨own, hB, h1, ⟨ho, he, hb, hs, hr⟩, hx⟩ := h
  exact ⟨hb.cell 0, hb.cell 1, hb.cell 2⟩
theorem EndP.row {t size n : Nat} {A : Option Addr} {xs : List Value} (h : EndP w0 g1 L1 g2 gs gr L2 X w) (hx : ∀ w own, X w own → Row w own 30 t size A n xs) : Rd w size A n xs := h.close.row hx
theorem EndP.blk {b t : Nat} {cs : Array Value} (h : EndP w0 g1 L1 g2 gs gr L2 X w) (hx : ∀ w own, X w own → Blk w b t cs) : Blk w b t cs := h.close.blk hx
theorem endp_offer2 (h : EndP w0 g1 L1 g2 gs gr L2 X w) (hX : Kept X) (d : ByteArray) (hl : L2.s.sent ≤ 300) (n e : Int) (s' : Snd) (hn : L2.s.offN = n) (he : L2.s.offE = e) (hs : L2.s.off d = s') :
    Calls Try.prog 40 #[.pointer (some ⟨gs, 0, none⟩), .string d] w (fun e' w' => e' = .returned (.tuple #[.int .i64 n, .int .i64 e]) ∧ EndP w0 g1 L1 g2 gs gr { L2 with s := s' } X w') := by
  subst hn; subst he; subst hs
  obtain ⟨own, hB, h1, ⟨ho, he, hb, hs, hr⟩, hx⟩ := h
  refine (ref10_offer hs d hl).mono ?_
  rintro e w' ⟨he', own', st, h'⟩
  have st' := st.toG (l := 2) (by omega)
  have q := st.other (j := 20) (by omega) hb.lt ho
  exact ⟨he', own', hB.stepG st' (by omega), h1.other st' (by omega), ⟨q.2, he, hb.of_eq q.1, h', hr.other st (by omega)⟩, hX.step st' (by omega) hx⟩
theorem endp_pop2 (h : EndP w0 g1 L1 g2 gs gr L2 X w) (hX : Kept X) (hl : L2.r.acked ≤ 300) (x : ByteArray) (b : Bool) (r' : Rcv) (hx : L2.r.popV = x) (hb : L2.r.popB = b) (hr : L2.r.pop = r') :
    Calls Try.prog 33 #[.pointer (some ⟨gr, 0, none⟩)] w (fun e' w' => e' = .returned (.tuple #[.string x, .bool b]) ∧ EndP w0 g1 L1 g2 gs gr { L2 with r := r' } X w') := by
  subst hx; subst hb; subst hr
  obtain ⟨own, hB, h1, ⟨ho, he, hb, hs, hr⟩, hx⟩ := h
  refine (ref_pop hr hl).mono ?_
  rintro e w' ⟨he', own', st, h'⟩
  have st' := st.toG (l := 2) (by omega)
  have q := st.other (j := 20) (by omega) hb.lt ho
  exact ⟨he', own', hB.stepG st' (by omega), h1.other st' (by omega), ⟨q.2, he, hb.of_eq q.1, hs.other st (by omega), h'⟩, hX.step st' (by omega) hx⟩
theorem endp_left (h : EndP w0 g1 L1 g2 gs gr L2 X w) (hl : L2.s.sent ≤ 300) (n : Nat) (hn : L2.s.ds.length = n) : Calls Try.prog 55 #[.pointer (some ⟨gs, 0, none⟩)] w (StrsOk n w (L2.s.ds.map Value.string)) := by
  subst hn
  obtain ⟨own, hB, h1, ⟨ho, he, hb, hs, hr⟩, hx⟩ := h
  exact ref10_left hs hl
theorem endp_look (h : EndP w0 g1 L1 g2 gs gr L2 X w) (hl : L2.r.acked ≤ 300) (n : Nat) (hn : L2.r.q.length = n) : Calls Try.prog 36 #[.pointer (some ⟨gr, 0, none⟩)] w (LookOk n w (L2.r.q.map Value.string)) := by
  subst hn
  obtain ⟨own, hB, h1, ⟨ho, he, hb, hs, hr⟩, hx⟩ := h
  exact ref_look hr hl
end

theorem frames_is {f : FuncId} {args : Array Value} {w : World} {l0 l : List Frm} {n : Nat} (h : Calls Try.prog f args w (FramesOk w l0)) (hl : l0 = l) (hn : l.length = n) :
    Calls Try.prog f args w (fun e w' => ∃ A c, e = .returned (.slice A n c) ∧ NewRow 78 4 (fcells l) w A n c w') := by
  subst hl; subst hn
  exact h
end Go.Proofs.Ytjloipjchcaloaa
