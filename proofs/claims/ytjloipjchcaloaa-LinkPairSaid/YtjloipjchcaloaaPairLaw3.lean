/- LinkPair, the plain law: the two ends and what is on its way. -/
import Derived.Test.YtjloipjchcaloaaPairLaw2
namespace Go.Proofs.Ytjloipjchcaloaa
open Go.RowKit
set_option linter.unusedVariables false

structure PR (T : List ByteArray) (A B : Lnk) (g : List ByteArray) (th bk : List Frm) : Prop where
  ok : PairOk T A B g
  room : RoomOk B
  there : ∀ f ∈ th, ThereOk T A.s.sent f
  back : ∀ f ∈ bk, BackOk B.r.acked f

section
variable {T g : List ByteArray} {A B : Lnk} {th bk : List Frm}
theorem PR.start (T : List ByteArray) (x0 x1 : Int) : PR T (Lnk.new 1 x0 x1 false) (Lnk.new 0 x0 x1 true) [] [] [] :=
  ⟨PairOk.new T x0 x1, rfl, by simp, by simp⟩
theorem PR.offer (h : PR T A B g th bk) (hlt : A.s.sent < T.length) (h0 : A.s.offE = 0) :
    PR T { A with s := A.s.off T[A.s.sent] } B g th bk ∧ (A.s.off T[A.s.sent]).sent = A.s.sent + 1 := by
  obtain ⟨h1, h2⟩ := h.ok.offer (d := T[A.s.sent]) (by simp [hlt]) h0
  exact ⟨⟨h1, h.room, fun f hf => (h.there f hf).mono (by show A.s.sent ≤ (A.s.off T[A.s.sent]).sent; omega), h.back⟩, h2⟩
theorem PR.popped (h : PR T A B g th bk) {g' : List ByteArray} {s : ByteArray} {B2 : Lnk} (h4 : R4 T A B g' s false B2) : PR T A B2 g' th bk :=
  ⟨(h4.no rfl).1, h4.room, h.there, fun f hf => by rw [h4.acked]; exact h.back f hf⟩
theorem PR.addThere (h : PR T A B g th bk) : PR T A B g (th ++ A.frames) bk :=
  ⟨h.ok, h.room, fun f hf => by rcases List.mem_append.1 hf with hf | hf; exact h.there f hf; exact h.ok.aframes f hf, h.back⟩
theorem PR.addBack (h : PR T A B g th bk) : PR T A B g th (bk ++ B.frames) :=
  ⟨h.ok, h.room, h.there, fun f hf => by rcases List.mem_append.1 hf with hf | hf; exact h.back f hf; exact h.ok.bframes f hf⟩
theorem PR.bhear (h : PR T A B g th bk) {f : Frm} (hf : f ∈ th) : PR T A (B.hear f.epoch f.seq f.ack f.data) g th bk := by
  obtain ⟨a1, a2, a3, a4, a5, a6⟩ := h.ok.bhear (h.there f hf) 0 h.room
  refine ⟨a1, ?_, h.there, fun f' hf' => (h.back f' hf').mono a3⟩
  unfold RoomOk
  rw [a5, a4]
  exact h.room
theorem PR.ahear (h : PR T A B g th bk) {f : Frm} (hf : f ∈ bk) : PR T (A.hear f.epoch f.seq f.ack f.data) B g th bk := by
  obtain ⟨a1, a2, a3⟩ := h.ok.ahear (h.back f hf)
  exact ⟨a1, h.room, fun f' hf' => by rw [a2]; exact h.there f' hf', h.back⟩
theorem PR.acked (h : PR T A B g th bk) : A.r.acked = 0 ∧ B.r.acked ≤ T.length := by
  have h1 := h.ok.backed
  have h2 := h.ok.asent
  exact ⟨h.ok.ar.1, by omega⟩
end

theorem fcells_append : ∀ a b : List Frm, fcells (a ++ b) = fcells a ++ fcells b
  | [], b => rfl
  | x :: a, b => by simp [fcells, fcells_append a b]
theorem Rd.take {w : World} {A : Option Addr} {m : Nat} {l : List ByteArray} (h : Rd w 1 A m (l.map Value.string)) {k : Nat} (hk : k ≤ m) : Rd w 1 A k ((l.take k).map Value.string) := by
  have hl := h.1
  simp at hl
  refine ⟨by simp; omega, fun h0 => ?_⟩
  obtain ⟨b, off, e, hc⟩ := h.2 (by omega)
  refine ⟨b, off, e, fun j u hu => hc j u ?_⟩
  rw [List.map_take, List.getElem?_take] at hu
  split at hu
  · exact hu
  · cases hu

/-- what is held: the frames there, the frames back, what was popped, and the sizes -/
def Road (x0 x1 : Int) (bx : Nat) (th bk : List Frm) (g : List ByteArray) (A1 : Option Addr) (c1 : Nat) (A2 : Option Addr) (c2 : Nat) (A3 : Option Addr) (c3 : Nat) (w : World) (own : Nat → Nat) : Prop :=
  OwnS w own 32 78 4 A1 th.length c1 (fcells th) ∧ OwnS w own 33 78 4 A2 bk.length c2 (fcells bk) ∧ OwnS w own 34 9 1 A3 g.length c3 (g.map Value.string) ∧ own bx = 31 ∧ Blk w bx 36 #[.int .i64 x0, .int .i64 x1]
end Go.Proofs.Ytjloipjchcaloaa
