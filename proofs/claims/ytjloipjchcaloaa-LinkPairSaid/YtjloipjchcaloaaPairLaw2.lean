/- pairEnds, the plain law: round by round all that is offered is popped. -/
import Derived.Test.YtjloipjchcaloaaPairLaw
namespace Go.Proofs.Ytjloipjchcaloaa
open Go.RowKit
set_option linter.unusedVariables false

def RoomOk (B : Lnk) : Prop := B.r.room = (Rcv.new B.room).room

/-- behind i rounds -/
structure PE (T : List ByteArray) (i : Nat) (A B : Lnk) (g : List ByteArray) : Prop where
  ok : PairOk T A B g
  q : B.r.q = []
  base : A.s.sent - A.s.ds.length = B.r.acked
  prog : min i T.length ≤ B.r.acked
  room : RoomOk B

theorem PE.start (T : List ByteArray) (x0 x1 : Int) : PE T 0 (Lnk.new 1 x0 x1 false) (Lnk.new 0 x0 x1 true) [] :=
  ⟨PairOk.new T x0 x1, rfl, rfl, by simp, rfl⟩
theorem PE.done {T : List ByteArray} {i : Nat} {A B : Lnk} {g : List ByteArray} (h : PE T i A B g) (hi : T.length ≤ i) : g = T ∧ A.s.ds.length = 0 := by
  have h1 := h.prog
  have h2 := h.ok.backed
  have h3 := h.ok.asent
  have h4 := h.base
  have h5 := h.ok.alen
  have h6 := h.ok.bgot
  rw [h.q, List.append_nil, List.take_of_length_le (by omega)] at h6
  exact ⟨h6, by omega⟩

/-- the offers of a round -/
structure PO (T : List ByteArray) (A B : Lnk) (g : List ByteArray) : Prop where
  ok : PairOk T A B g
  base : A.s.sent - A.s.ds.length = B.r.acked
theorem PO.step {T : List ByteArray} {A B : Lnk} {g : List ByteArray} (h : PO T A B g) (hlt : A.s.sent < T.length) (h0 : A.s.offE = 0) :
    PO T { A with s := A.s.off T[A.s.sent] } B g ∧ (A.s.off T[A.s.sent]).sent = A.s.sent + 1 := by
  obtain ⟨h1, h2⟩ := h.ok.offer (d := T[A.s.sent]) (by simp [hlt]) h0
  refine ⟨⟨h1, ?_⟩, h2⟩
  have h3 := h.base
  have h4 := h.ok.alen
  have e : (A.s.off T[A.s.sent]).ds.length = A.s.ds.length + 1 := by
    unfold Snd.offE at h0
    unfold Snd.off
    split
    · rename_i c; rw [if_pos c] at h0; cases h0
    · rename_i c; rw [if_neg c] at h0
      split
      · rename_i c2; rw [if_pos c2] at h0; cases h0
      · simp
  show (A.s.off T[A.s.sent]).sent - (A.s.off T[A.s.sent]).ds.length = B.r.acked
  rw [h2, e]
  omega

/-- behind k frames of A's, each heard twice -/
structure R3 (T : List ByteArray) (A B : Lnk) (g : List ByteArray) (k : Nat) (B' : Lnk) : Prop where
  ok : PairOk T A B' g
  room : RoomOk B'
  mono : B.r.acked ≤ B'.r.acked
  zero : k = 0 → B' = B
  one : 1 ≤ k → B'.epoch = 1 ∧ (1 ≤ A.s.ds.length → B.r.acked + 1 ≤ B'.r.acked)

theorem frames_first {A : Lnk} {f : Frm} (he : A.epoch = 1) (hf : A.frames[0]? = some f) (hd : 1 ≤ A.s.ds.length) : f.seq = ((A.s.sent - A.s.ds.length : Nat) : Int) + 1 := by
  unfold Lnk.frames at hf
  rw [if_neg (by rw [he]; decide), if_neg (fun e => by rw [e] at hd; simp at hd)] at hf
  rw [frs_get _ _ 0 _ _ hd] at hf
  injection hf with hf
  subst hf
  simp

theorem R3.start {T : List ByteArray} {A B : Lnk} {g : List ByteArray} (h : PairOk T A B g) (hr : RoomOk B) : R3 T A B g 0 B := ⟨h, hr, Nat.le_refl _, fun _ => rfl, fun h => absurd h (by omega)⟩
theorem R3.step {T : List ByteArray} {A B B' : Lnk} {g : List ByteArray} {k : Nat} {f : Frm} (h : R3 T A B g k B') (hq : B.r.q = []) (hb : A.s.sent - A.s.ds.length = B.r.acked) (hf : A.frames[k]? = some f) :
    R3 T A B g (k + 1) ((B'.hear f.epoch f.seq f.ack f.data).hear f.epoch f.seq f.ack f.data) := by
  have hT := h.ok.aframes f (List.mem_of_getElem? hf)
  obtain ⟨a1, a2, a3, a4, a5, a6⟩ := h.ok.bhear hT 0 h.room
  have hroom2 : (B'.hear f.epoch f.seq f.ack f.data).r.room = (Rcv.new (B'.hear f.epoch f.seq f.ack f.data).room).room := by rw [a5, a4]; exact h.room
  obtain ⟨b1, b2, b3, b4, b5, b6⟩ := a1.bhear hT 0 hroom2
  have hm := h.mono
  refine ⟨b1, ?_, by omega, fun e => absurd e (by omega), fun _ => ⟨b2, fun hd => ?_⟩⟩
  · unfold RoomOk; rw [b5, b4]; exact hroom2
  · by_cases hk : k = 0
    · subst hk
      have e := h.zero rfl
      have hs := frames_first h.ok.ae hf hd
      have := a6 (by rw [e]; exact hq) (by rw [hs, hb, e])
      have eb : B.r.acked = B'.r.acked := by rw [e]
      omega
    · have := (h.one (by omega)).2 hd
      omega

theorem R3.mid {T : List ByteArray} {A B B' : Lnk} {g : List ByteArray} {k : Nat} {f : Frm} (h : R3 T A B g k B') (hf : A.frames[k]? = some f) : B'.r.acked ≤ T.length ∧ (B'.hear f.epoch f.seq f.ack f.data).r.acked ≤ T.length := by
  have hT := h.ok.aframes f (List.mem_of_getElem? hf)
  obtain ⟨a1, _⟩ := h.ok.bhear hT 0 h.room
  have h1 := h.ok.backed
  have h2 := h.ok.asent
  have h3 := a1.backed
  exact ⟨by omega, by omega⟩

/-- behind some pops; the last one told s and ok -/
structure R4 (T : List ByteArray) (A B1 : Lnk) (g : List ByteArray) (s : ByteArray) (ok : Bool) (B2 : Lnk) : Prop where
  ep : B2.epoch = B1.epoch
  acked : B2.r.acked = B1.r.acked
  room : RoomOk B2
  yes : ok = true → PairOk T A B2 (g ++ [s])
  no : ok = false → PairOk T A B2 g ∧ B2.r.q = []
theorem R4.start {T : List ByteArray} {A B1 : Lnk} {g : List ByteArray} (h : PairOk T A B1 g) (hr : RoomOk B1) : R4 T A B1 g B1.r.popV B1.r.popB { B1 with r := B1.r.pop } := by
  refine ⟨rfl, rfl, hr, fun hb => (h.pop hb).1, fun hb => ?_⟩
  obtain ⟨h1, h2⟩ := h.nopop hb
  have e : ({ B1 with r := B1.r.pop } : Lnk) = B1 := by rw [h2]
  rw [e]
  exact ⟨h, h1⟩
theorem R4.step {T : List ByteArray} {A B1 B2 : Lnk} {g : List ByteArray} {s : ByteArray} (h : R4 T A B1 g s true B2) : R4 T A B1 (g ++ [s]) B2.r.popV B2.r.popB { B2 with r := B2.r.pop } := by
  obtain ⟨a, b, c, d, e⟩ := R4.start (h.yes rfl) h.room
  exact ⟨a.trans h.ep, b.trans h.acked, c, d, e⟩
theorem R4.len {T : List ByteArray} {A B1 B2 : Lnk} {g : List ByteArray} {s : ByteArray} (h : R4 T A B1 g s true B2) : g.length < T.length := by
  have := (h.yes rfl).got_le
  simp at this
  omega

theorem R4.sent {T : List ByteArray} {A B1 B2 : Lnk} {g : List ByteArray} {s : ByteArray} (h : R4 T A B1 g s false B2) : (A.hear 1 0 B2.r.acked ByteArray.empty).s.sent = A.s.sent := by
  obtain ⟨n1, _⟩ := h.no rfl
  exact (n1.ahear (f := ⟨1, 0, B2.r.acked, ByteArray.empty⟩) ⟨rfl, rfl, by simp, by simp⟩).2.1

/-- a round's end -/
theorem PE.next {T : List ByteArray} {i : Nat} {A0 A B B1 B2 : Lnk} {g0 g : List ByteArray} {s : ByteArray} {k : Nat} {fd : ByteArray} (h0 : PE T i A0 B g0) (hp : PO T A B g0) (hfull : A.s.sent = T.length ∨ 1 ≤ A.s.ds.length)
    (h3 : R3 T A B g0 k B1) (hk : 1 ≤ k) (h4 : R4 T A B1 g s false B2) :
    B2.frames = [⟨1, 0, B2.r.acked, ByteArray.empty⟩] ∧ PE T (i + 1) (A.hear 1 0 B2.r.acked ByteArray.empty) B2 g := by
  obtain ⟨n1, n2⟩ := h4.no rfl
  have he : B2.epoch = 1 := by rw [h4.ep]; exact (h3.one hk).1
  refine ⟨n1.bframes1 he, ?_⟩
  obtain ⟨a1, a2, a3⟩ := n1.ahear (f := ⟨1, 0, B2.r.acked, ByteArray.empty⟩) ⟨rfl, rfl, by simp, by simp⟩
  have hm := h3.mono
  have hb := hp.base
  have ha := h4.acked
  have hal := n1.alen
  refine ⟨a1, n2, ?_, ?_, h4.room⟩
  · have e2 : (A.hear 1 0 (B2.r.acked : Int) ByteArray.empty).s.sent = A.s.sent := a2
    rw [e2]
    exact a3 (by omega) rfl
  · have hp0 := h0.prog
    rcases hfull with e | e
    · by_cases hd : 1 ≤ A.s.ds.length
      · have := (h3.one hk).2 hd; omega
      · omega
    · have := (h3.one hk).2 e; omega
end Go.Proofs.Ytjloipjchcaloaa
