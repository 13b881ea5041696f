/- LinkPair, the plain law: what two ends do to one another. Plain lemmas, no program. -/
import Derived.Test.YtjloipjchcaloaaFrms
namespace Go.Proofs.Ytjloipjchcaloaa
open Go.RowKit
set_option linter.unusedVariables false

/-- A frame that is on its way there: data with its number, or none. -/
def ThereOk (T : List ByteArray) (sent : Nat) (f : Frm) : Prop := f.epoch = 1 ∧ f.ack = 0 ∧ (f.seq = 0 ∨ ∃ i : Nat, f.seq = (i : Int) + 1 ∧ i < sent ∧ T[i]? = some f.data)
/-- A frame that is on its way back: an acknowledgement alone. -/
def BackOk (acked : Nat) (f : Frm) : Prop := f.epoch = 1 ∧ f.seq = 0 ∧ 0 ≤ f.ack ∧ f.ack ≤ (acked : Int)

/-- How the two ends stand to one another and to the texts: A offers, B hears and pops. -/
structure PairOk (T : List ByteArray) (A B : Lnk) (got : List ByteArray) : Prop where
  ae : A.epoch = 1
  ar : A.r.acked = 0 ∧ A.r.q = []
  aok : A.s.Ok
  alast : A.s.last = 1125899906842624
  asent : A.s.sent ≤ T.length
  ads : A.s.ds = (T.take A.s.sent).drop (A.s.sent - A.s.ds.length)
  be : B.epoch = 0 ∨ B.epoch = 1
  bp : B.passive = true
  bs : B.s.sent = 0 ∧ B.s.ds = []
  bok : B.r.Ok
  bgot : got ++ B.r.q = T.take B.r.acked
  backed : B.r.acked ≤ A.s.sent
  b0 : B.epoch = 0 → B.r.acked = 0

theorem ThereOk.mono {T : List ByteArray} {m n : Nat} {f : Frm} (h : ThereOk T m f) (hmn : m ≤ n) : ThereOk T n f := by
  obtain ⟨h1, h2, h3⟩ := h
  refine ⟨h1, h2, ?_⟩
  rcases h3 with h3 | ⟨i, e, hi, ht⟩
  · exact .inl h3
  · exact .inr ⟨i, e, by omega, ht⟩
theorem BackOk.mono {m n : Nat} {f : Frm} (h : BackOk m f) (hmn : m ≤ n) : BackOk n f := by
  obtain ⟨h1, h2, h3, h4⟩ := h
  exact ⟨h1, h2, h3, by omega⟩

section
variable {T got : List ByteArray} {A B : Lnk}
theorem PairOk.new (T : List ByteArray) (x0 x1 : Int) : PairOk T (Lnk.new 1 x0 x1 false) (Lnk.new 0 x0 x1 true) [] where
  ae := by simp [Lnk.new, epochC, clampI]
  ar := ⟨rfl, rfl⟩
  aok := Snd.new_ok _ _
  alast := by simp [Lnk.new, Snd.new, clampI]
  asent := Nat.zero_le _
  ads := by simp [Lnk.new, Snd.new]
  be := .inl (by simp [Lnk.new, epochC, clampI])
  bp := rfl
  bs := ⟨rfl, rfl⟩
  bok := Rcv.new_ok _
  bgot := by simp [Lnk.new, Rcv.new]
  backed := Nat.zero_le _
  b0 := fun _ => rfl

theorem PairOk.alen (h : PairOk T A B got) : A.s.ds.length ≤ A.s.sent := h.aok.2.2.2.1
theorem PairOk.bpre (h : PairOk T A B got) : got.length + B.r.q.length = B.r.acked := by
  have := congrArg List.length h.bgot
  have h1 := h.backed
  have h2 := h.asent
  simp at this
  omega
theorem PairOk.gotT (h : PairOk T A B got) : got = T.take got.length := by
  have := h.bpre
  have e := congrArg (List.take got.length) h.bgot
  rw [List.take_append_of_le_length (Nat.le_refl _), List.take_length, List.take_take] at e
  rwa [Nat.min_eq_left (by omega)] at e
theorem PairOk.got_le (h : PairOk T A B got) : got.length ≤ T.length := by
  have := h.bpre; have := h.backed; have := h.asent; omega

/-- an offer that is taken -/
theorem PairOk.offer (h : PairOk T A B got) {d : ByteArray} (hd : T[A.s.sent]? = some d) (h0 : A.s.offE = 0) :
    PairOk T { A with s := A.s.off d } B got ∧ (A.s.off d).sent = A.s.sent + 1 := by
  have hlt : A.s.sent < T.length := (List.getElem?_eq_some_iff.1 hd).1
  have hal := h.alen
  have e : A.s.off d = { A.s with sent := A.s.sent + 1, ds := A.s.ds ++ [d] } := by
    unfold Snd.offE at h0
    unfold Snd.off
    split
    · rename_i c; rw [if_pos c] at h0; cases h0
    · rename_i c; rw [if_neg c] at h0
      split
      · rename_i c2; rw [if_pos c2] at h0; cases h0
      · rfl
  have hok := A.s.off_ok h.aok d
  rw [e] at hok ⊢
  refine ⟨⟨h.ae, h.ar, hok, h.alast, hlt, ?_, h.be, h.bp, h.bs, h.bok, h.bgot, by have := h.backed; show B.r.acked ≤ A.s.sent + 1; omega, h.b0⟩, rfl⟩
  show A.s.ds ++ [d] = (T.take (A.s.sent + 1)).drop (A.s.sent + 1 - (A.s.ds ++ [d]).length)
  have e1 : A.s.sent + 1 - (A.s.ds ++ [d]).length = A.s.sent - A.s.ds.length := by simp
  rw [e1, List.take_add_one, hd, Option.toList_some, List.drop_append_of_le_length (by simp; omega), ← h.ads]
/-- one that is refused changes nothing -/
theorem off_same {s : Snd} (d : ByteArray) (h0 : s.offE ≠ 0) : s.off d = s := by
  unfold Snd.offE at h0
  unfold Snd.off
  split
  · rfl
  · rename_i c; rw [if_neg c] at h0
    split
    · rfl
    · rename_i c2; rw [if_neg c2] at h0; exact absurd rfl h0
theorem PairOk.full (h : PairOk T A B got) (hT : T.length ≤ 1000) (h0 : A.s.offE ≠ 0) : 1 ≤ A.s.ds.length := by
  unfold Snd.offE at h0
  obtain ⟨o1, _⟩ := h.aok
  have := h.asent
  have := h.alast
  split at h0
  · omega
  · split at h0
    · omega
    · exact absurd rfl h0

/-- a text is popped -/
theorem PairOk.pop (h : PairOk T A B got) (hb : B.r.popB = true) : PairOk T A { B with r := B.r.pop } (got ++ [B.r.popV]) ∧ B.r.pop.q.length + 1 = B.r.q.length := by
  have hq : B.r.q ≠ [] := by
    intro e
    simp [Rcv.popB, e] at hb
  obtain ⟨x, q, hxq⟩ := List.exists_cons_of_ne_nil hq
  refine ⟨⟨h.ae, h.ar, h.aok, h.alast, h.asent, h.ads, h.be, h.bp, h.bs, B.r.pop_ok h.bok, ?_, h.backed, h.b0⟩, ?_⟩
  · have := h.bgot
    rw [hxq] at this
    simpa [Rcv.pop, Rcv.popV, hxq] using this
  · simp [Rcv.pop, hxq]
theorem PairOk.nopop (h : PairOk T A B got) (hb : B.r.popB = false) : B.r.q = [] ∧ B.r.pop = B.r := by
  have hq : B.r.q = [] := by simpa [Rcv.popB] using hb
  refine ⟨hq, ?_⟩
  cases hB : B.r with
  | mk rm ak q =>
    rw [hB] at hq
    simp only at hq
    subst hq
    rfl

/-- the frames that go there -/
theorem PairOk.aframes (h : PairOk T A B got) : ∀ f ∈ A.frames, ThereOk T A.s.sent f := by
  intro f hf
  unfold Lnk.frames at hf
  rw [if_neg (by rw [h.ae]; decide)] at hf
  have hal := h.alen
  split at hf
  · simp only [List.mem_singleton] at hf
    subst hf
    exact ⟨by simp [h.ae], by simp [h.ar.1], .inl rfl⟩
  · obtain ⟨k, hk⟩ := List.mem_iff_getElem?.1 hf
    have hkl : k < A.s.ds.length := by
      have := (List.getElem?_eq_some_iff.1 hk).1
      rwa [frs_length] at this
    rw [frs_get _ _ _ _ _ hkl] at hk
    injection hk with hk
    subst hk
    refine ⟨by simp [h.ae], by simp [h.ar.1], .inr ⟨A.s.sent - A.s.ds.length + k, by simp, by omega, ?_⟩⟩
    have e := congrArg (fun l => l[k]?) h.ads
    simp only [List.getElem?_drop] at e
    rw [List.getElem?_take_of_lt (by omega)] at e
    rw [← e]
    simp [hkl]
theorem PairOk.bframes (h : PairOk T A B got) : ∀ f ∈ B.frames, BackOk B.r.acked f := by
  intro f hf
  unfold Lnk.frames at hf
  split at hf
  · simp at hf
  · rename_i h0
    have he : B.epoch = 1 := by rcases h.be with e | e; exact absurd e h0; exact e
    rw [if_pos h.bs.2] at hf
    simp only [List.mem_singleton] at hf
    subst hf
    exact ⟨by simp [he], rfl, by simp, by simp⟩
theorem PairOk.bframes1 (h : PairOk T A B got) (he : B.epoch = 1) : B.frames = [⟨1, 0, B.r.acked, ByteArray.empty⟩] := by
  unfold Lnk.frames
  rw [if_neg (by rw [he]; decide), if_pos h.bs.2, he]
  rfl
theorem PairOk.aframes_ne (h : PairOk T A B got) : 1 ≤ A.frames.length := by
  unfold Lnk.frames
  rw [if_neg (by rw [h.ae]; decide)]
  split
  · simp
  · rename_i c
    rw [frs_length]
    exact List.length_pos_iff.2 c

theorem snd_ack_none {s : Snd} (h : s.ds = []) (n : Int) : s.ack n = s := by
  obtain ⟨a, b, c, d⟩ := s
  simp only at h
  subst h
  simp [Snd.ack]

/-- what the receiver makes of a frame -/
theorem PairOk.took (h : PairOk T A B got) {f : Frm} (hf : ThereOk T A.s.sent f) (r : Rcv) (hr : r.Ok) (hg : got ++ r.q = T.take r.acked) (ha : r.acked ≤ A.s.sent) :
    let r' := if f.seq = 0 then r else r.hear f.seq f.data
    r'.Ok ∧ got ++ r'.q = T.take r'.acked ∧ r'.acked ≤ A.s.sent ∧ r.acked ≤ r'.acked := by
  intro r'
  rcases hf.2.2 with h0 | ⟨i, e, hi, ht⟩
  · have : r' = r := if_pos h0
    rw [this]
    exact ⟨hr, hg, ha, Nat.le_refl _⟩
  · have hne : f.seq ≠ 0 := by omega
    have : r' = r.hear f.seq f.data := if_neg hne
    rw [this]
    have hok := r.hear_ok hr f.seq f.data
    refine ⟨hok, ?_⟩
    unfold Rcv.hear
    split
    · rename_i hc
      simp only [Rcv.takes, decide_eq_true_eq] at hc
      have hia : i = r.acked := by omega
      subst hia
      refine ⟨?_, by show r.acked + 1 ≤ _; omega, by show r.acked ≤ r.acked + 1; omega⟩
      show got ++ (r.q ++ [f.data]) = T.take (r.acked + 1)
      rw [← List.append_assoc, hg, List.take_add_one, ht]
      rfl
    · exact ⟨hg, ha, Nat.le_refl _⟩

/-- B hears a frame that came -/
theorem PairOk.bhear (h : PairOk T A B got) {f : Frm} (hf : ThereOk T A.s.sent f) (x1 : Int) (hroom : B.r.room = (Rcv.new B.room).room) :
    PairOk T A (B.hear f.epoch f.seq f.ack f.data) got ∧ (B.hear f.epoch f.seq f.ack f.data).epoch = 1 ∧ B.r.acked ≤ (B.hear f.epoch f.seq f.ack f.data).r.acked ∧
      (B.hear f.epoch f.seq f.ack f.data).room = B.room ∧ (B.hear f.epoch f.seq f.ack f.data).r.room = B.r.room ∧
      (B.r.q = [] → f.seq = (B.r.acked : Int) + 1 → B.r.acked + 1 ≤ (B.hear f.epoch f.seq f.ack f.data).r.acked) := by
  obtain ⟨f1, f2, f3⟩ := hf
  have hb := h.bpre
  rcases h.be with he | he
  · -- the passive end begins anew
    have e1 : B.hear f.epoch f.seq f.ack f.data = (Lnk.new 1 B.window B.room true).heard f.epoch f.seq f.ack f.data := by
      unfold Lnk.hear
      rw [if_neg (by rw [f1, he]; simp), if_pos (by rw [f1, he]; simp), if_pos h.bp, h.bp, f1]
    have hak : B.r.acked = 0 := h.b0 he
    have hgn : got = [] := List.eq_nil_of_length_eq_zero (by omega)
    have hn := h.took ⟨f1, f2, f3⟩ (Rcv.new B.room) (Rcv.new_ok _) (by rw [hgn]; rfl) (Nat.zero_le _)
    obtain ⟨n1, n2, n3, n4⟩ := hn
    rw [e1]
    refine ⟨⟨h.ae, h.ar, h.aok, h.alast, h.asent, h.ads, .inr ?_, rfl, ?_, n1, n2, n3, ?_⟩, ?_, ?_, rfl, ?_, ?_⟩
    · simp [Lnk.heard, Lnk.new, epochC, clampI]
    · have e : (Lnk.new 1 B.window B.room true).s.ds = [] := rfl
      simp only [Lnk.heard, snd_ack_none e]
      exact ⟨rfl, rfl⟩
    · intro e; simp [Lnk.heard, Lnk.new, epochC, clampI] at e
    · simp [Lnk.heard, Lnk.new, epochC, clampI]
    · rw [hak]; exact Nat.zero_le _
    · rw [hroom]
      show (if f.seq = 0 then Rcv.new B.room else (Rcv.new B.room).hear f.seq f.data).room = _
      split
      · rfl
      · unfold Rcv.hear; split <;> rfl
    · intro hq hs
      rw [hak] at hs ⊢
      show 0 + 1 ≤ (if f.seq = 0 then Rcv.new B.room else (Rcv.new B.room).hear f.seq f.data).acked
      rw [if_neg (by omega)]
      unfold Rcv.hear
      rw [if_pos]
      · show 0 + 1 ≤ 0 + 1; omega
      · obtain ⟨r1, _⟩ := Rcv.new_ok B.room
        simp only [Rcv.takes, decide_eq_true_eq]
        refine ⟨?_, by rw [hs]; rfl⟩
        show 0 ≠ (Rcv.new B.room).room
        omega
  · have e1 : B.hear f.epoch f.seq f.ack f.data = B.heard f.epoch f.seq f.ack f.data := by
      unfold Lnk.hear
      rw [if_neg (by rw [f1, he]; simp), if_neg (by rw [f1, he]; simp)]
    obtain ⟨n1, n2, n3, n4⟩ := h.took ⟨f1, f2, f3⟩ B.r h.bok h.bgot h.backed
    rw [e1]
    refine ⟨⟨h.ae, h.ar, h.aok, h.alast, h.asent, h.ads, .inr he, h.bp, ?_, n1, n2, n3, ?_⟩, he, n4, rfl, ?_, ?_⟩
    · simp only [Lnk.heard, snd_ack_none h.bs.2]
      exact h.bs
    · intro e; simp [Lnk.heard, he] at e
    · show (if f.seq = 0 then B.r else B.r.hear f.seq f.data).room = _
      split
      · rfl
      · unfold Rcv.hear; split <;> rfl
    · intro hq hs
      show B.r.acked + 1 ≤ (if f.seq = 0 then B.r else B.r.hear f.seq f.data).acked
      rw [if_neg (by omega)]
      unfold Rcv.hear
      rw [if_pos]
      · exact Nat.le_refl _
      · obtain ⟨r1, _⟩ := h.bok
        simp only [Rcv.takes, decide_eq_true_eq]
        refine ⟨?_, hs⟩
        rw [hq]
        show 0 ≠ B.r.room
        omega

/-- A hears an acknowledgement -/
theorem PairOk.ahear (h : PairOk T A B got) {f : Frm} (hf : BackOk B.r.acked f) :
    PairOk T (A.hear f.epoch f.seq f.ack f.data) B got ∧ (A.hear f.epoch f.seq f.ack f.data).s.sent = A.s.sent ∧
      (A.s.sent - A.s.ds.length ≤ B.r.acked → f.ack = (B.r.acked : Int) → A.s.sent - (A.hear f.epoch f.seq f.ack f.data).s.ds.length = B.r.acked) := by
  obtain ⟨f1, f2, f3, f4⟩ := hf
  have hal := h.alen
  have hba := h.backed
  have e1 : A.hear f.epoch f.seq f.ack f.data = { A with s := A.s.ack f.ack } := by
    unfold Lnk.hear
    rw [if_neg (by rw [f1, h.ae]; simp), if_neg (by rw [f1, h.ae]; simp)]
    unfold Lnk.heard
    rw [if_pos f2]
  have hgl := A.s.gone_le h.aok f.ack
  rw [e1]
  refine ⟨⟨h.ae, h.ar, A.s.ack_ok h.aok _, h.alast, h.asent, ?_, h.be, h.bp, h.bs, h.bok, h.bgot, h.backed, h.b0⟩, rfl, ?_⟩
  · show A.s.ds.drop (A.s.gone f.ack) = (T.take A.s.sent).drop (A.s.sent - (A.s.ds.drop (A.s.gone f.ack)).length)
    rw [List.length_drop, show A.s.sent - (A.s.ds.length - A.s.gone f.ack) = (A.s.sent - A.s.ds.length) + A.s.gone f.ack by omega]
    rw [← List.drop_drop, ← h.ads]
  · intro hle hfa
    show A.s.sent - (A.s.ds.drop (A.s.gone f.ack)).length = B.r.acked
    rw [List.length_drop]
    unfold Snd.gone at hgl ⊢
    rw [if_neg (by omega)] at hgl ⊢
    omega
end
end Go.Proofs.Ytjloipjchcaloaa
