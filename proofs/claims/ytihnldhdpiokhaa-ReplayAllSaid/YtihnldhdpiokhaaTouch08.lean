/- The walk of replay.Touched. -/
import Derived.Test.YtihnldhdpiokhaaRead08
namespace Go.Proofs.Ytihnldhdpiokhaa
open Go.RowKit Go.Maps Go.Sort Go.Shelf
open Go.Maps (Keyed)
set_option linter.unusedVariables false

/-- which keys a row of updates touches -/
def touchP (l : List Upd) (x : ByteArray) : Prop := ∃ u ∈ l, mayU u = 0 ∧ u.key = x
theorem touchP_snoc (l : List Upd) (u : Upd) (x : ByteArray) : touchP (l ++ [u]) x ↔ touchP l x ∨ (mayU u = 0 ∧ u.key = x) := by
  unfold touchP
  constructor
  · rintro ⟨y, hy, h1, h2⟩
    rcases List.mem_append.1 hy with hy | hy
    · exact .inl ⟨y, hy, h1, h2⟩
    · rw [List.mem_singleton] at hy; subst hy; exact .inr ⟨h1, h2⟩
  · rintro (⟨y, hy, h1, h2⟩ | ⟨h1, h2⟩)
    · exact ⟨y, List.mem_append_left _ hy, h1, h2⟩
    · exact ⟨u, by simp, h1, h2⟩
theorem touch_exist (l : List Upd) : ∃ ts, KSet (touchP l) ts := by
  obtain ⟨ks, hk⟩ := kset_exists (touchP l) (l.map Upd.key)
  refine ⟨ks, hk.cong fun k => ⟨fun h => h.1, fun h => ⟨h, ?_⟩⟩⟩
  obtain ⟨u, hu, _, rfl⟩ := h
  exact List.mem_map.2 ⟨u, hu, rfl⟩
/-- Block b is a set of at most n keys: those of which P holds. -/
def SetAt (w : World) (b n : Nat) (P : ByteArray → Prop) : Prop := ∃ D : DataW Unit, w.ownsMap Try.prog 9 (plainElem Try.prog 4) b n D ∧ ∀ k : ByteArray, Maps.has D (.string k.data.toList) = true ↔ P k
section
variable {w w' : World} {b n : Nat} {P Q : ByteArray → Prop}
theorem SetAt.of_eq (h : SetAt w b n P) (e : w'.heap[b]? = w.heap[b]?) : SetAt w' b n P := by
  obtain ⟨D, ⟨es, clock, hb, rest⟩, hk⟩ := h
  exact ⟨D, ⟨es, clock, e.trans hb, rest⟩, hk⟩
theorem SetAt.lt (h : SetAt w b n P) : b < w.heap.size := by
  obtain ⟨D, h1, _⟩ := h
  exact h1.lt
theorem SetAt.mono (h : SetAt w b n P) {n' : Nat} (hn : n ≤ n') : SetAt w b n' P := by
  obtain ⟨D, h1, h2⟩ := h
  exact ⟨D, h1.mono hn, h2⟩
theorem SetAt.cong (h : SetAt w b n P) (e : ∀ k, P k ↔ Q k) : SetAt w b n Q := by
  obtain ⟨D, h1, h2⟩ := h
  exact ⟨D, h1, fun k => (h2 k).trans (e k)⟩
theorem SetAt.made (w : World) : SetAt (w.alloc (.map #[] 0)) w.heap.size 0 (fun _ => False) := ⟨.map [], World.ownsMap_made w _ _ _, fun k => by simp [Maps.has]⟩
theorem SetAt.put (h : SetAt w b n P) (hn : n < maxLen) (k : ByteArray) (hk : k.size ≤ maxLen) :
    ∃ w', (Instr.mapUpdate 62 (.map (some b)) (.string k) (.bool true)).run Try.prog w = .ok () w' ∧ SetAt w' b (n + 1) (fun x => P x ∨ k = x) ∧ w.grownBy w' (some b) := by
  obtain ⟨D, h1, h2⟩ := h
  obtain ⟨w', hrun, r1, r2⟩ := h1.update key9 Try.underlying62 hn (keyOf9 hk) (plainElem_bool Try.underlying4 true)
  refine ⟨w', hrun, ⟨_, r1, fun x => ?_⟩, r2⟩
  by_cases e : k = x
  · subst e
    simp [Maps.has_put_same h1.isMap (keyLit _)]
  · rw [Maps.has_put_other (strne (fun e' => e e'.symm)), h2 x]
    exact ⟨.inl, fun h => h.elim id fun e' => absurd e' e⟩
theorem set_perm {D : DataW Unit} {R : Value → Option (DataW Unit × List MemPlace)} (h1 : w.ownsMap Try.prog 9 R b n D) (h2 : ∀ k : ByteArray, Maps.has D (.string k.data.toList) = true ↔ P k) {ks : List ByteArray} (hk : KSet P ks) : (ks.map fun k => k.data.toList).Perm (strKeys D) := by
  obtain ⟨es, hD, hpw, _⟩ := h1.entries key9
  obtain ⟨es', hD', hko⟩ := h1.keysOf
  obtain rfl : es = es' := by rw [hD] at hD'; simpa using hD'
  subst hD
  refine perm_strKeys hpw (fun p hp => by obtain ⟨v, hv⟩ := hko p hp; obtain ⟨x, _, hx, _⟩ := Maps.keyOf_str Try.underlying9 hv; exact ⟨x, hx⟩) ?_ (fun x => ?_)
  · exact List.pairwise_map.2 (hk.nodup.imp fun {a b} hab e => hab (bytes_ext e))
  · have hx := h2 ⟨x.toArray⟩
    simp only at hx
    rw [hx, List.mem_map]
    constructor
    · rintro ⟨k, hk', rfl⟩
      exact (hk.mem k).1 hk'
    · intro hv
      exact ⟨⟨x.toArray⟩, (hk.mem _).2 hv, by simp⟩
/-- what is told while Touched runs: nothing that was there has changed, the set stands -/
def Tb (w0 : World) (b n : Nat) (P : ByteArray → Prop) (w : World) : Prop := w0.grownBy w none ∧ w0.heap.size ≤ b ∧ SetAt w b n P
variable {w0 : World}
theorem Tb.grown (h : Tb w0 b n P w) (hg : w.grownBy w' none) : Tb w0 b n P w' := ⟨grown_tr h.1 hg, h.2.1, h.2.2.of_eq (hg.block b h.2.2.lt (by simp))⟩
theorem Tb.put (h : Tb w0 b n P w) (hn : n ≤ 1000000) (k : ByteArray) (hk : k.size ≤ maxLen) :
    ∃ w', (Instr.mapUpdate 62 (.map (some b)) (.string k) (.bool true)).run Try.prog w = .ok () w' ∧ Tb w0 b (n + 1) (fun x => P x ∨ k = x) w' := by
  obtain ⟨h1, h2, h3⟩ := h
  obtain ⟨w', hrun, r1, r2⟩ := h3.put (by unfold maxLen; omega) k hk
  refine ⟨w', hrun, ⟨r2.os.trans h1.os, r2.tape.trans h1.tape, r2.output.trans h1.output, Nat.le_trans h1.size r2.size, fun i hi _ => ?_⟩, h2, r1⟩
  rw [r2.block i (Nat.lt_of_lt_of_le hi h1.size) (by simp; omega)]
  exact h1.block i hi (by simp)
end
end Go.Proofs.Ytihnldhdpiokhaa
