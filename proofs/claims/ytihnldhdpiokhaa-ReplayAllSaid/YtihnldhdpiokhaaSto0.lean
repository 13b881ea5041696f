/- The store's map as values by keys: what is looked up, stored and deleted; the store as an object. Plain lemmas. -/
import Derived.Test.YtihnldhdpiokhaaVal0
import Derived.Test.YtihnldhdpiokhaaGrp0
import Derived.Test.YtihnldhdpiokhaaProg
import Derived.Maps.Own
import Derived.Maps.OwnOps
import Derived.Maps.OwnSet
import Derived.Maps.Views
import Derived.Sort.KeysCollected
namespace Go.Proofs.Ytihnldhdpiokhaa
open Go.RowKit
open Go.Maps (Keyed)
set_option linter.unusedVariables false

@[reducible] def vval (v : Val) : Value := .agg #[.int .i64 v.kind, .int .i64 v.n, .string v.s]
def dval (v : Val) : DataW Unit := .agg [.lit (.int .i64 v.kind), .lit (.int .i64 v.n), .lit (.string v.s.data.toList)]
theorem dval_inj {a b : Val} (h : dval a = dval b) : a = b := by
  obtain ⟨a1, a2, a3⟩ := a
  obtain ⟨b1, b2, b3⟩ := b
  simp only [dval, DataW.agg.injEq, List.cons.injEq, DataW.lit.injEq, Lit.int.injEq, Lit.string.injEq, true_and, and_true] at h
  obtain ⟨h1, h2, h3⟩ := h
  rw [h1, h2, bytes_ext h3]
/-- how a value reads -/
def RV (x : Value) : Option (DataW Unit × List MemPlace) :=
  match x with
  | .agg cs => match cs.toList with
    | [.int .i64 a, .int .i64 b, .string s] => some (dval ⟨a, b, s⟩, [])
    | _ => none
  | _ => none
theorem RV_val (v : Val) : RV (vval v) = some (dval v, []) := rfl
theorem RV_inv {x : Value} {v : Val} {ps : List MemPlace} (h : RV x = some (dval v, ps)) : x = vval v := by
  unfold RV at h
  split at h
  · rename_i cs
    split at h
    · rename_i a b s hcs
      simp only [Option.some.injEq, Prod.mk.injEq] at h
      have e := dval_inj h.1
      subst e
      have : cs = #[.int .i64 a, .int .i64 b, .string s] := Array.ext' hcs
      rw [this]
    · cases h
  · cases h
theorem key9 : Keyed Try.prog 9 := Maps.string_keyed Try.underlying9
theorem keyOf9 {k : ByteArray} (h : k.size ≤ maxLen) : keyOf Try.prog 9 (.string k) = some (.string k.data.toList) := Go.WideMaps.keyOf_string_mk Try.underlying9 h
theorem zero29 (w : World) : (zeroValue 29).run Try.prog w = .ok (vval zeroV) w := by kernel_rfl
theorem keyLit (l : List UInt8) : WideAt.IsKeyLit (.string l) := trivial

/-- A datum says what each key's value is. -/
def Says (D : DataW Unit) (m : Vals) : Prop := ∀ k : ByteArray, D.atKey (.string k.data.toList) (dval zeroV) = dval (m k) ∧ (Maps.has D (.string k.data.toList) = true ↔ (m k).kind ≠ 0)
/-- Block b is a map of at most n entries that says m. -/
def MapAt (w : World) (b n : Nat) (m : Vals) : Prop := ∃ D : DataW Unit, w.ownsMap Try.prog 9 RV b n D ∧ Says D m
theorem strne {k x : ByteArray} (h : x ≠ k) : (Lit.string x.data.toList) ≠ .string k.data.toList := fun e => h (bytes_ext (by injection e))

section
variable {w w' : World} {b n : Nat} {m : Vals}
theorem MapAt.of_eq (h : MapAt w b n m) (e : w'.heap[b]? = w.heap[b]?) : MapAt w' b n m := by
  obtain ⟨D, ⟨es, clock, hb, rest⟩, hk⟩ := h
  exact ⟨D, ⟨es, clock, e.trans hb, rest⟩, hk⟩
theorem MapAt.lt (h : MapAt w b n m) : b < w.heap.size := by
  obtain ⟨D, h1, _⟩ := h
  exact h1.lt
theorem MapAt.mono (h : MapAt w b n m) {n' : Nat} (hn : n ≤ n') : MapAt w b n' m := by
  obtain ⟨D, h1, h2⟩ := h
  exact ⟨D, h1.mono hn, h2⟩
theorem MapAt.made (w : World) : MapAt (w.alloc (.map #[] 0)) w.heap.size 0 noVals :=
  ⟨.map [], World.ownsMap_made w _ _ _, fun k => ⟨rfl, by simp [Maps.has, noVals, zeroV]⟩⟩
theorem MapAt.look (h : MapAt w b n m) (k : ByteArray) (hk : k.size ≤ maxLen) : (Instr.lookup 68 (.map (some b)) (.string k) false).run Try.prog w = .ok (vval (m k)) w := by
  obtain ⟨D, h1, h2⟩ := h
  obtain ⟨v, ps, hrun, hv⟩ := h1.lookup key9 Try.underlying68 (zero29 w) (RV_val zeroV) (keyOf9 hk)
  rw [(h2 k).1] at hv
  rw [RV_inv hv] at hrun
  exact hrun
theorem MapAt.put (h : MapAt w b n m) (hn : n < maxLen) (k : ByteArray) (hk : k.size ≤ maxLen) (v : Val) (hv : v.kind ≠ 0) :
    ∃ w', (Instr.mapUpdate 68 (.map (some b)) (.string k) (vval v)).run Try.prog w = .ok () w' ∧ MapAt w' b (n + 1) (fun x => if k = x then v else m x) ∧ w.grownBy w' (some b) := by
  obtain ⟨D, h1, h2⟩ := h
  obtain ⟨w', hrun, r1, r2⟩ := h1.update key9 Try.underlying68 hn (keyOf9 hk) (RV_val v)
  refine ⟨w', hrun, ⟨_, r1, fun x => ?_⟩, r2⟩
  by_cases e : k = x
  · subst e
    simp only [if_true]
    exact ⟨Maps.atKey_put_same h1.isMap (keyLit _) _ _, by simp [Maps.has_put_same h1.isMap (keyLit _), hv]⟩
  · simp only [if_neg e]
    rw [Maps.atKey_put_other (strne (fun e' => e e'.symm)), Maps.has_put_other (strne (fun e' => e e'.symm))]
    exact h2 x
theorem MapAt.del (h : MapAt w b n m) (k : ByteArray) (hk : k.size ≤ maxLen) (ty : TypeId) :
    ∃ w', (Builtin.delete_ #[68, 9] ty #[.map (some b), .string k]).run Try.prog w = .ok (.tuple #[]) w' ∧ MapAt w' b n (fun x => if k = x then zeroV else m x) ∧ w.grownBy w' (some b) := by
  obtain ⟨D, h1, h2⟩ := h
  obtain ⟨w', hrun, r1, r2⟩ := h1.drop key9 Try.underlying68 (keyOf9 hk) ty
  refine ⟨w', hrun, ⟨_, r1, fun x => ?_⟩, r2.grown⟩
  by_cases e : k = x
  · subst e
    simp only [if_true]
    exact ⟨Maps.atKey_del_same _, by simp [Maps.has_del_same, zeroV]⟩
  · simp only [if_neg e]
    rw [Maps.atKey_del_other (strne (fun e' => e e'.symm)), Maps.has_del_other (strne (fun e' => e e'.symm))]
    exact h2 x
theorem says_perm {D : DataW Unit} (h1 : w.ownsMap Try.prog 9 RV b n D) (h2 : Says D m) {ks : List ByteArray} (hk : KeysOf m ks) : (ks.map fun k => k.data.toList).Perm (strKeys D) := by
  obtain ⟨es, hD, hpw, _⟩ := h1.entries key9
  obtain ⟨es', hD', hko⟩ := h1.keysOf
  obtain rfl : es = es' := by rw [hD] at hD'; simpa using hD'
  subst hD
  refine perm_strKeys hpw (fun p hp => by obtain ⟨v, hv⟩ := hko p hp; obtain ⟨x, _, hx, _⟩ := Maps.keyOf_str Try.underlying9 hv; exact ⟨x, hx⟩) ?_ (fun x => ?_)
  · exact List.pairwise_map.2 (hk.nodup.imp fun {a b} hab e => hab (bytes_ext e))
  · have hx := (h2 ⟨x.toArray⟩).2
    simp only at hx
    rw [hx, List.mem_map]
    constructor
    · rintro ⟨k, hk', rfl⟩
      exact (hk.mem k).1 hk'
    · intro hv
      exact ⟨⟨x.toArray⟩, (hk.mem _).2 hv, by simp⟩
theorem MapAt.len (h : MapAt w b n m) {ks : List ByteArray} (hk : KeysOf m ks) (ty : TypeId) : (Builtin.len_ #[68] ty #[.map (some b)]).run Try.prog w = .ok (.int .i64 (ks.length : Nat)) w := by
  obtain ⟨D, h1, h2⟩ := h
  have hp := says_perm h1 h2 hk
  have hl := hp.length_eq
  obtain ⟨es, hD⟩ := h1.isMap
  have : Maps.size D = ks.length := by
    rw [List.length_map] at hl
    rw [hl, hD]
    simp [Maps.size, strKeys]
  rw [← this]
  exact h1.len Try.underlying68 ty
theorem MapAt.count (h : MapAt w b n m) {ks : List ByteArray} (hk : KeysOf m ks) : ks.length ≤ n := by
  obtain ⟨D, h1, h2⟩ := h
  have hl := (says_perm h1 h2 hk).length_eq
  obtain ⟨es, hD⟩ := h1.isMap
  have : Maps.size D = ks.length := by
    rw [List.length_map] at hl
    rw [hl, hD]
    simp [Maps.size, strKeys]
  rw [← this]
  exact h1.size_le
end

/-! ### the store -/
/-- The store at block g: group l owns its block and its map's; the map says m, in at most n entries. -/
def StAt (w : World) (own : Nat → Nat) (l g : Nat) (m : Vals) (n : Nat) : Prop :=
  own g = 10 * l ∧ ∃ b, own b = 10 * l + 1 ∧ Blk w g 70 #[.map (some b)] ∧ MapAt w b n m ∧ AllOk m
section
variable {w w' : World} {own own' : Nat → Nat} {l g n : Nat} {m : Vals}
theorem StAt.keep (h : StAt w own l g m n) (hk : ∀ k, k < w.heap.size → own k / 10 = l → w'.heap[k]? = w.heap[k]? ∧ own' k = own k) : StAt w' own' l g m n := by
  obtain ⟨h1, b, h2, h3, h4, h5⟩ := h
  have k1 := hk g h3.lt (by omega)
  have k2 := hk b h4.lt (by omega)
  exact ⟨by rw [k1.2]; exact h1, b, by rw [k2.2]; exact h2, h3.of_eq k1.1, h4.of_eq k2.1, h5⟩
theorem StAt.other {j : Nat} (h : StAt w own l g m n) (s : StepG j w own w' own') (hj : l ≠ j) : StAt w' own' l g m n :=
  h.keep fun k hk ho => ⟨s.heap k hk (by omega), s.own k hk⟩
theorem StAt.grown (h : StAt w own l g m n) (hg : w.grownBy w' none) (j : Nat) : StAt w' (give own w.heap.size j) l g m n :=
  h.keep fun k hk ho => ⟨hg.block k hk (by simp), give_old hk⟩
theorem StAt.alloc (h : StAt w own l g m n) (o : Obj) : StAt (w.alloc o) own l g m n := h.keep fun k hk ho => ⟨Below.heap_alloc _ _ _ hk, rfl⟩
theorem StAt.drewN (h : StAt w own l g m n) (k : Nat) : StAt (w.drewN k) own l g m n := h
theorem StAt.mono (h : StAt w own l g m n) {n' : Nat} (hn : n ≤ n') : StAt w own l g m n' := by
  obtain ⟨h1, b, h2, h3, h4, h5⟩ := h
  exact ⟨h1, b, h2, h3, h4.mono hn, h5⟩
theorem StAt.ok (h : StAt w own l g m n) : AllOk m := by
  obtain ⟨h1, b, h2, h3, h4, h5⟩ := h
  exact h5
theorem StAt.lt (h : StAt w own l g m n) : g < w.heap.size := by
  obtain ⟨h1, b, h2, h3, h4, h5⟩ := h
  exact h3.lt
end
/-- a place for one more key -/
theorem place_for (c : ByteArray) : ∀ ks : List ByteArray, ks.Pairwise ltB → ∃ at_, at_ ≤ ks.length ∧ (∀ (j : Nat) (x : ByteArray), ks[j]? = some x → j < at_ → ltB x c) ∧ (∀ x, ks[at_]? = some x → ¬ ltB x c)
  | [], _ => ⟨0, Nat.le_refl _, fun j x h => by simp at h, fun x h => by simp at h⟩
  | k :: ks, hp => by
    by_cases h : ltB k c
    · obtain ⟨a, h1, h2, h3⟩ := place_for c ks (List.pairwise_cons.1 hp).2
      refine ⟨a + 1, by simp; omega, fun j x hj hlt => ?_, fun x hx => h3 x (by simpa using hx)⟩
      cases j with
      | zero => simp at hj; rw [← hj]; exact h
      | succ j => exact h2 j x (by simpa using hj) (by omega)
    · exact ⟨0, by simp, fun j x _ hlt => by omega, fun x hx => by simp at hx; rw [← hx]; exact h⟩
theorem kset_exists (P : ByteArray → Prop) : ∀ cand : List ByteArray, ∃ ks, KSet (fun k => P k ∧ k ∈ cand) ks
  | [] => ⟨[], List.Pairwise.nil, fun k => by simp⟩
  | c :: cand => by
    obtain ⟨ks, hk⟩ := kset_exists P cand
    by_cases h : P c ∧ c ∉ cand
    · obtain ⟨a, h1, h2, h3⟩ := place_for c ks hk.sorted
      refine ⟨_, (hk.insert c a h1 h2 (fun x hx => ?_)).cong fun k => ?_⟩
      · rcases ltB_tri c x with h' | h' | h'
        · exact h'
        · subst h'
          exact absurd ((hk.mem c).1 (List.mem_of_getElem? hx)).2 h.2
        · exact absurd h' (h3 x hx)
      · constructor
        · rintro (h' | rfl)
          · exact ⟨h'.1, List.mem_cons_of_mem _ h'.2⟩
          · exact ⟨h.1, List.mem_cons_self ..⟩
        · rintro ⟨h1, h2⟩
          rcases List.mem_cons.1 h2 with rfl | h2
          · exact .inr rfl
          · exact .inl ⟨h1, h2⟩
    · refine ⟨ks, hk.cong fun k => ⟨fun h' => ⟨h'.1, List.mem_cons_of_mem _ h'.2⟩, fun h' => ⟨h'.1, ?_⟩⟩⟩
      rcases List.mem_cons.1 h'.2 with rfl | h2
      · by_cases hc : k ∈ cand
        · exact hc
        · exact absurd ⟨h'.1, hc⟩ h
      · exact h2
theorem keys_exist (l : List Upd) : ∃ ks, KeysOf (stOf l) ks := by
  obtain ⟨ks, hk⟩ := kset_exists (hasV (stOf l)) (l.map Upd.key)
  refine ⟨ks, hk.cong fun k => ⟨fun h => h.1, fun h => ⟨h, ?_⟩⟩⟩
  by_cases hm : k ∈ l.map Upd.key
  · exact hm
  · exact absurd (by rw [stOf_none (fun u hu e => hm (List.mem_map.2 ⟨u, hu, e⟩))]; rfl) h
end Go.Proofs.Ytihnldhdpiokhaa
