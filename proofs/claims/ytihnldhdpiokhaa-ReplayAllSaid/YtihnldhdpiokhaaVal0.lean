/- Values, updates, and what a row of updates makes of a store: plain definitions and plain laws, no program in sight. -/
import Derived.WalkKit
namespace Go.Proofs.Ytihnldhdpiokhaa
open Go.RowKit
set_option linter.unusedVariables false

structure Val where
  kind : Int
  n : Int
  s : ByteArray
structure Upd where
  key : ByteArray
  kind : Int
  n : Int
  s : ByteArray
@[reducible] def noS : ByteArray := { data := #[] }
def zeroV : Val := ⟨0, 0, noS⟩

/-- May: the error's number, 0 for none. -/
def mayU (u : Upd) : Int :=
  if u.key.size = 0 ∨ 16 < u.key.size then 1
  else if u.kind < 1 ∨ 5 < u.kind then 5
  else if (u.kind ≠ 1 ∧ u.kind ≠ 3) ∧ u.n ≠ 0 ∨ (u.kind ≠ 2 ∧ u.kind ≠ 4) ∧ u.s.size ≠ 0 then 13
  else if u.n < -2305843009213693952 ∨ 2305843009213693951 < u.n ∨ 32 < u.s.size then 1
  else 0
/-- Apply, of an update that may be, on a value that a store may have. -/
def applyV (v : Val) (u : Upd) : Val :=
  if u.kind = 1 then ⟨1, u.n, noS⟩
  else if u.kind = 2 then ⟨2, 0, u.s⟩
  else if u.kind = 3 then (if v.kind = 2 then v else ⟨1, wrap64 (v.n + u.n), noS⟩)
  else if u.kind = 4 then (if v.kind = 0 then ⟨2, 0, u.s⟩ else if v.kind = 2 ∧ v.s.size + u.s.size ≤ 1024 then ⟨2, 0, v.s ++ u.s⟩ else v)
  else zeroV
/-- What a store's values are. -/
def ValOk (v : Val) : Prop := (v.kind = 0 ∧ v.n = 0 ∧ v.s = noS) ∨ (v.kind = 1 ∧ v.s = noS ∧ -9223372036854775808 ≤ v.n ∧ v.n ≤ 9223372036854775807) ∨ (v.kind = 2 ∧ v.n = 0 ∧ v.s.size ≤ 1024)
theorem ValOk.zero : ValOk zeroV := .inl ⟨rfl, rfl, rfl⟩
/-- What is told by May = 0. -/
theorem may_ok {u : Upd} (h : mayU u = 0) : 1 ≤ u.key.size ∧ u.key.size ≤ 16 ∧ -2305843009213693952 ≤ u.n ∧ u.n ≤ 2305843009213693951 ∧ u.s.size ≤ 32 ∧
    ((u.kind = 1 ∧ u.s.size = 0) ∨ (u.kind = 2 ∧ u.n = 0) ∨ (u.kind = 3 ∧ u.s.size = 0) ∨ (u.kind = 4 ∧ u.n = 0) ∨ (u.kind = 5 ∧ u.n = 0 ∧ u.s.size = 0)) := by
  unfold mayU at h
  split at h
  · omega
  · split at h
    · omega
    · split at h
      · omega
      · split at h
        · omega
        · omega
theorem wrap_range (x : Int) : -9223372036854775808 ≤ wrap64 x ∧ wrap64 x ≤ 9223372036854775807 := by
  unfold wrap64
  omega
theorem applyV_ok {v : Val} {u : Upd} (hv : ValOk v) (h : mayU u = 0) : ValOk (applyV v u) ∧ ((applyV v u).kind = 0 ↔ u.kind = 5) := by
  obtain ⟨h1, h2, h3, h4, h5, h6⟩ := may_ok h
  have hw := wrap_range (v.n + u.n)
  unfold applyV
  rcases h6 with h6 | h6 | h6 | h6 | h6
  · simp [h6.1, ValOk]; omega
  · simp [h6.1, ValOk]; omega
  · rcases hv with hv | hv | hv
    · simp [h6.1, hv.1, ValOk]; simpa using hw
    · simp [h6.1, hv.1, ValOk]; exact hw
    · simp [h6.1, hv.1, hv.2.1, hv.2.2, ValOk]
  · rcases hv with hv | hv | hv
    · simp [h6.1, hv.1, ValOk]; omega
    · simp [h6.1, hv.1, hv.2.1, hv.2.2, ValOk]
    · simp only [h6.1, hv.1]
      by_cases hc : v.s.size + u.s.size ≤ 1024
      · simp [hc, ValOk, ByteArray.size_append]
      · simp [hc, hv.1, hv.2.1, hv.2.2, ValOk]
  · simp [h6.1, zeroV, ValOk]

/-! ### rows of updates -/
abbrev Vals := ByteArray → Val
def noVals : Vals := fun _ => zeroV
def doM (m : Vals) (u : Upd) : Vals := fun k => if u.key = k ∧ mayU u = 0 then applyV (m k) u else m k
def stOf (l : List Upd) : Vals := l.foldl doM noVals
def stFrom (m : Vals) (l : List Upd) : Vals := l.foldl doM m
theorem stOf_from (l : List Upd) : stOf l = stFrom noVals l := rfl
theorem stFrom_append (m : Vals) (a b : List Upd) : stFrom m (a ++ b) = stFrom (stFrom m a) b := List.foldl_append
theorem stOf_append (a b : List Upd) : stOf (a ++ b) = stFrom (stOf a) b := List.foldl_append
theorem stFrom_snoc (m : Vals) (l : List Upd) (u : Upd) : stFrom m (l ++ [u]) = doM (stFrom m l) u := by simp [stFrom]
theorem stOf_snoc (l : List Upd) (u : Upd) : stOf (l ++ [u]) = doM (stOf l) u := by simp [stOf]
theorem stOf_take (l : List Upd) (k : Nat) (u : Upd) (h : l[k]? = some u) : stOf (l.take (k + 1)) = doM (stOf (l.take k)) u := by
  rw [List.take_add_one, h, Option.toList_some, stOf_snoc]
theorem stFrom_take (m : Vals) (l : List Upd) (k : Nat) (u : Upd) (h : l[k]? = some u) : stFrom m (l.take (k + 1)) = doM (stFrom m (l.take k)) u := by
  rw [List.take_add_one, h, Option.toList_some, stFrom_snoc]
def AllOk (m : Vals) : Prop := ∀ k, ValOk (m k)
theorem AllOk.none : AllOk noVals := fun _ => ValOk.zero
theorem AllOk.step {m : Vals} (h : AllOk m) (u : Upd) : AllOk (doM m u) := fun k => by
  unfold doM
  split
  · exact (applyV_ok (h k) (by rename_i hh; exact hh.2)).1
  · exact h k
theorem AllOk.from_ {m : Vals} (h : AllOk m) : ∀ l, AllOk (stFrom m l)
  | [] => h
  | u :: l => AllOk.from_ (h.step u) l
theorem AllOk.of (l : List Upd) : AllOk (stOf l) := AllOk.none.from_ l
/-- one key's value: the fold over that key's updates alone -/
theorem stFrom_key (k : ByteArray) : ∀ (l : List Upd) (m : Vals), stFrom m l k = stFrom m (l.filter fun u => decide (u.key = k)) k
  | [], m => rfl
  | u :: l, m => by
    have ih := stFrom_key k l
    by_cases h : u.key = k
    · simp only [List.filter_cons, h, decide_true, if_true]
      exact ih _
    · simp only [List.filter_cons, h, decide_false, Bool.false_eq_true, if_false]
      show stFrom (doM m u) l k = _
      rw [ih (doM m u), ih' k l m u h]
where
  ih' (k : ByteArray) : ∀ (l : List Upd) (m : Vals) (u : Upd), ¬ u.key = k → stFrom (doM m u) (l.filter fun u => decide (u.key = k)) k = stFrom m (l.filter fun u => decide (u.key = k)) k := by
    have key : ∀ (l : List Upd) (m m' : Vals), m k = m' k → stFrom m l k = stFrom m' l k := by
      intro l
      induction l with
      | nil => intro m m' h; exact h
      | cons x l ih =>
        intro m m' h
        refine ih _ _ ?_
        unfold doM
        rw [h]
    intro l m u hu
    refine key _ _ _ ?_
    unfold doM
    rw [if_neg (fun h => hu h.1)]
theorem stFrom_cong (k : ByteArray) : ∀ (l : List Upd) (m m' : Vals), m k = m' k → stFrom m l k = stFrom m' l k
  | [], _, _, h => h
  | x :: l, m, m', h => stFrom_cong k l _ _ (by unfold doM; rw [h])
theorem stOf_cong {k : ByteArray} {a b : List Upd} (h : (a.filter fun u => decide (u.key = k)) = b.filter fun u => decide (u.key = k)) : stOf a k = stOf b k := by
  rw [stOf_from, stOf_from, stFrom_key k a, stFrom_key k b, h]
/-- a key that no update bears has no value -/
theorem stOf_none {k : ByteArray} {l : List Upd} (h : ∀ u ∈ l, u.key ≠ k) : stOf l k = zeroV := by
  rw [stOf_from, stFrom_key, List.filter_eq_nil_iff.2 (fun u hu => by simpa using h u hu)]
  rfl

/-! ### keys, rising -/
def ltB (a b : ByteArray) : Prop := a.data.toList < b.data.toList
theorem ltB_irrefl (a : ByteArray) : ¬ ltB a a := List.lt_irrefl _
theorem ltB_trans {a b c : ByteArray} (h : ltB a b) (k : ltB b c) : ltB a c := List.lt_trans h k
theorem bytes_ext {a b : ByteArray} (h : a.data.toList = b.data.toList) : a = b := by
  cases a; cases b
  simp only [ByteArray.mk.injEq]
  exact Array.ext' h
theorem ltB_tri (a b : ByteArray) : ltB a b ∨ a = b ∨ ltB b a := by
  rcases List.le_total a.data.toList b.data.toList with h | h
  · rcases Decidable.em (a.data.toList = b.data.toList) with e | e
    · exact .inr (.inl (bytes_ext e))
    · exact .inl (Std.lt_of_le_of_ne h e)
  · rcases Decidable.em (b.data.toList = a.data.toList) with e | e
    · exact .inr (.inl (bytes_ext e.symm))
    · exact .inr (.inr (Std.lt_of_le_of_ne h e))
/-- ks: those of which P holds, rising, each once -/
structure KSet (P : ByteArray → Prop) (ks : List ByteArray) : Prop where
  sorted : ks.Pairwise ltB
  mem : ∀ k, k ∈ ks ↔ P k
theorem KSet.nodup {P : ByteArray → Prop} {ks : List ByteArray} (h : KSet P ks) : ks.Nodup :=
  h.sorted.imp (fun {a b} hab e => by subst e; exact ltB_irrefl _ hab)
theorem KSet.unique {P : ByteArray → Prop} {ks ks' : List ByteArray} (h : KSet P ks) (h' : KSet P ks') : ks = ks' := by
  refine List.Perm.eq_of_pairwise (le := ltB) (fun a b _ _ hab hba => absurd (ltB_trans hab hba) (ltB_irrefl a)) h.sorted h'.sorted ?_
  exact (List.perm_ext_iff_of_nodup h.nodup h'.nodup).2 (fun k => (h.mem k).trans (h'.mem k).symm)
theorem KSet.cong {P Q : ByteArray → Prop} {ks : List ByteArray} (h : KSet P ks) (e : ∀ k, P k ↔ Q k) : KSet Q ks := ⟨h.sorted, fun k => (h.mem k).trans (e k)⟩
def hasV (m : Vals) : ByteArray → Prop := fun k => (m k).kind ≠ 0
abbrev KeysOf (m : Vals) (ks : List ByteArray) : Prop := KSet (hasV m) ks
/-- one key put in where it belongs -/
theorem KSet.insert {P : ByteArray → Prop} {ks : List ByteArray} (h : KSet P ks) (key : ByteArray) (at_ : Nat) (hat : at_ ≤ ks.length) (hlo : ∀ (j : Nat) (x : ByteArray), ks[j]? = some x → j < at_ → ltB x key)
    (hhi : ∀ x, ks[at_]? = some x → ltB key x) : KSet (fun k => P k ∨ k = key) (ks.take at_ ++ [key] ++ ks.drop at_) := by
  have hdrop : ∀ x ∈ ks.drop at_, ltB key x := by
    intro x hx
    obtain ⟨j, hj⟩ := List.mem_iff_getElem?.1 hx
    rw [List.getElem?_drop] at hj
    rcases Nat.eq_zero_or_pos j with h0 | h0
    · subst h0; exact hhi x (by simpa using hj)
    · have hlt : at_ < ks.length := by have := (List.getElem?_eq_some_iff.1 hj).1; omega
      have h1 := hhi ks[at_] (List.getElem?_eq_getElem hlt)
      refine ltB_trans h1 ?_
      obtain ⟨hlt2, e⟩ := List.getElem?_eq_some_iff.1 hj
      have := (List.pairwise_iff_getElem.1 h.sorted) at_ (at_ + j) hlt hlt2 (by omega)
      rw [e] at this
      exact this
  have htake : ∀ x ∈ ks.take at_, ltB x key := by
    intro x hx
    obtain ⟨j, hj⟩ := List.mem_iff_getElem?.1 hx
    rw [List.getElem?_take] at hj
    split at hj
    · exact hlo j x hj (by assumption)
    · cases hj
  refine ⟨?_, fun k => ?_⟩
  · have hs := h.sorted
    rw [← List.take_append_drop at_ ks, List.pairwise_append] at hs
    rw [List.append_assoc, List.pairwise_append]
    refine ⟨hs.1, ?_, ?_⟩
    · rw [List.singleton_append, List.pairwise_cons]
      exact ⟨hdrop, hs.2.1⟩
    · intro a ha b hb
      rw [List.singleton_append, List.mem_cons] at hb
      rcases hb with rfl | hb
      · exact htake a ha
      · exact hs.2.2 a ha b hb
  · rw [← h.mem k]
    have : k ∈ ks ↔ k ∈ ks.take at_ ∨ k ∈ ks.drop at_ := by
      conv => lhs; rw [← List.take_append_drop at_ ks]
      exact List.mem_append
    rw [this]
    simp only [List.mem_append, List.mem_singleton]
    constructor
    · rintro ((h | h) | h)
      · exact .inl (.inl h)
      · exact .inr h
      · exact .inl (.inr h)
    · rintro ((h | h) | h)
      · exact .inl (.inl h)
      · exact .inr h
      · exact .inl (.inr h)
end Go.Proofs.Ytihnldhdpiokhaa
