/- What StoreApart leans on: slices of the call's own beside two stores; plain laws on two rows of updates. -/
import Derived.Test.YtihnldhdpiokhaaLawy
namespace Go.Proofs.Ytihnldhdpiokhaa
open Go.RowKit
set_option linter.unusedVariables false

theorem Try.info38 : (Try.prog.info? 38).map (fun i => (i.zero, i.size, i.bytes)) = some (some (.agg #[.string ByteArray.empty, .int .i64 0, .int .i64 0, .string ByteArray.empty]), 4, 48) := by kernel_rfl
theorem Kept.ownS {X : World → (Nat → Nat) → Prop} (h : Kept X) (j : Nat) (hj : j / 10 = 3) (t size : Nat) (A : Option Addr) (n c : Nat) (xs : List Value) : Kept (fun w own => X w own ∧ OwnS w own j t size A n c xs) :=
  fun w own w' own' hk hx => ⟨h w own w' own' hk hx.1, hx.2.keep fun k hk' ho => ⟨(hk k hk' (by rw [ho]; exact hj)).1, by rw [(hk k hk' (by rw [ho]; exact hj)).2]; exact ho⟩⟩
theorem upds_atn {w : World} {A : Option Addr} {n : Nat} {l : List Upd} (h : Rd w 4 A n (ucells l)) {k : Nat} (hk : k < n) :
    ∃ b off u, A = some ⟨b, off, none⟩ ∧ l[k]? = some u ∧ w.cell? ⟨b, off + k * 4, none⟩ = some (.string u.key) ∧ w.cell? ⟨b, off + k * 4 + 1, none⟩ = some (.int .i64 u.kind) ∧ w.cell? ⟨b, off + k * 4 + 2, none⟩ = some (.int .i64 u.n) ∧ w.cell? ⟨b, off + k * 4 + 3, none⟩ = some (.string u.s) := by
  have hl : l.length = n := by have := h.1; rw [ucells_length] at this; omega
  subst hl
  exact upds_at h hk
def fO (key : ByteArray) (l : List Upd) : List Upd := l.filter fun u => decide (u.key = key)
def fN (key : ByteArray) (l : List Upd) : List Upd := l.filter fun u => !decide (u.key = key)
theorem fO_take_yes {key : ByteArray} {l : List Upd} {k : Nat} {u : Upd} (h : l[k]? = some u) (hk : u.key = key) : fO key (l.take (k + 1)) = fO key (l.take k) ++ [u] ∧ fN key (l.take (k + 1)) = fN key (l.take k) := by
  rw [List.take_add_one, h, Option.toList_some]
  simp [fO, fN, hk]
theorem fO_take_no {key : ByteArray} {l : List Upd} {k : Nat} {u : Upd} (h : l[k]? = some u) (hk : ¬ u.key = key) : fO key (l.take (k + 1)) = fO key (l.take k) ∧ fN key (l.take (k + 1)) = fN key (l.take k) ++ [u] := by
  rw [List.take_add_one, h, Option.toList_some]
  simp [fO, fN, hk]
theorem apart_is (key : ByteArray) (l : List Upd) : stOf (fN key l ++ fO key l) = stOf l := by
  funext k
  refine stOf_cong ?_
  rw [List.filter_append]
  unfold fN fO
  rw [List.filter_filter, List.filter_filter]
  by_cases h : k = key
  · subst h
    rw [List.filter_eq_nil_iff.2 (fun u hu => by simp), List.nil_append]
    congr 1
    funext u
    simp
  · have e2 : (l.filter fun a => decide (a.key = k) && decide (a.key = key)) = [] := List.filter_eq_nil_iff.2 (fun u hu => by simp; intro e1 e2; exact h (e1.symm.trans e2))
    rw [e2, List.append_nil]
    congr 1
    funext u
    by_cases e : u.key = k
    · simp [e, h]
    · simp [e]
theorem apart_none (key : ByteArray) (l : List Upd) : stOf (fN key l) key = zeroV := stOf_none fun u hu => by
  have := (List.mem_filter.1 hu).2
  simpa using this

/-- Two stores, two rows of updates of the call's own, one update in a block. -/
def ApX (A1 : Option Addr) (n1 c1 : Nat) (o : List Upd) (A2 : Option Addr) (n2 c2 : Nat) (p : List Upd) : Hold := fun w own => (True ∧ OwnS w own 32 38 4 A1 n1 c1 (ucells o)) ∧ OwnS w own 33 38 4 A2 n2 c2 (ucells p)
theorem ApX.kept (A1 : Option Addr) (n1 c1 : Nat) (o : List Upd) (A2 : Option Addr) (n2 c2 : Nat) (p : List Upd) : Kept (ApX A1 n1 c1 o A2 n2 c2 p) :=
  (Kept.none.ownS 32 (by omega) 38 4 A1 n1 c1 (ucells o)).ownS 33 (by omega) 38 4 A2 n2 c2 (ucells p)
theorem ApX.nil (w : World) (own : Nat → Nat) : ApX none 0 0 [] none 0 0 [] w own := ⟨⟨trivial, OwnS.nil _ _ _ _ _⟩, OwnS.nil _ _ _ _ _⟩
section
variable {w0 w w' : World} {g r n n' n1 c1 n2 c2 n3 c3 : Nat} {m m' : Vals} {A1 A2 A3 : Option Addr} {o p q : List Upd}
theorem ap_one {own own' : Nat → Nat} (hB : Base w0.heap.size w0 w own) (hb : StAt w own 1 g m n) (hr : StAt w own 2 r m' n') (hx : ApX A1 n1 c1 o A2 n2 c2 p w own)
    (hO : OwnS w' own' 32 38 4 A3 n3 c3 (ucells q)) (st : Step 32 w own w' own') : Stw w0 g m n r m' n' (ApX A3 n3 c3 q A2 n2 c2 p) w' :=
  ⟨own', hB.step st (by omega), hb.other (st.toG (l := 3) rfl) (by omega), hr.other (st.toG (l := 3) rfl) (by omega), ⟨⟨trivial, hO⟩, hx.2.step st (by omega)⟩⟩
theorem ap_two {own own' : Nat → Nat} (hB : Base w0.heap.size w0 w own) (hb : StAt w own 1 g m n) (hr : StAt w own 2 r m' n') (hx : ApX A1 n1 c1 o A2 n2 c2 p w own)
    (hO : OwnS w' own' 33 38 4 A3 n3 c3 (ucells q)) (st : Step 33 w own w' own') : Stw w0 g m n r m' n' (ApX A1 n1 c1 o A3 n3 c3 q) w' :=
  ⟨own', hB.step st (by omega), hb.other (st.toG (l := 3) rfl) (by omega), hr.other (st.toG (l := 3) rfl) (by omega), ⟨⟨trivial, hx.1.2.step st (by omega)⟩, hO⟩⟩
theorem Stw.row1 (h : Stw w0 g m n r m' n' (ApX A1 n1 c1 o A2 n2 c2 p) w) : Rd w 4 A1 n1 (ucells o) := by
  obtain ⟨own, _, _, _, hx⟩ := h
  exact hx.1.2.row.rd
theorem Stw.row2 (h : Stw w0 g m n r m' n' (ApX A1 n1 c1 o A2 n2 c2 p) w) : Rd w 4 A2 n2 (ucells p) := by
  obtain ⟨own, _, _, _, hx⟩ := h
  exact hx.2.row.rd
end
end Go.Proofs.Ytihnldhdpiokhaa
