/- Append onto a copy that was made just before; a slice read from some place on. Plain lemmas. -/
import Derived.Test.YtihnldhdpiokhaaNew
import Derived.Test.YtihnldhdpiokhaaRows
import Derived.WalkKit
import Derived.WalkLawsBesides
import Derived.WalkSpells
import Derived.Deep.QuietTactic
import Derived.BigQuiet
import Derived.Deep.RegionHeld3
import Derived.Lib.Hide
namespace Go.Proofs.Ytihnldhdpiokhaa
open Go.RowKit
set_option linter.unusedVariables false

/-! ### append onto a copy that was made just before -/
/-- A slice in new memory that may be appended to. -/
structure NewOwn (e size : Nat) (xs : List Value) (w : World) (A' : Option Addr) (n cap' : Nat) (w' : World) : Prop where
  grown : w.grownBy w' none
  own : ∀ (own : Nat → Nat) (b0 j : Nat), b0 ≤ w.heap.size → OwnS w' (give own b0 j) j e size A' n cap' xs

theorem NewOwn.of_mine {e size n c : Nat} {xs : List Value} {w w' : World} {A : Option Addr} {own : Nat → Nat} (st : Step 1 w (fun _ => 0) w' own) (h : OwnS w' own 1 e size A n c xs) : NewOwn e size xs w A n c w' :=
  ⟨grown_of_step st (by omega), fun own2 b0 j hb0 => ⟨h.1, by
    rcases h.2 with h0 | ⟨g, cur, rfl, ho, hb, rest⟩
    · exact .inl h0
    · have hge : w.heap.size ≤ g := by
        rcases Nat.lt_or_ge g w.heap.size with hlt | hge
        · have := st.own g hlt
          rw [ho] at this; omega
        · exact hge
      exact .inr ⟨g, cur, rfl, give_new (by omega), hb, rest⟩⟩⟩
theorem NewOwn.behind {e size n cap' : Nat} {xs : List Value} {w w1 w' : World} {A' : Option Addr} (h : NewOwn e size xs w1 A' n cap' w') (hg : w.grownBy w1 none) : NewOwn e size xs w A' n cap' w' :=
  ⟨grown_tr hg h.grown, fun own b0 j hb0 => h.own own b0 j (Nat.le_trans hb0 hg.size)⟩
theorem NewOwn.row {e size n cap' : Nat} {xs : List Value} {w w' : World} {A' : Option Addr} (h : NewOwn e size xs w A' n cap' w') : NewRow e size xs w A' n cap' w' :=
  ⟨(h.own (fun _ => 0) w.heap.size 1 (Nat.le_refl _)).le, (h.own (fun _ => 0) w.heap.size 1 (Nat.le_refl _)).max, h.grown, fun own b0 j hb0 => (h.own own b0 j hb0).row⟩

theorem run_onto {P : Program} {w0 w : World} (w1 : World) (t ty e : TypeId) (i : TypeInfo) (z : Value) (size bytes : Nat) (ht : P.underlying t = some (.slice e)) (hi : P.info? e = some i) (hz : i.zero = some z)
    (hsize : i.size = size) (hby : i.bytes = bytes) (hzs : z.cells.size = size) (hsz : 0 < size)
    (A : Option Addr) (n c : Nat) (xs : List Value) (hcp : Copied e size xs w0 A n c w) (hxl : xs.length = n * size) (hgr : w.grownBy w1 none)
    (b m c' : Nat) (t' : TypeId) (news : List Value) (hl : news.length = m * size) (hb : Blk w1 b t' news.toArray) (h1 : ∀ u ∈ news, u.oneCell' = true) (hm : 0 < m)
    (b1 : n + m ≤ maxLen) (b2 : (n + m) * bytes ≤ 140737488355328) :
    ∃ A' c2 w', (Builtin.append_ #[t, t] ty #[.slice A n c, .slice (some ⟨b, 0, none⟩) m c']).run P w1 = .ok (.slice A' (n + m) c2) w' ∧
      NewOwn e size (xs ++ news) w0 A' (n + m) c2 w' := by
  have hs0 : Step 1 w0 (fun _ => 0) w1 (give (fun _ => 0) w0.heap.size 1) := (((Step.refl 1 w0 (fun _ => 0)).give_ 1).grown hcp.grown (by simp)).grown hgr (by simp)
  have hsz1 : w0.heap.size ≤ w1.heap.size := Nat.le_trans hcp.grown.size hgr.size
  rcases Nat.eq_zero_or_pos n with hn | hn
  · subst hn
    have hx : xs = [] := List.eq_nil_of_length_eq_zero (by simpa using hxl)
    subst hx
    have hc := hcp.zero rfl
    subst hc
    obtain ⟨g, cap', cs, w', hrun, r1, r2, r3, r4, r5, r6, r7⟩ := run_app (P := P) w1 t ty e i z size bytes ht hi hz hsize hby hzs hsz A 0 0 [] (Rd.nil w1 size A) (fun _ => rfl) b m c' t' news hl hb h1 (by omega) b1 b2
    exact ⟨_, cap', w', hrun, NewOwn.of_mine (hs0.grown r7 (by simp)) ⟨by simp [hl], .inr ⟨g, cs, rfl, give_new (by omega), r1, r4, r5, r6, r2⟩⟩⟩
  · obtain ⟨g, cs, rfl, q1, q2, q3, q4⟩ := hcp.row hn
    have hO : OwnS w1 (give (fun _ => 0) w0.heap.size 1) 1 e size (some ⟨g, 0, none⟩) n c xs := ⟨hxl, .inr ⟨g, cs, rfl, give_new q3, q1.grown hgr (by simp), hcp.le, hcp.max, q4, q2⟩⟩
    have hrd : Rd w1 size (some ⟨b, 0, none⟩) m news := Rd.of_blk (off := 0) hb hl (fun j u h => by simpa using h)
    obtain ⟨A', c2, w', hrun, r1, r2⟩ := run_mine (P := P) w1 t ty e i z size bytes ht hi hz hsize hby hzs hsz _ 1 _ n c xs hO _ m c' news hrd h1 b1 b2
    exact ⟨A', c2, w', hrun, NewOwn.of_mine (hs0.trans r2) r1⟩

theorem wpList_onto {P : Program} {w0 w w1 : World} {ops : Array Oper} {rest : List Oper} {o : Oper} {a : Act} {Q : Exit → Act → World → Prop}
    (hg : o.guard = none) (s x : Operand) (t : TypeId) (hop : o.op = Op.call { callee := Callee.builtin Builtin.append, args := #[s, x], argTypes := #[t, t] })
    (e : TypeId) (i : TypeInfo) (z : Value) (size bytes : Nat) (ht : P.underlying t = some (.slice e)) (hi : P.info? e = some i) (hz : i.zero = some z)
    (hsize : i.size = size) (hby : i.bytes = bytes) (hzs : z.cells.size = size) (hsz : 0 < size)
    (A : Option Addr) (n c : Nat) (xs : List Value) (hs : a.eval s = .slice A n c) (hcp : Copied e size xs w0 A n c w) (hxl : xs.length = n * size) (hgr : w.grownBy w1 none)
    (b m c' : Nat) (t' : TypeId) (news : List Value) (hx : a.eval x = .slice (some ⟨b, 0, none⟩) m c') (hl : news.length = m * size) (hb : Blk w1 b t' news.toArray) (h1 : ∀ u ∈ news, u.oneCell' = true) (hm : 0 < m)
    (b1 : n + m ≤ maxLen) (b2 : (n + m) * bytes ≤ 140737488355328)
    (hK : ∀ A' c2 w', NewOwn e size (xs ++ news) w0 A' (n + m) c2 w' → wpList P ops Q rest (a.put o.dst (.slice A' (n + m) c2)) w') : wpList P ops Q (o :: rest) a w1 := by
  refine wpList_plain hg fun K hK' => ?_
  obtain ⟨A', c2, w', hrun, r1⟩ := run_onto (P := P) w1 t o.type e i z size bytes ht hi hz hsize hby hzs hsz A n c xs hcp hxl hgr b m c' t' news hl hb h1 hm b1 b2
  unfold Oper.wp
  simp [execOp, hop, resolve, invoke, builtin, hs, hx, hrun, Result.andThen]
  exact hK' _ _ (hK A' c2 w' r1)

theorem wrapI (x : Int) (h : -9223372036854775808 ≤ x ∧ x ≤ 9223372036854775807) : IntKind.i64.wrap x = x := by
  rw [IntKind.wrap_i64]; omega

theorem grown_drew {w w' : World} (h : w.grownBy w' none) : w.grownBy w'.drew none := ⟨h.os, h.tape, h.output, h.size, h.block⟩

/-- what is read of a slice from its p-th element on, in a world with one block more -/
theorem rd_from {w : World} {b n c p : Nat} {xs : List Value} (hr : Rd w 1 (some ⟨b, 0, none⟩) n xs) (hp : p ≤ n) (hnc : n ≤ c) (o : Obj) :
    Rd (w.alloc o) 1 (if c = p then some ⟨b, 0, none⟩ else some ⟨b, p, none⟩) (n - p) (xs.drop p) := by
  have hr2 := hr.alloc (by omega) o
  refine ⟨by have := hr2.1; simp; omega, fun hpos => ?_⟩
  rw [if_neg (by omega)]
  obtain ⟨b', off', e, hc⟩ := hr2.2 (by omega)
  injection e with e
  injection e with e1 e2
  subst e1; subst e2
  refine ⟨b, p, rfl, fun j u hj => ?_⟩
  rw [List.getElem?_drop] at hj
  have := hc _ u hj
  simpa using this

theorem Try.info9o : (Try.prog.info? 9).map (fun i => (i.zero, i.size, i.bytes)) = some (some (.string ByteArray.empty), 1, 16) := by kernel_rfl

/-- A call hands back a list of texts in new memory. -/
def StrsOk (n : Nat) (w : World) (xs : List Value) (e : Ending) (w' : World) : Prop := ∃ A c, e = .returned (.slice A n c) ∧ NewRow 9 1 xs w A n c w'

theorem strs_fin {n cap' : Nat} {w w1 : World} {xs : List Value} {A' : Option Addr} {o : Obj} (h : Copied 9 1 xs (w.alloc o).drew A' n cap' w1) (hl : xs.length = n * 1) :
    StrsOk n w xs (.returned (.slice A' n cap')) w1 :=
  ⟨A', cap', rfl, (NewRow.of_copied h hl).behind (grown_drew (World.grownBy_alloc w o none))⟩
theorem strs_one (l : List ByteArray) : ∀ u ∈ l.map Value.string, u.oneCell' = true := by
  intro u hu; simp only [List.mem_map] at hu; obtain ⟨x, _, rfl⟩ := hu; rfl
end Go.Proofs.Ytihnldhdpiokhaa
