/- Words for memory, used by all proofs of this seat: a block known whole, a slice that reads as a list of cells, steps that write only what one owner holds, and laws for append and clear. No condition: plain lemmas. -/
import Derived.WalkKit
import Derived.Lib.Hide
import Derived.Deep.RegionLaw
import Derived.Deep.Draws
import Derived.Deep.AppendLies
import Derived.StillTailTactics
namespace Go.Proofs.Ytihnldhdpiokhaa
open Go.RowKit
set_option linter.unusedVariables false

def Blk (w : World) (g : Nat) (t : TypeId) (cs : Array Value) : Prop := w.heap[g]? = some (.cells cs t (0, 0))

section
variable {w w' : World} {g : Nat} {t : TypeId} {cs : Array Value}
theorem Blk.lt (h : Blk w g t cs) : g < w.heap.size := by
  rcases Nat.lt_or_ge g w.heap.size with hlt | hge
  · exact hlt
  · unfold Blk at h; rw [Array.getElem?_eq_none hge] at h; cases h
theorem Blk.cell (h : Blk w g t cs) (i : Nat) : w.cell? ⟨g, i, none⟩ = cs[i]? := cell_of_row w g i cs t (0, 0) h
theorem Blk.free (h : Blk w g t cs) (i : Nat) : w.frozen? ⟨g, i, none⟩ = false := by
  unfold Blk at h
  simp [World.frozen?, h]
theorem Blk.new (w : World) (t : TypeId) (cs : Array Value) : Blk (w.alloc (.cells cs t)) w.heap.size t cs := heap_alloc_new w _
theorem Blk.drew (h : Blk w g t cs) : Blk w.drew g t cs := h
theorem Blk.drewN (h : Blk w g t cs) (n : Nat) : Blk (w.drewN n) g t cs := h
theorem Blk.alloc (h : Blk w g t cs) (o : Obj) : Blk (w.alloc o) g t cs := (Below.heap_alloc w o g h.lt).trans h
theorem Blk.set_ (h : Blk w g t cs) (i : Nat) (u : Value) : Blk (w.setCell ⟨g, i, none⟩ u) g t (cs.setIfInBounds i u) := by
  unfold Blk at h ⊢
  simp [World.setCell, Array.getElem?_modify, h]
theorem Blk.far (h : Blk w g t cs) {p : Addr} (hp : g ≠ p.block) (u : Value) : Blk (w.setCell p u) g t cs := (Below.heap_setCell w p u g hp).trans h
theorem Blk.below {B : Nat} (h : Blk w g t cs) (hb : Below B w w') (hg : g < B) : Blk w' g t cs := (hb.block g hg).trans h
theorem Blk.grown {row : Option Nat} (h : Blk w g t cs) (hb : w.grownBy w' row) (hg : some g ≠ row) : Blk w' g t cs := (hb.block g h.lt hg).trans h
theorem Blk.of_eq (h : Blk w g t cs) (e : w'.heap[g]? = w.heap[g]?) : Blk w' g t cs := e.trans h
theorem Blk.ne_ {g' : Nat} {t' : TypeId} {cs' : Array Value} (h : Blk w g t cs) (h' : Blk w g' t' cs') (hne : t ≠ t') : g ≠ g' := by
  rintro rfl
  unfold Blk at h h'
  rw [h] at h'
  injection h' with h'
  injection h' with _ ht
  exact hne ht
theorem Blk.inj {t' : TypeId} {cs' : Array Value} (h : Blk w g t cs) (h' : Blk w g t' cs') : cs = cs' := by
  unfold Blk at h h'
  rw [h] at h'
  injection h' with h'
  injection h' with h1
end

/-! ### Owners: 'own k' is the owner of block k; 0: what was there before the call -/

structure Step (i : Nat) (w : World) (own : Nat → Nat) (w' : World) (own' : Nat → Nat) : Prop where
  os : w'.os = w.os
  tape : w'.tape = w.tape
  output : w'.output = w.output
  size : w.heap.size ≤ w'.heap.size
  heap : ∀ k, k < w.heap.size → own k ≠ i → w'.heap[k]? = w.heap[k]?
  own : ∀ k, k < w.heap.size → own' k = own k

theorem Step.refl (i : Nat) (w : World) (own : Nat → Nat) : Step i w own w own := ⟨rfl, rfl, rfl, Nat.le_refl _, fun _ _ _ => rfl, fun _ _ => rfl⟩
theorem Step.trans {i : Nat} {a b c : World} {oa ob oc : Nat → Nat} (h : Step i a oa b ob) (k : Step i b ob c oc) : Step i a oa c oc :=
  ⟨k.os.trans h.os, k.tape.trans h.tape, k.output.trans h.output, Nat.le_trans h.size k.size,
    fun j hj hn => (k.heap j (Nat.lt_of_lt_of_le hj h.size) (by rw [h.own j hj]; exact hn)).trans (h.heap j hj hn),
    fun j hj => (k.own j (Nat.lt_of_lt_of_le hj h.size)).trans (h.own j hj)⟩
theorem Step.drewN {i : Nat} {a b : World} {oa ob : Nat → Nat} (h : Step i a oa b ob) (n : Nat) : Step i a oa (b.drewN n) ob := ⟨h.os, h.tape, h.output, h.size, h.heap, h.own⟩
theorem Step.drew {i : Nat} {a b : World} {oa ob : Nat → Nat} (h : Step i a oa b ob) : Step i a oa b.drew ob := ⟨h.os, h.tape, h.output, h.size, h.heap, h.own⟩
theorem Step.setCell {i : Nat} {a b : World} {oa ob : Nat → Nat} (h : Step i a oa b ob) {p : Addr} (hp : ob p.block = i) (u : Value) : Step i a oa (b.setCell p u) ob :=
  h.trans ⟨rfl, rfl, rfl, by simp, fun k _ hn => Below.heap_setCell _ _ _ _ (fun e => hn (by rw [e]; exact hp)), fun _ _ => rfl⟩
/-- own with the blocks from n on given to i -/
def give (own : Nat → Nat) (n i : Nat) : Nat → Nat := fun k => if k < n then own k else i
theorem give_old {own : Nat → Nat} {n i k : Nat} (h : k < n) : give own n i k = own k := by simp [give, h]
theorem give_new {own : Nat → Nat} {n i k : Nat} (h : n ≤ k) : give own n i k = i := by simp [give, Nat.not_lt.2 h]
theorem Step.give_ {i : Nat} {a b : World} {oa ob : Nat → Nat} (h : Step i a oa b ob) (j : Nat) : Step i a oa b (give ob b.heap.size j) :=
  ⟨h.os, h.tape, h.output, h.size, h.heap, fun k hk => (give_old (Nat.lt_of_lt_of_le hk h.size)).trans (h.own k hk)⟩
theorem Step.alloc {i : Nat} {a b : World} {oa ob : Nat → Nat} (h : Step i a oa b ob) (o : Obj) : Step i a oa (b.alloc o) ob :=
  h.trans ⟨rfl, rfl, rfl, by simp, fun k hk _ => Below.heap_alloc _ _ _ hk, fun _ _ => rfl⟩
theorem Step.grown {i : Nat} {a b c : World} {oa ob : Nat → Nat} {row : Option Nat} (h : Step i a oa b ob) (hg : b.grownBy c row) (hr : ∀ k, row = some k → ob k = i) : Step i a oa c ob :=
  h.trans ⟨hg.os, hg.tape, hg.output, hg.size, fun k hk hn => hg.block k hk (fun e => hn (hr k e.symm)), fun _ _ => rfl⟩
/-- a step whose base world is only told up to draws -/
theorem Step.of_drewN {i : Nat} {a b : World} {oa ob : Nat → Nat} {n : Nat} (h : Step i (a.drewN n) oa b ob) : Step i a oa b ob := ⟨h.os, h.tape, h.output, h.size, h.heap, h.own⟩
theorem Step.other {i j : Nat} {a b : World} {oa ob : Nat → Nat} (h : Step i a oa b ob) (hij : j ≠ i) {k : Nat} (hk : k < a.heap.size) (ho : oa k = j) : b.heap[k]? = a.heap[k]? ∧ ob k = j :=
  ⟨h.heap k hk (by rw [ho]; exact hij), (h.own k hk).trans ho⟩

/-- The call's own standing: below block B all is as it was when the call began, and owned by 0. -/
structure Base (B : Nat) (w0 w : World) (own : Nat → Nat) : Prop where
  below : Below B w0 w
  own : ∀ k, k < B → own k = 0
  size : B ≤ w.heap.size

theorem Base.start (w : World) : Base w.heap.size w w (fun _ => 0) := ⟨Below.refl _ _, fun _ _ => rfl, Nat.le_refl _⟩
theorem Base.step {B i : Nat} {w0 w w' : World} {own own' : Nat → Nat} (h : Base B w0 w own) (s : Step i w own w' own') (hi : i ≠ 0) : Base B w0 w' own' :=
  ⟨h.below.trans ⟨s.os, s.tape, s.output, s.size, fun k hk => s.heap k (Nat.lt_of_lt_of_le hk h.size) (by rw [h.own k hk]; exact fun e => hi e.symm)⟩,
    fun k hk => (s.own k (Nat.lt_of_lt_of_le hk h.size)).trans (h.own k hk), Nat.le_trans h.size s.size⟩
theorem Base.drewN {B : Nat} {w0 w : World} {own : Nat → Nat} (h : Base B w0 w own) (n : Nat) : Base B w0 (w.drewN n) own := h.step ((Step.refl 1 w own).drewN n) (by omega)
theorem Base.drew {B : Nat} {w0 w : World} {own : Nat → Nat} (h : Base B w0 w own) : Base B w0 w.drew own := h.step ((Step.refl 1 w own).drew) (by omega)

/-! ### A slice that reads as cells -/

def Rd (w : World) (size : Nat) (A : Option Addr) (n : Nat) (xs : List Value) : Prop :=
  xs.length = n * size ∧ (0 < n → ∃ b off, A = some ⟨b, off, none⟩ ∧ ∀ j u, xs[j]? = some u → w.cell? ⟨b, off + j, none⟩ = some u)

theorem add_lit (b off n : Nat) : (⟨b, off, none⟩ : Addr).add n = ⟨b, off + n, none⟩ := by unfold Addr.add; split <;> simp_all

section
variable {w w' : World} {size n : Nat} {A : Option Addr} {xs : List Value}
theorem Rd.len (h : Rd w size A n xs) : xs.length = n * size := h.1
theorem Rd.nil (w : World) (size : Nat) (A : Option Addr) : Rd w size A 0 [] := ⟨by simp, fun h => absurd h (by omega)⟩
theorem Rd.at_ {k f : Nat} (h : Rd w size A n xs) (hk : k < n) (hf : f < size) : ∃ b off u, A = some ⟨b, off, none⟩ ∧ xs[k * size + f]? = some u ∧ w.cell? ⟨b, off + (k * size + f), none⟩ = some u := by
  obtain ⟨b, off, e, hc⟩ := h.2 (by omega)
  have hl : k * size + f < xs.length := by
    rw [h.1]
    calc k * size + f < k * size + size := by omega
      _ = (k + 1) * size := by rw [Nat.add_mul, Nat.one_mul]
      _ ≤ n * size := Nat.mul_le_mul_right _ hk
  exact ⟨b, off, xs[k * size + f], e, List.getElem?_eq_getElem hl, hc _ _ (List.getElem?_eq_getElem hl)⟩
/-- kept where each block that is read is kept -/
theorem Rd.keep (h : Rd w size A n xs) (hk : ∀ b off, 0 < n → A = some ⟨b, off, none⟩ → b < w.heap.size → w'.heap[b]? = w.heap[b]?) (hs : 0 < size) : Rd w' size A n xs :=
  ⟨h.1, fun hn => by
    obtain ⟨b, off, e, hc⟩ := h.2 hn
    refine ⟨b, off, e, fun j u hu => ?_⟩
    have hl : 0 < xs.length := by rw [h.1]; exact Nat.mul_pos hn hs
    have h0 := hc 0 _ (List.getElem?_eq_getElem hl)
    have hlt := World.block_lt_of_cell? w _ h0
    exact (World.cell?_of_block (w := w) (hk b off hn e hlt)).trans (hc j u hu)⟩
theorem Rd.drew (h : Rd w size A n xs) : Rd w.drew size A n xs := h
theorem Rd.drewN (h : Rd w size A n xs) (k : Nat) : Rd (w.drewN k) size A n xs := h
theorem Rd.alloc (h : Rd w size A n xs) (hs : 0 < size) (o : Obj) : Rd (w.alloc o) size A n xs := h.keep (fun _ _ _ _ hb => Below.heap_alloc _ _ _ hb) hs
theorem Rd.of_blk {g : Nat} {t : TypeId} {cs : Array Value} (hb : Blk w g t cs) {off : Nat} (hl : xs.length = n * size) (h : ∀ j u, xs[j]? = some u → cs[off + j]? = some u) : Rd w size (some ⟨g, off, none⟩) n xs :=
  ⟨hl, fun _ => ⟨g, off, rfl, fun j u hu => (hb.cell _).trans (h j u hu)⟩⟩
end

/-- A slice that reads as xs, its array a block of element type t that i owns. -/
def Row (w : World) (own : Nat → Nat) (i : Nat) (t : TypeId) (size : Nat) (A : Option Addr) (n : Nat) (xs : List Value) : Prop :=
  xs.length = n * size ∧ (0 < n → ∃ b off cs, A = some ⟨b, off, none⟩ ∧ own b = i ∧ Blk w b t cs ∧ ∀ j u, xs[j]? = some u → cs[off + j]? = some u)

section
variable {w w' : World} {own own' : Nat → Nat} {i : Nat} {t : TypeId} {size n : Nat} {A : Option Addr} {xs : List Value}
theorem Row.rd (h : Row w own i t size A n xs) : Rd w size A n xs :=
  ⟨h.1, fun hn => by
    obtain ⟨b, off, cs, e, _, hb, hc⟩ := h.2 hn
    exact ⟨b, off, e, fun j u hu => (hb.cell _).trans (hc j u hu)⟩⟩
theorem Row.nil (w : World) (own : Nat → Nat) (i : Nat) (t : TypeId) (size : Nat) (A : Option Addr) : Row w own i t size A 0 [] := ⟨by simp, fun h => absurd h (by omega)⟩
/-- kept where i's blocks are kept -/
theorem Row.keep (h : Row w own i t size A n xs) (hk : ∀ k, k < w.heap.size → own k = i → w'.heap[k]? = w.heap[k]? ∧ own' k = i) : Row w' own' i t size A n xs :=
  ⟨h.1, fun hn => by
    obtain ⟨b, off, cs, e, ho, hb, hc⟩ := h.2 hn
    have := hk b hb.lt ho
    exact ⟨b, off, cs, e, this.2, hb.of_eq this.1, hc⟩⟩
theorem Row.step {j : Nat} (h : Row w own i t size A n xs) (s : Step j w own w' own') (hij : i ≠ j) : Row w' own' i t size A n xs :=
  h.keep fun k hk ho => s.other hij hk ho
/-- kept behind a store into a block of another element type -/
theorem Row.set_ (h : Row w own i t size A n xs) {g : Nat} {t' : TypeId} {cs' : Array Value} (hb : Blk w g t' cs') (ht : t ≠ t') (o : Nat) (u : Value) : Row (w.setCell ⟨g, o, none⟩ u) own i t size A n xs :=
  ⟨h.1, fun hn => by
    obtain ⟨b, off, cs, e, ho, hb', hc⟩ := h.2 hn
    exact ⟨b, off, cs, e, ho, hb'.far (hb'.ne_ hb ht) _, hc⟩⟩
theorem Row.fits (h : Row w own i t size A n xs) (hs : 0 < size) {b off : Nat} {cs : Array Value} (hA : A = some ⟨b, off, none⟩) (hb : Blk w b t cs) (hn : 0 < n) : off + n * size ≤ cs.size := by
  obtain ⟨b', off', cs', e, _, hb', hc⟩ := h.2 hn
  rw [hA] at e
  injection e with e
  injection e with e1 e2
  subst e1; subst e2
  have := hb.inj hb'
  subst this
  have hl : 0 < xs.length := by rw [h.1]; exact Nat.mul_pos hn hs
  have h1 := hc (xs.length - 1) _ (List.getElem?_eq_getElem (by omega))
  have h2 := (Array.getElem?_eq_some_iff.1 h1).1
  have := h.1
  omega
end

/-- an element of a slice whose elements are one cell each -/
theorem Rd.map_at {α : Type} {w : World} {A : Option Addr} {n : Nat} {f : α → Value} {zs : List α} (h : Rd w 1 A n (zs.map f)) {k : Nat} (hk : k < n) :
    ∃ b off, ∃ hz : k < zs.length, A = some ⟨b, off, none⟩ ∧ w.cell? ⟨b, off + k, none⟩ = some (f zs[k]) := by
  have hl := h.1
  simp only [List.length_map, Nat.mul_one] at hl
  obtain ⟨b, off, e, hc⟩ := h.2 (by omega)
  have hz : k < zs.length := by omega
  exact ⟨b, off, hz, e, hc k _ (by simp [hz])⟩

/-! ### append where it must grow: a new block, the old cells and the new ones in it -/
section
variable {P : Program} (w : World)

theorem run_app (t ty e : TypeId) (i : TypeInfo) (z : Value) (size bytes : Nat) (ht : P.underlying t = some (.slice e)) (hi : P.info? e = some i) (hz : i.zero = some z)
    (hsize : i.size = size) (hby : i.bytes = bytes) (hzs : z.cells.size = size) (hsz : 0 < size)
    (A : Option Addr) (n cap : Nat) (olds : List Value) (hr : Rd w size A n olds) (hA : n = 0 → cap = 0)
    (b m c : Nat) (t' : TypeId) (news : List Value) (hl : news.length = m * size) (hb : Blk w b t' news.toArray) (h1 : ∀ u ∈ news, u.oneCell' = true)
    (hfull : cap < n + m) (b1 : n + m ≤ maxLen) (b2 : (n + m) * bytes ≤ 140737488355328) :
    ∃ g cap' cs w', (Builtin.append_ #[t, t] ty #[.slice A n cap, .slice (some ⟨b, 0, none⟩) m c]).run P w = .ok (.slice (some ⟨g, 0, none⟩) (n + m) cap') w' ∧
      Blk w' g e cs ∧ cs.toList.take ((n + m) * size) = olds ++ news ∧ w.heap.size ≤ g ∧ n + m ≤ cap' ∧ cap' ≤ maxLen ∧ cs.size = cap' * size ∧ w.grownBy w' none := by
  have hnews : ∀ j u, news[j]? = some u → w.cell? ((⟨b, 0, none⟩ : Addr).add j) = some u := fun j u hu => by
    rw [add_lit, Nat.zero_add, hb.cell]; simpa using hu
  have fin : ∀ v' w', w'.ownsRow w.heap.size e size v' (n + m) (olds ++ news) → w.grownBy w' none →
      (Builtin.append_ #[t, t] ty #[.slice A n cap, .slice (some ⟨b, 0, none⟩) m c]).run P w = .ok v' w' →
      ∃ g cap' cs w', (Builtin.append_ #[t, t] ty #[.slice A n cap, .slice (some ⟨b, 0, none⟩) m c]).run P w = .ok (.slice (some ⟨g, 0, none⟩) (n + m) cap') w' ∧
      Blk w' g e cs ∧ cs.toList.take ((n + m) * size) = olds ++ news ∧ w.heap.size ≤ g ∧ n + m ≤ cap' ∧ cap' ≤ maxLen ∧ cs.size = cap' * size ∧ w.grownBy w' none := by
    intro v' w' ho hgw hrun
    rcases ho.2 with ⟨_, h0⟩ | ⟨g, cap', cur, rfl, hg, hh, hn, hm, hs, hx⟩
    · omega
    · exact ⟨g, cap', cur, w', hrun, hh, hx, hg, hn, hm, hs, hgw⟩
  rcases Nat.eq_zero_or_pos n with hn | hn
  · subst hn
    have hol : olds = [] := List.eq_nil_of_length_eq_zero (by simpa using hr.1)
    subst hol
    have hc0 := hA rfl
    subst hc0
    cases A with
    | none =>
      obtain ⟨v', w', hrun, r1, r2, _⟩ := run_append_own (P := P) w w.heap.size t ty e i z size bytes ht hi hz hsize hby hzs hsz (.slice none 0 0) 0 [] (World.ownsRow_nil w _ e size) ⟨b, 0, none⟩ m c news hl hnews h1 b1 b2 (Nat.le_refl _)
      exact fin v' w' r1 r2 hrun
    | some a =>
      obtain ⟨v', w', hrun, r1, r2⟩ := run_append_arg_grows (P := P) w t ty e i z size bytes ht hi hz hsize hby hzs hsz a 0 0 [] (by simp) (by intro j u h; simp at h) ⟨b, 0, none⟩ m c news hl hnews hfull b1 b2
      exact fin v' w' r1 r2 hrun
  · obtain ⟨b0, off, rfl, hc⟩ := hr.2 hn
    obtain ⟨v', w', hrun, r1, r2⟩ := run_append_arg_grows (P := P) w t ty e i z size bytes ht hi hz hsize hby hzs hsz ⟨b0, off, none⟩ n cap olds hr.1 (fun j u h => by rw [add_lit]; exact hc j u h) ⟨b, 0, none⟩ m c news hl hnews hfull b1 b2
    exact fin v' w' r1 r2 hrun

/-- append(s, x) where s has no spare room: one step of a region that draws -/
theorem step_app {w : World} {ops : Array Oper} {o : Oper} {a : Act} {K : Act → World → Prop} {Q : Exit → Act → World → Prop} {E : Prop}
    (hg : o.guard = none) (s x : Operand) (t : TypeId) (hop : o.op = Op.call { callee := Callee.builtin Builtin.append, args := #[s, x], argTypes := #[t, t] })
    (e : TypeId) (i : TypeInfo) (z : Value) (size bytes : Nat) (ht : P.underlying t = some (.slice e)) (hi : P.info? e = some i) (hz : i.zero = some z)
    (hsize : i.size = size) (hby : i.bytes = bytes) (hzs : z.cells.size = size) (hsz : 0 < size)
    (A : Option Addr) (n cap : Nat) (olds : List Value) (hs : a.eval s = .slice A n cap) (hr : Rd w size A n olds) (hA : n = 0 → cap = 0)
    (b m c : Nat) (t' : TypeId) (news : List Value) (hx : a.eval x = .slice (some ⟨b, 0, none⟩) m c) (hl : news.length = m * size) (hb : Blk w b t' news.toArray) (h1 : ∀ u ∈ news, u.oneCell' = true)
    (hfull : cap < n + m) (b1 : n + m ≤ maxLen) (b2 : (n + m) * bytes ≤ 140737488355328)
    (hK : ∀ g cap' cs w', Blk w' g e cs → cs.toList.take ((n + m) * size) = olds ++ news → w.heap.size ≤ g → n + m ≤ cap' → cap' ≤ maxLen → cs.size = cap' * size → w.grownBy w' none →
      K (a.put o.dst (.slice (some ⟨g, 0, none⟩) (n + m) cap')) w') :
    if Region.wanted o (yielded ops a.tmps) = true then Oper.wp P o a w K Q else E := by
  have hw : Region.wanted o (yielded ops a.tmps) = true := by simp [Region.wanted, hg]
  rw [if_pos hw]
  obtain ⟨g, cap', cs, w', hrun, r1, r2, r3, r4, r5, r6, r7⟩ := run_app (P := P) w t o.type e i z size bytes ht hi hz hsize hby hzs hsz A n cap olds hr hA b m c t' news hl hb h1 hfull b1 b2
  unfold Oper.wp
  simp [execOp, hop, resolve, invoke, builtin, hs, hx, hrun, Result.andThen]
  exact hK g cap' cs w' r1 r2 r3 r4 r5 r6 r7

/-- the same in a plain region -/
theorem wpList_app {w : World} {ops : Array Oper} {rest : List Oper} {o : Oper} {a : Act} {Q : Exit → Act → World → Prop}
    (hg : o.guard = none) (s x : Operand) (t : TypeId) (hop : o.op = Op.call { callee := Callee.builtin Builtin.append, args := #[s, x], argTypes := #[t, t] })
    (e : TypeId) (i : TypeInfo) (z : Value) (size bytes : Nat) (ht : P.underlying t = some (.slice e)) (hi : P.info? e = some i) (hz : i.zero = some z)
    (hsize : i.size = size) (hby : i.bytes = bytes) (hzs : z.cells.size = size) (hsz : 0 < size)
    (A : Option Addr) (n cap : Nat) (olds : List Value) (hs : a.eval s = .slice A n cap) (hr : Rd w size A n olds) (hA : n = 0 → cap = 0)
    (b m c : Nat) (t' : TypeId) (news : List Value) (hx : a.eval x = .slice (some ⟨b, 0, none⟩) m c) (hl : news.length = m * size) (hb : Blk w b t' news.toArray) (h1 : ∀ u ∈ news, u.oneCell' = true)
    (hfull : cap < n + m) (b1 : n + m ≤ maxLen) (b2 : (n + m) * bytes ≤ 140737488355328)
    (hK : ∀ g cap' cs w', Blk w' g e cs → cs.toList.take ((n + m) * size) = olds ++ news → w.heap.size ≤ g → n + m ≤ cap' → cap' ≤ maxLen → cs.size = cap' * size → w.grownBy w' none →
      wpList P ops Q rest (a.put o.dst (.slice (some ⟨g, 0, none⟩) (n + m) cap')) w') : wpList P ops Q (o :: rest) a w := by
  refine wpList_plain hg fun K hK' => ?_
  obtain ⟨g, cap', cs, w', hrun, r1, r2, r3, r4, r5, r6, r7⟩ := run_app (P := P) w t o.type e i z size bytes ht hi hz hsize hby hzs hsz A n cap olds hr hA b m c t' news hl hb h1 hfull b1 b2
  unfold Oper.wp
  simp [execOp, hop, resolve, invoke, builtin, hs, hx, hrun, Result.andThen]
  exact hK' _ _ (hK g cap' cs w' r1 r2 r3 r4 r5 r6 r7)

/-! ### append of a whole slice onto an empty one without room ('append([]T{}, xs...)') -/

/-- nothing is appended: the slice as it was -/
theorem run_app0 (t ty e : TypeId) (i : TypeInfo) (size : Nat) (ht : P.underlying t = some (.slice e)) (hi : P.info? e = some i) (hsize : i.size = size)
    (A0 A : Option Addr) (n cap c : Nat) (hn : n ≤ cap) :
    (Builtin.append_ #[t, t] ty #[.slice A0 n cap, .slice A 0 c]).run P w = .ok (.slice A0 n cap) w := by
  subst hsize
  cases A0 <;> cases A <;> simp [Builtin.append_, run_underlying ht, sizeOf, typeInfo, hi, Builtin.lenOf, Builtin.firstCells, hn, storeCells, loadCells, loadCellsFrom]

theorem run_copied (t ty e : TypeId) (i : TypeInfo) (z : Value) (size bytes : Nat) (ht : P.underlying t = some (.slice e)) (hi : P.info? e = some i) (hz : i.zero = some z)
    (hsize : i.size = size) (hby : i.bytes = bytes) (hzs : z.cells.size = size) (hsz : 0 < size)
    (A0 A : Option Addr) (n c : Nat) (xs : List Value) (hr : Rd w size A n xs) (h1 : ∀ u ∈ xs, u.oneCell' = true) (b1 : n ≤ maxLen) (b2 : n * bytes ≤ 140737488355328) :
    ∃ A' cap' w', (Builtin.append_ #[t, t] ty #[.slice A0 0 0, .slice A n c]).run P w = .ok (.slice A' n cap') w' ∧ n ≤ cap' ∧ cap' ≤ maxLen ∧ (n = 0 → cap' = 0) ∧ w.grownBy w' none ∧
      (0 < n → ∃ g cs, A' = some ⟨g, 0, none⟩ ∧ Blk w' g e cs ∧ cs.toList.take (n * size) = xs ∧ w.heap.size ≤ g ∧ cs.size = cap' * size) := by
  rcases Nat.eq_zero_or_pos n with hn | hn
  · subst hn
    exact ⟨A0, 0, w, run_app0 (P := P) w t ty e i size ht hi hsize A0 A 0 0 c (Nat.le_refl _), Nat.le_refl _, Nat.zero_le _, fun _ => rfl, World.grownBy.refl w _, fun h => absurd h (by omega)⟩
  · obtain ⟨b0, off, rfl, hc⟩ := hr.2 hn
    have hnews : ∀ j u, xs[j]? = some u → w.cell? ((⟨b0, off, none⟩ : Addr).add j) = some u := fun j u h => by rw [add_lit]; exact hc j u h
    have fin : ∀ v' w', w'.ownsRow w.heap.size e size v' (0 + n) ([] ++ xs) → w.grownBy w' none →
        (Builtin.append_ #[t, t] ty #[.slice A0 0 0, .slice (some ⟨b0, off, none⟩) n c]).run P w = .ok v' w' →
        ∃ A' cap' w', (Builtin.append_ #[t, t] ty #[.slice A0 0 0, .slice (some ⟨b0, off, none⟩) n c]).run P w = .ok (.slice A' n cap') w' ∧ n ≤ cap' ∧ cap' ≤ maxLen ∧ (n = 0 → cap' = 0) ∧ w.grownBy w' none ∧
          (0 < n → ∃ g cs, A' = some ⟨g, 0, none⟩ ∧ Blk w' g e cs ∧ cs.toList.take (n * size) = xs ∧ w.heap.size ≤ g ∧ cs.size = cap' * size) := by
      intro v' w' ho hgw hrun
      rcases ho.2 with ⟨_, h0⟩ | ⟨g, cap', cur, hv, hg, hh, hle, hm, hs, hx⟩
      · omega
      · subst hv
        simp only [Nat.zero_add, List.nil_append] at hrun hle hx
        exact ⟨_, cap', w', hrun, hle, hm, fun h => absurd h (by omega), hgw, fun _ => ⟨g, cur, rfl, hh, hx, hg, hs⟩⟩
    cases A0 with
    | none =>
      obtain ⟨v', w', hrun, r1, r2, _⟩ := run_append_own (P := P) w w.heap.size t ty e i z size bytes ht hi hz hsize hby hzs hsz (.slice none 0 0) 0 [] (World.ownsRow_nil w _ e size) ⟨b0, off, none⟩ n c xs hr.1 hnews h1 (by omega) (by simpa using b2) (Nat.le_refl _)
      exact fin v' w' r1 r2 hrun
    | some a =>
      obtain ⟨v', w', hrun, r1, r2⟩ := run_append_arg_grows (P := P) w t ty e i z size bytes ht hi hz hsize hby hzs hsz a 0 0 [] (by simp) (by intro j u h; simp at h) ⟨b0, off, none⟩ n c xs hr.1 hnews (by omega) (by omega) (by simpa using b2)
      exact fin v' w' r1 r2 hrun

/-- What a copy of a slice gives. -/
structure Copied (e : TypeId) (size : Nat) (xs : List Value) (w : World) (A' : Option Addr) (n cap' : Nat) (w' : World) : Prop where
  le : n ≤ cap'
  max : cap' ≤ maxLen
  zero : n = 0 → cap' = 0
  grown : w.grownBy w' none
  row : 0 < n → ∃ g cs, A' = some ⟨g, 0, none⟩ ∧ Blk w' g e cs ∧ cs.toList.take (n * size) = xs ∧ w.heap.size ≤ g ∧ cs.size = cap' * size

theorem wpList_copied {w : World} {ops : Array Oper} {rest : List Oper} {o : Oper} {a : Act} {Q : Exit → Act → World → Prop}
    (hg : o.guard = none) (s x : Operand) (t : TypeId) (hop : o.op = Op.call { callee := Callee.builtin Builtin.append, args := #[s, x], argTypes := #[t, t] })
    (e : TypeId) (i : TypeInfo) (z : Value) (size bytes : Nat) (ht : P.underlying t = some (.slice e)) (hi : P.info? e = some i) (hz : i.zero = some z)
    (hsize : i.size = size) (hby : i.bytes = bytes) (hzs : z.cells.size = size) (hsz : 0 < size)
    (A0 A : Option Addr) (n c : Nat) (xs : List Value) (hs : a.eval s = .slice A0 0 0) (hx : a.eval x = .slice A n c) (hr : Rd w size A n xs) (h1 : ∀ u ∈ xs, u.oneCell' = true) (b1 : n ≤ maxLen) (b2 : n * bytes ≤ 140737488355328)
    (hK : ∀ A' cap' w', Copied e size xs w A' n cap' w' → wpList P ops Q rest (a.put o.dst (.slice A' n cap')) w') : wpList P ops Q (o :: rest) a w := by
  refine wpList_plain hg fun K hK' => ?_
  obtain ⟨A', cap', w', hrun, r1, r2, r3, r4, r5⟩ := run_copied (P := P) w t o.type e i z size bytes ht hi hz hsize hby hzs hsz A0 A n c xs hr h1 b1 b2
  unfold Oper.wp
  simp [execOp, hop, resolve, invoke, builtin, hs, hx, hrun, Result.andThen]
  exact hK' _ _ (hK A' cap' w' ⟨r1, r2, r3, r4, r5⟩)

theorem step_copied {w : World} {ops : Array Oper} {o : Oper} {a : Act} {K : Act → World → Prop} {Q : Exit → Act → World → Prop} {E : Prop}
    (hg : o.guard = none) (s x : Operand) (t : TypeId) (hop : o.op = Op.call { callee := Callee.builtin Builtin.append, args := #[s, x], argTypes := #[t, t] })
    (e : TypeId) (i : TypeInfo) (z : Value) (size bytes : Nat) (ht : P.underlying t = some (.slice e)) (hi : P.info? e = some i) (hz : i.zero = some z)
    (hsize : i.size = size) (hby : i.bytes = bytes) (hzs : z.cells.size = size) (hsz : 0 < size)
    (A0 A : Option Addr) (n c : Nat) (xs : List Value) (hs : a.eval s = .slice A0 0 0) (hx : a.eval x = .slice A n c) (hr : Rd w size A n xs) (h1 : ∀ u ∈ xs, u.oneCell' = true) (b1 : n ≤ maxLen) (b2 : n * bytes ≤ 140737488355328)
    (hK : ∀ A' cap' w', Copied e size xs w A' n cap' w' → K (a.put o.dst (.slice A' n cap')) w') :
    if Region.wanted o (yielded ops a.tmps) = true then Oper.wp P o a w K Q else E := by
  have hw : Region.wanted o (yielded ops a.tmps) = true := by simp [Region.wanted, hg]
  rw [if_pos hw]
  obtain ⟨A', cap', w', hrun, r1, r2, r3, r4, r5⟩ := run_copied (P := P) w t o.type e i z size bytes ht hi hz hsize hby hzs hsz A0 A n c xs hr h1 b1 b2
  unfold Oper.wp
  simp [execOp, hop, resolve, invoke, builtin, hs, hx, hrun, Result.andThen]
  exact hK A' cap' w' ⟨r1, r2, r3, r4, r5⟩

/-! ### append onto a slice of one's own -/

/-- The slice '.slice A n c' is i's own: nil, or it begins at the head of a block of i's and reads as xs. -/
def OwnS (w : World) (own : Nat → Nat) (i : Nat) (e : TypeId) (size : Nat) (A : Option Addr) (n c : Nat) (xs : List Value) : Prop :=
  xs.length = n * size ∧ ((A = none ∧ n = 0 ∧ c = 0) ∨
    ∃ g cur, A = some ⟨g, 0, none⟩ ∧ own g = i ∧ Blk w g e cur ∧ n ≤ c ∧ c ≤ maxLen ∧ cur.size = c * size ∧ cur.toList.take (n * size) = xs)

section
variable {w w' : World} {own own' : Nat → Nat} {i : Nat} {e : TypeId} {size n c : Nat} {A : Option Addr} {xs : List Value}
theorem OwnS.nil (w : World) (own : Nat → Nat) (i : Nat) (e : TypeId) (size : Nat) : OwnS w own i e size none 0 0 [] := ⟨by simp, .inl ⟨rfl, rfl, rfl⟩⟩
theorem OwnS.len (h : OwnS w own i e size A n c xs) : xs.length = n * size := h.1
theorem OwnS.keep (h : OwnS w own i e size A n c xs) (hk : ∀ k, k < w.heap.size → own k = i → w'.heap[k]? = w.heap[k]? ∧ own' k = i) : OwnS w' own' i e size A n c xs := by
  refine ⟨h.1, ?_⟩
  rcases h.2 with h0 | ⟨g, cur, rfl, ho, hb, rest⟩
  · exact .inl h0
  · have := hk g hb.lt ho
    exact .inr ⟨g, cur, rfl, this.2, hb.of_eq this.1, rest⟩
theorem OwnS.step {j : Nat} (h : OwnS w own i e size A n c xs) (s : Step j w own w' own') (hij : i ≠ j) : OwnS w' own' i e size A n c xs := h.keep fun k hk ho => s.other hij hk ho
theorem OwnS.grown {b0 j : Nat} (h : OwnS w own i e size A n c xs) (hg : w.grownBy w' none) (hb0 : w.heap.size ≤ b0) : OwnS w' (give own b0 j) i e size A n c xs :=
  h.keep fun k hk ho => ⟨hg.block k hk (by simp), by rw [give_old (by omega)]; exact ho⟩
theorem OwnS.alloc (h : OwnS w own i e size A n c xs) (o : Obj) : OwnS (w.alloc o) own i e size A n c xs := h.keep fun k hk ho => ⟨Below.heap_alloc _ _ _ hk, ho⟩
theorem OwnS.drewN (h : OwnS w own i e size A n c xs) (m : Nat) : OwnS (w.drewN m) own i e size A n c xs := h
theorem OwnS.row (h : OwnS w own i e size A n c xs) : Row w own i e size A n xs :=
  ⟨h.1, fun hn => by
    rcases h.2 with ⟨_, h0, _⟩ | ⟨g, cur, rfl, ho, hb, hnc, hm, hs, ht⟩
    · omega
    · refine ⟨g, 0, cur, rfl, ho, hb, fun j u hu => ?_⟩
      rw [← ht, List.getElem?_take] at hu
      split at hu
      · simpa using hu
      · cases hu⟩
theorem OwnS.le (h : OwnS w own i e size A n c xs) : n ≤ c := by
  rcases h.2 with ⟨_, h0, h1⟩ | ⟨g, cur, _, _, _, hnc, _⟩ <;> omega
theorem OwnS.owns (h : OwnS w own i e size A n c xs) : w.ownsRow 0 e size (.slice A n c) n xs := by
  refine ⟨h.1, ?_⟩
  rcases h.2 with ⟨rfl, rfl, rfl⟩ | ⟨g, cur, rfl, ho, hb, hnc, hm, hs, ht⟩
  · exact .inl ⟨rfl, rfl⟩
  · exact .inr ⟨g, c, cur, rfl, Nat.zero_le _, hb, hnc, hm, hs, ht⟩
theorem OwnS.owner (h : OwnS w own i e size A n c xs) : ∀ k, (Value.slice A n c).ownBlock = some k → own k = i := by
  intro k hk
  rcases h.2 with ⟨rfl, rfl, rfl⟩ | ⟨g, cur, rfl, ho, hb, hnc, hm, hs, ht⟩
  · simp [Value.ownBlock] at hk
  · simp [Value.ownBlock] at hk
    subst hk
    exact ho
/-- what a slice in new memory gives -/
theorem OwnS.of_owns {v : Value} {H : Nat} (h : w.ownsRow 0 e size v n xs) (ho : ∀ k, v.ownBlock = some k → own k = i) : ∃ A c, v = .slice A n c ∧ OwnS w own i e size A n c xs := by
  rcases h.2 with ⟨rfl, rfl⟩ | ⟨g, cap, cur, rfl, _, hb, hnc, hm, hs, ht⟩
  · exact ⟨none, 0, rfl, h.1, .inl ⟨rfl, rfl, rfl⟩⟩
  · exact ⟨_, cap, rfl, h.1, .inr ⟨g, cur, rfl, ho g (by simp [Value.ownBlock]), hb, hnc, hm, hs, ht⟩⟩
end

theorem run_mine (t ty e : TypeId) (i : TypeInfo) (z : Value) (size bytes : Nat) (ht : P.underlying t = some (.slice e)) (hi : P.info? e = some i) (hz : i.zero = some z)
    (hsize : i.size = size) (hby : i.bytes = bytes) (hzs : z.cells.size = size) (hsz : 0 < size)
    (own : Nat → Nat) (k : Nat) (A : Option Addr) (n c : Nat) (xs : List Value) (hown : OwnS w own k e size A n c xs)
    (A2 : Option Addr) (m c' : Nat) (news : List Value) (hr : Rd w size A2 m news) (h1 : ∀ u ∈ news, u.oneCell' = true)
    (b1 : n + m ≤ maxLen) (b2 : (n + m) * bytes ≤ 140737488355328) :
    ∃ A' c2 w', (Builtin.append_ #[t, t] ty #[.slice A n c, .slice A2 m c']).run P w = .ok (.slice A' (n + m) c2) w' ∧
      OwnS w' (give own w.heap.size k) k e size A' (n + m) c2 (xs ++ news) ∧ Step k w own w' (give own w.heap.size k) := by
  rcases Nat.eq_zero_or_pos m with hm | hm
  · subst hm
    have hn : news = [] := List.eq_nil_of_length_eq_zero (by simpa using hr.1)
    subst hn
    refine ⟨A, c, w, run_app0 (P := P) w t ty e i size ht hi hsize A A2 n c c' hown.le, ?_, (Step.refl _ _ _).give_ k⟩
    simpa using hown.grown (World.grownBy.refl w none) (Nat.le_refl _)
  · obtain ⟨b, off, rfl, hc⟩ := hr.2 hm
    have hnews : ∀ j u, news[j]? = some u → w.cell? ((⟨b, off, none⟩ : Addr).add j) = some u := fun j u hu => by
      rw [add_lit]; exact hc j u hu
    obtain ⟨v', w', hrun, h2, h3, _, h5⟩ := run_append_own_at (P := P) w 0 t ty e i z size bytes ht hi hz hsize hby hzs hsz (.slice A n c) n xs hown.owns ⟨b, off, none⟩ m c' news hr.1 hnews h1 b1 b2 (Nat.zero_le _)
    have ho' : ∀ q, v'.ownBlock = some q → give own w.heap.size k q = k := by
      intro q hq
      rcases h5 with h5 | h5
      · rw [h5] at hq
        have hlt := (hown.owns.lt q hq).2
        rw [give_old hlt]; exact hown.owner q hq
      · rw [h5] at hq
        injection hq with hq
        exact give_new (by omega)
    obtain ⟨A', c2, rfl, hO⟩ := OwnS.of_owns (H := 0) h2 ho'
    exact ⟨A', c2, w', hrun, hO, ((Step.refl k w own).give_ k).grown h3 (fun q hq => by rw [give_old (hown.owns.lt q hq).2]; exact hown.owner q hq)⟩

theorem wpList_mine {w : World} {ops : Array Oper} {rest : List Oper} {o : Oper} {a : Act} {Q : Exit → Act → World → Prop}
    (hg : o.guard = none) (s x : Operand) (t : TypeId) (hop : o.op = Op.call { callee := Callee.builtin Builtin.append, args := #[s, x], argTypes := #[t, t] })
    (e : TypeId) (i : TypeInfo) (z : Value) (size bytes : Nat) (ht : P.underlying t = some (.slice e)) (hi : P.info? e = some i) (hz : i.zero = some z)
    (hsize : i.size = size) (hby : i.bytes = bytes) (hzs : z.cells.size = size) (hsz : 0 < size)
    (own : Nat → Nat) (k : Nat) (A : Option Addr) (n c : Nat) (xs : List Value) (hs : a.eval s = .slice A n c) (hown : OwnS w own k e size A n c xs)
    (A2 : Option Addr) (m c' : Nat) (news : List Value) (hx : a.eval x = .slice A2 m c') (hr : Rd w size A2 m news) (h1 : ∀ u ∈ news, u.oneCell' = true)
    (b1 : n + m ≤ maxLen) (b2 : (n + m) * bytes ≤ 140737488355328)
    (hK : ∀ A' c2 w' own', OwnS w' own' k e size A' (n + m) c2 (xs ++ news) → Step k w own w' own' → wpList P ops Q rest (a.put o.dst (.slice A' (n + m) c2)) w') : wpList P ops Q (o :: rest) a w := by
  refine wpList_plain hg fun K hK' => ?_
  obtain ⟨A', c2, w', hrun, r1, r2⟩ := run_mine (P := P) w t o.type e i z size bytes ht hi hz hsize hby hzs hsz own k A n c xs hown A2 m c' news hr h1 b1 b2
  unfold Oper.wp
  simp [execOp, hop, resolve, invoke, builtin, hs, hx, hrun, Result.andThen]
  exact hK' _ _ (hK A' c2 w' _ r1 r2)

theorem step_mine {w : World} {ops : Array Oper} {o : Oper} {a : Act} {K : Act → World → Prop} {Q : Exit → Act → World → Prop} {E : Prop}
    (hg : o.guard = none) (s x : Operand) (t : TypeId) (hop : o.op = Op.call { callee := Callee.builtin Builtin.append, args := #[s, x], argTypes := #[t, t] })
    (e : TypeId) (i : TypeInfo) (z : Value) (size bytes : Nat) (ht : P.underlying t = some (.slice e)) (hi : P.info? e = some i) (hz : i.zero = some z)
    (hsize : i.size = size) (hby : i.bytes = bytes) (hzs : z.cells.size = size) (hsz : 0 < size)
    (own : Nat → Nat) (k : Nat) (A : Option Addr) (n c : Nat) (xs : List Value) (hs : a.eval s = .slice A n c) (hown : OwnS w own k e size A n c xs)
    (A2 : Option Addr) (m c' : Nat) (news : List Value) (hx : a.eval x = .slice A2 m c') (hr : Rd w size A2 m news) (h1 : ∀ u ∈ news, u.oneCell' = true)
    (b1 : n + m ≤ maxLen) (b2 : (n + m) * bytes ≤ 140737488355328)
    (hK : ∀ A' c2 w' own', OwnS w' own' k e size A' (n + m) c2 (xs ++ news) → Step k w own w' own' → K (a.put o.dst (.slice A' (n + m) c2)) w') :
    if Region.wanted o (yielded ops a.tmps) = true then Oper.wp P o a w K Q else E := by
  have hw : Region.wanted o (yielded ops a.tmps) = true := by simp [Region.wanted, hg]
  rw [if_pos hw]
  obtain ⟨A', c2, w', hrun, r1, r2⟩ := run_mine (P := P) w t o.type e i z size bytes ht hi hz hsize hby hzs hsz own k A n c xs hown A2 m c' news hr h1 b1 b2
  unfold Oper.wp
  simp [execOp, hop, resolve, invoke, builtin, hs, hx, hrun, Result.andThen]
  exact hK A' c2 w' _ r1 r2

/-! ### clear -/
theorem run_clear (t ty e : TypeId) (i : TypeInfo) (z : Value) (ht : P.underlying t = some (.slice e)) (hi : P.info? e = some i) (hz : i.zero = some z)
    (hz1 : ∀ u ∈ z.cells, u.oneCell' = true) (g off n c : Nat) (cur : Array Value) (hg : Blk w g e cur) (hfit : off + n * z.cells.size ≤ cur.size) (hn : 0 < n)
    (hpos : 0 < z.cells.size) :
    ∃ cur' w', (Builtin.clear_ #[t] ty #[.slice (some ⟨g, off, none⟩) n c]).run P w = .ok (.tuple #[]) w' ∧ Blk w' g e cur' ∧ cur'.size = cur.size ∧ w.grownBy w' (some g) ∧
      ∀ j, off + n * z.cells.size ≤ j → cur'[j]? = cur[j]? := by
  have h1 : ∀ u ∈ (Builtin.zeroCells z.cells n).toList, u.oneCell' = true := by
    intro u hu
    unfold Builtin.zeroCells at hu
    simp only [Array.toList_map, List.mem_map] at hu
    obtain ⟨k, _, rfl⟩ := hu
    refine hz1 _ ?_
    rw [getElem!_pos z.cells (k % z.cells.size) (Nat.mod_lt _ hpos)]
    exact Array.getElem_mem _
  have hlen : (Builtin.zeroCells z.cells n).toList.length = n * z.cells.size := by simp [Builtin.zeroCells]
  have hst := run_storeCells_at P g off e (Builtin.zeroCells z.cells n).toList 0 cur w hg (by rw [hlen]; simpa using hfit) h1
  simp only [Nat.add_zero] at hst
  refine ⟨(cur.toList.take off ++ (Builtin.zeroCells z.cells n).toList ++ cur.toList.drop (off + (Builtin.zeroCells z.cells n).toList.length)).toArray,
    w.setRow g (cur.toList.take off ++ (Builtin.zeroCells z.cells n).toList ++ cur.toList.drop (off + (Builtin.zeroCells z.cells n).toList.length)).toArray, ?_, setRow_heap w g cur _ e _ hg, ?_, ⟨rfl, rfl, rfl, by simp, fun k _ hk => setRow_other w g k _ (fun e => hk (by rw [e]))⟩, ?_⟩
  · have hzero : (zeroValue e).run P w = .ok z w := by
      simp [zeroValue, typeInfo, hi, hz]
    obtain ⟨n', rfl⟩ : ∃ n', n = n' + 1 := ⟨n - 1, by omega⟩
    simp [Builtin.clear_, run_underlying ht, hzero, hst]
  · simp only [List.size_toArray, List.length_append, List.length_take, List.length_drop, hlen, Array.length_toList]
    omega
  · intro j hj
    simp only [List.getElem?_toArray]
    rw [List.append_assoc, List.getElem?_append_right (by simp; omega), List.getElem?_append_right (by simp only [List.length_take, Array.length_toList, hlen]; omega)]
    simp only [List.getElem?_drop, List.length_take, Array.length_toList, hlen, Array.getElem?_toList]
    congr 1
    omega

theorem run_clear0 (t ty : TypeId) (e : TypeId) (ht : P.underlying t = some (.slice e)) (A : Option Addr) (c : Nat) : (Builtin.clear_ #[t] ty #[.slice A 0 c]).run P w = .ok (.tuple #[]) w := by
  cases A <;> simp [Builtin.clear_, run_underlying ht]

theorem wpList_clear {w : World} {ops : Array Oper} {rest : List Oper} {o : Oper} {a : Act} {Q : Exit → Act → World → Prop}
    (hg : o.guard = none) (s : Operand) (t : TypeId) (hop : o.op = Op.call { callee := Callee.builtin Builtin.clear, args := #[s], argTypes := #[t] })
    (e : TypeId) (i : TypeInfo) (z : Value) (ht : P.underlying t = some (.slice e)) (hi : P.info? e = some i) (hz : i.zero = some z)
    (hz1 : ∀ u ∈ z.cells, u.oneCell' = true) (hpos : 0 < z.cells.size) (A : Option Addr) (n c : Nat) (hs : a.eval s = .slice A n c)
    (hA : 0 < n → ∃ b off cur, A = some ⟨b, off, none⟩ ∧ Blk w b e cur ∧ off + n * z.cells.size ≤ cur.size)
    (hK : ∀ w', (n = 0 → w = w') → (0 < n → ∃ b off cur cur', A = some ⟨b, off, none⟩ ∧ Blk w b e cur ∧ Blk w' b e cur' ∧ cur'.size = cur.size ∧ w.grownBy w' (some b) ∧ ∀ j, off + n * z.cells.size ≤ j → cur'[j]? = cur[j]?) →
      wpList P ops Q rest (a.put o.dst (.tuple #[])) w') : wpList P ops Q (o :: rest) a w := by
  refine wpList_plain hg fun K hK' => ?_
  rcases Nat.eq_zero_or_pos n with hn | hn
  · subst hn
    have hrun := run_clear0 (P := P) w t o.type e ht A c
    unfold Oper.wp
    simp [execOp, hop, resolve, invoke, builtin, hs, hrun, Result.andThen]
    exact hK' _ _ (hK w (fun _ => rfl) (fun h => absurd h (by omega)))
  · obtain ⟨b, off, cur, rfl, hb, hfit⟩ := hA hn
    obtain ⟨cur', w', hrun, r1, r2, r3, r4⟩ := run_clear (P := P) w t o.type e i z ht hi hz hz1 b off n c cur hb hfit hn hpos
    unfold Oper.wp
    simp [execOp, hop, resolve, invoke, builtin, hs, hrun, Result.andThen]
    exact hK' _ _ (hK w' (fun h => absurd h (by omega)) (fun _ => ⟨b, off, cur, cur', rfl, hb, r1, r2, r3, r4⟩))
end
end Go.Proofs.Ytihnldhdpiokhaa
