/- A store, or two, as they stand in a law's walk, with what else is held. -/
import Derived.Test.YtihnldhdpiokhaaSto2
import Derived.Test.YtihnldhdpiokhaaSto3
import Derived.Test.YtihnldhdpiokhaaUps
namespace Go.Proofs.Ytihnldhdpiokhaa
open Go.RowKit
set_option linter.unusedVariables false

abbrev Hold := World → (Nat → Nat) → Prop
/-- Before a store stands: X is held, nothing that was there when the call began has changed. -/
def Pre (w0 : World) (X : Hold) (w : World) : Prop := ∃ own, Base w0.heap.size w0 w own ∧ X w own
/-- The store at g stands as m. -/
def Stb (w0 : World) (g : Nat) (m : Vals) (n : Nat) (X : Hold) (w : World) : Prop := ∃ own, Base w0.heap.size w0 w own ∧ StAt w own 1 g m n ∧ X w own
/-- Two stores. -/
def Stw (w0 : World) (g : Nat) (m : Vals) (n : Nat) (r : Nat) (m' : Vals) (n' : Nat) (X : Hold) (w : World) : Prop := ∃ own, Base w0.heap.size w0 w own ∧ StAt w own 1 g m n ∧ StAt w own 2 r m' n' ∧ X w own

theorem base_old {w0 w : World} {own : Nat → Nat} (hB : Base w0.heap.size w0 w own) {size n : Nat} {A : Option Addr} {xs : List Value} (h : Rd w0 size A n xs) (hs : 0 < size) : Rd w size A n xs :=
  h.keep (fun b _ _ _ hb => hB.below.block b hb) hs
theorem kept_true : Kept (fun _ _ => True) := Kept.none
section
variable {w0 w w' : World} {g r n n' : Nat} {m m' : Vals} {X Y : Hold}
theorem Pre.start (w : World) : Pre w (fun _ _ => True) w := ⟨fun _ => 0, Base.start w, trivial⟩
theorem Pre.grown (h : Pre w0 X w) (hX : Kept X) (hg : w.grownBy w' none) : Pre w0 X w' := by
  obtain ⟨own, hB, hx⟩ := h
  have st := StepG.of_grown 4 own hg 40
  exact ⟨_, hB.stepG st (by omega), hX.step st (by omega) hx⟩
theorem Pre.alloc (h : Pre w0 X w) (hX : Kept X) (t : TypeId) (cs : Array Value) : Pre w0 (fun w' own => X w' own ∧ own w.heap.size = 31 ∧ Blk w' w.heap.size t cs) (w.alloc (.cells cs t)) := by
  obtain ⟨own, hB, hx⟩ := h
  have st := StepG.of_grown 4 own (World.grownBy_alloc w (.cells cs t) none) 31
  exact ⟨_, hB.stepG st (by omega), hX.step st (by omega) hx, give_new (Nat.le_refl _), Blk.new w t cs⟩
theorem Pre.end_ (h : Pre w0 X w) : w0.grownBy w none := by
  obtain ⟨own, hB, hx⟩ := h
  exact base_end hB rfl
theorem Pre.old (h : Pre w0 X w) {size k : Nat} {A : Option Addr} {xs : List Value} (hr : Rd w0 size A k xs) (hs : 0 < size) : Rd w size A k xs := by
  obtain ⟨own, hB, hx⟩ := h
  exact base_old hB hr hs
theorem Pre.new (h : Pre w0 X w) (hX : Kept X) : Calls Try.prog 24 #[] w (fun e w' => e = .returned (.pointer (some ⟨w.heap.size + 1, 0, none⟩)) ∧ Stb w0 (w.heap.size + 1) noVals 0 X w') := by
  obtain ⟨own, hB, hx⟩ := h
  refine (sto_new 1 own w).mono ?_
  rintro e w' ⟨he, own', st, hb⟩
  exact ⟨he, own', hB.stepG st (by omega), hb, hX.step st (by omega) hx⟩

theorem Stb.grown (h : Stb w0 g m n X w) (hX : Kept X) (hg : w.grownBy w' none) : Stb w0 g m n X w' := by
  obtain ⟨own, hB, hb, hx⟩ := h
  have st := StepG.of_grown 4 own hg 40
  exact ⟨_, hB.stepG st (by omega), hb.other st (by omega), hX.step st (by omega) hx⟩
theorem Stb.drewN (h : Stb w0 g m n X w) (hX : Kept X) (k : Nat) : Stb w0 g m n X (w.drewN k) := h.grown hX (grown_drewN w k)
theorem Stb.weaken (h : Stb w0 g m n X w) (hxy : ∀ w own, X w own → Y w own) : Stb w0 g m n Y w := by
  obtain ⟨own, hB, hb, hx⟩ := h
  exact ⟨own, hB, hb, hxy _ _ hx⟩
theorem Stb.alloc (h : Stb w0 g m n X w) (hX : Kept X) (t : TypeId) (cs : Array Value) : Stb w0 g m n (fun w' own => X w' own ∧ own w.heap.size = 31 ∧ Blk w' w.heap.size t cs) (w.alloc (.cells cs t)) := by
  obtain ⟨own, hB, hb, hx⟩ := h
  have st := StepG.of_grown 4 own (World.grownBy_alloc w (.cells cs t) none) 31
  exact ⟨_, hB.stepG st (by omega), hb.other st (by omega), hX.step st (by omega) hx, give_new (Nat.le_refl _), Blk.new w t cs⟩
theorem Stb.hold {e size k c : Nat} {xs : List Value} {A : Option Addr} (h : Stb w0 g m n X w) (hX : Kept X) (hn : NewRow e size xs w A k c w') : Stb w0 g m n (fun w' own => X w' own ∧ Row w' own 30 e size A k xs) w' := by
  obtain ⟨own, hB, hb, hx⟩ := h
  have st := StepG.of_grown 4 own hn.grown 30
  exact ⟨_, hB.stepG st (by omega), hb.other st (by omega), hX.step st (by omega) hx, hn.row own w.heap.size 30 (Nat.le_refl _)⟩
theorem Stb.blk {b ty : Nat} {cs : Array Value} (h : Stb w0 g m n X w) (hx : ∀ w own, X w own → Blk w b ty cs) : Blk w b ty cs := by
  obtain ⟨own, hB, hb, h3⟩ := h
  exact hx _ _ h3
theorem Stb.rd {j size k e : Nat} {A : Option Addr} {xs : List Value} (h : Stb w0 g m n X w) (hx : ∀ w own, X w own → Row w own j e size A k xs) : Rd w size A k xs := by
  obtain ⟨own, hB, hb, h3⟩ := h
  exact (hx _ _ h3).rd
theorem Stb.old (h : Stb w0 g m n X w) {size k : Nat} {A : Option Addr} {xs : List Value} (hr : Rd w0 size A k xs) (hs : 0 < size) : Rd w size A k xs := by
  obtain ⟨own, hB, _⟩ := h
  exact base_old hB hr hs
theorem Stb.end_ (h : Stb w0 g m n X w) : w0.grownBy w none := by
  obtain ⟨own, hB, _⟩ := h
  exact base_end hB rfl
theorem Stb.ok (h : Stb w0 g m n X w) : AllOk m := by
  obtain ⟨own, hB, hb, _⟩ := h
  exact hb.ok
theorem stb_do (h : Stb w0 g m n X w) (hX : Kept X) (u : Upd) (hk : u.key.size ≤ maxLen) (hs : u.s.size ≤ maxLen) (hn : n ≤ 1000000) :
    Calls Try.prog 20 #[.pointer (some ⟨g, 0, none⟩), uval u] w (fun e w' => e = .returned (.int .i64 (mayU u)) ∧ Stb w0 g (doM m u) (n + 1) X w') := by
  obtain ⟨own, hB, hb, hx⟩ := h
  refine (sto_do hb u hk hs (by unfold maxLen; omega)).mono ?_
  rintro e w' ⟨he, own', st, hb'⟩
  exact ⟨he, own', hB.stepG st (by omega), hb', hX.step st (by omega) hx⟩
theorem stb_get (h : Stb w0 g m n X w) (hX : Kept X) (k : ByteArray) (hk : k.size ≤ maxLen) (v : Val) (hv : m k = v) :
    Calls Try.prog 21 #[.pointer (some ⟨g, 0, none⟩), .string k] w (fun e w' => e = .returned (.agg #[.int .i64 v.kind, .int .i64 v.n, .string v.s]) ∧ Stb w0 g m n X w') := by
  subst hv
  obtain ⟨own, hB, hb, hx⟩ := h
  refine (sto_get hb k hk).mono ?_
  rintro e w' ⟨he, hg⟩
  exact ⟨he, Stb.grown ⟨own, hB, hb, hx⟩ hX hg⟩
theorem stb_len (h : Stb w0 g m n X w) {ks : List ByteArray} (hk : KeysOf m ks) (x : Int) (hx : ((ks.length : Nat) : Int) = x) : Calls Try.prog 22 #[.pointer (some ⟨g, 0, none⟩)] w (fun e w' => e = .returned (.int .i64 x) ∧ w = w') := by
  obtain ⟨own, hB, hb, _⟩ := h
  exact sto_len hb hk x hx
theorem stb_keys (h : Stb w0 g m n X w) (hX : Kept X) {ks : List ByteArray} (hk : KeysOf m ks) (hn : n ≤ 1000000) (q : Nat) (hq : ks.length = q) : Calls Try.prog 30 #[.pointer (some ⟨g, 0, none⟩)] w
    (fun e w' => ∃ A c, e = .returned (.slice A q c) ∧ Stb w0 g m n (fun w' own => X w' own ∧ Row w' own 30 9 1 A q (ks.map Value.string)) w') := by
  subst hq
  obtain ⟨own, hB, hb, hx⟩ := h
  refine (sto_keys hb hk hn).mono ?_
  rintro e w' ⟨A, c, he, hr⟩
  exact ⟨A, c, he, Stb.hold ⟨own, hB, hb, hx⟩ hX hr⟩
theorem Stb.copy (h : Stb w0 g m n X w) (hX : Kept X) : Calls Try.prog 32 #[.pointer (some ⟨g, 0, none⟩)] w (fun e w' => e = .returned (.pointer (some ⟨w.heap.size + 1, 0, none⟩)) ∧ Stw w0 g m n (w.heap.size + 1) m n X w') := by
  obtain ⟨own, hB, hb, hx⟩ := h
  refine (sto_copy hb 2).mono ?_
  rintro e w' ⟨he, own', st, hb'⟩
  exact ⟨he, own', hB.stepG st (by omega), hb.other st (by omega), hb', hX.step st (by omega) hx⟩
theorem Stb.new (h : Stb w0 g m n X w) (hX : Kept X) : Calls Try.prog 24 #[] w (fun e w' => e = .returned (.pointer (some ⟨w.heap.size + 1, 0, none⟩)) ∧ Stw w0 g m n (w.heap.size + 1) noVals 0 X w') := by
  obtain ⟨own, hB, hb, hx⟩ := h
  refine (sto_new 2 own w).mono ?_
  rintro e w' ⟨he, own', st, hb'⟩
  exact ⟨he, own', hB.stepG st (by omega), hb.other st (by omega), hb', hX.step st (by omega) hx⟩

theorem Stw.grown (h : Stw w0 g m n r m' n' X w) (hX : Kept X) (hg : w.grownBy w' none) : Stw w0 g m n r m' n' X w' := by
  obtain ⟨own, hB, hb, hr, hx⟩ := h
  have st := StepG.of_grown 4 own hg 40
  exact ⟨_, hB.stepG st (by omega), hb.other st (by omega), hr.other st (by omega), hX.step st (by omega) hx⟩
theorem Stw.drewN (h : Stw w0 g m n r m' n' X w) (hX : Kept X) (k : Nat) : Stw w0 g m n r m' n' X (w.drewN k) := h.grown hX (grown_drewN w k)
theorem Stw.weaken (h : Stw w0 g m n r m' n' X w) (hxy : ∀ w own, X w own → Y w own) : Stw w0 g m n r m' n' Y w := by
  obtain ⟨own, hB, hb, hr, hx⟩ := h
  exact ⟨own, hB, hb, hr, hxy _ _ hx⟩
theorem Stw.alloc (h : Stw w0 g m n r m' n' X w) (hX : Kept X) (t : TypeId) (cs : Array Value) : Stw w0 g m n r m' n' (fun w' own => X w' own ∧ own w.heap.size = 31 ∧ Blk w' w.heap.size t cs) (w.alloc (.cells cs t)) := by
  obtain ⟨own, hB, hb, hr, hx⟩ := h
  have st := StepG.of_grown 4 own (World.grownBy_alloc w (.cells cs t) none) 31
  exact ⟨_, hB.stepG st (by omega), hb.other st (by omega), hr.other st (by omega), hX.step st (by omega) hx, give_new (Nat.le_refl _), Blk.new w t cs⟩
theorem Stw.hold {e size k c : Nat} {xs : List Value} {A : Option Addr} (h : Stw w0 g m n r m' n' X w) (hX : Kept X) (hn : NewRow e size xs w A k c w') : Stw w0 g m n r m' n' (fun w' own => X w' own ∧ Row w' own 30 e size A k xs) w' := by
  obtain ⟨own, hB, hb, hr, hx⟩ := h
  have st := StepG.of_grown 4 own hn.grown 30
  exact ⟨_, hB.stepG st (by omega), hb.other st (by omega), hr.other st (by omega), hX.step st (by omega) hx, hn.row own w.heap.size 30 (Nat.le_refl _)⟩
theorem Stw.blk {b ty : Nat} {cs : Array Value} (h : Stw w0 g m n r m' n' X w) (hx : ∀ w own, X w own → Blk w b ty cs) : Blk w b ty cs := by
  obtain ⟨own, hB, hb, hr, h3⟩ := h
  exact hx _ _ h3
theorem Stw.rd {j size k e : Nat} {A : Option Addr} {xs : List Value} (h : Stw w0 g m n r m' n' X w) (hx : ∀ w own, X w own → Row w own j e size A k xs) : Rd w size A k xs := by
  obtain ⟨own, hB, hb, hr, h3⟩ := h
  exact (hx _ _ h3).rd
theorem Stw.old (h : Stw w0 g m n r m' n' X w) {size k : Nat} {A : Option Addr} {xs : List Value} (hr : Rd w0 size A k xs) (hs : 0 < size) : Rd w size A k xs := by
  obtain ⟨own, hB, _⟩ := h
  exact base_old hB hr hs
theorem Stw.end_ (h : Stw w0 g m n r m' n' X w) : w0.grownBy w none := by
  obtain ⟨own, hB, _⟩ := h
  exact base_end hB rfl
theorem stw_do1 (h : Stw w0 g m n r m' n' X w) (hX : Kept X) (u : Upd) (hk : u.key.size ≤ maxLen) (hs : u.s.size ≤ maxLen) (hn : n ≤ 1000000) :
    Calls Try.prog 20 #[.pointer (some ⟨g, 0, none⟩), uval u] w (fun e w' => e = .returned (.int .i64 (mayU u)) ∧ Stw w0 g (doM m u) (n + 1) r m' n' X w') := by
  obtain ⟨own, hB, hb, hr, hx⟩ := h
  refine (sto_do hb u hk hs (by unfold maxLen; omega)).mono ?_
  rintro e w' ⟨he, own', st, hb'⟩
  exact ⟨he, own', hB.stepG st (by omega), hb', hr.other st (by omega), hX.step st (by omega) hx⟩
theorem stw_do2 (h : Stw w0 g m n r m' n' X w) (hX : Kept X) (u : Upd) (hk : u.key.size ≤ maxLen) (hs : u.s.size ≤ maxLen) (hn : n' ≤ 1000000) :
    Calls Try.prog 20 #[.pointer (some ⟨r, 0, none⟩), uval u] w (fun e w' => e = .returned (.int .i64 (mayU u)) ∧ Stw w0 g m n r (doM m' u) (n' + 1) X w') := by
  obtain ⟨own, hB, hb, hr, hx⟩ := h
  refine (sto_do hr u hk hs (by unfold maxLen; omega)).mono ?_
  rintro e w' ⟨he, own', st, hr'⟩
  exact ⟨he, own', hB.stepG st (by omega), hb.other st (by omega), hr', hX.step st (by omega) hx⟩
theorem stw_get1 (h : Stw w0 g m n r m' n' X w) (hX : Kept X) (k : ByteArray) (hk : k.size ≤ maxLen) (v : Val) (hv : m k = v) :
    Calls Try.prog 21 #[.pointer (some ⟨g, 0, none⟩), .string k] w (fun e w' => e = .returned (.agg #[.int .i64 v.kind, .int .i64 v.n, .string v.s]) ∧ Stw w0 g m n r m' n' X w') := by
  subst hv
  obtain ⟨own, hB, hb, hr, hx⟩ := h
  refine (sto_get hb k hk).mono ?_
  rintro e w' ⟨he, hg⟩
  exact ⟨he, Stw.grown ⟨own, hB, hb, hr, hx⟩ hX hg⟩
theorem stw_get2 (h : Stw w0 g m n r m' n' X w) (hX : Kept X) (k : ByteArray) (hk : k.size ≤ maxLen) (v : Val) (hv : m' k = v) :
    Calls Try.prog 21 #[.pointer (some ⟨r, 0, none⟩), .string k] w (fun e w' => e = .returned (.agg #[.int .i64 v.kind, .int .i64 v.n, .string v.s]) ∧ Stw w0 g m n r m' n' X w') := by
  subst hv
  obtain ⟨own, hB, hb, hr, hx⟩ := h
  refine (sto_get hr k hk).mono ?_
  rintro e w' ⟨he, hg⟩
  exact ⟨he, Stw.grown ⟨own, hB, hb, hr, hx⟩ hX hg⟩
theorem stw_keys1 (h : Stw w0 g m n r m' n' X w) (hX : Kept X) {ks : List ByteArray} (hk : KeysOf m ks) (hn : n ≤ 1000000) (q : Nat) (hq : ks.length = q) : Calls Try.prog 30 #[.pointer (some ⟨g, 0, none⟩)] w
    (fun e w' => ∃ A c, e = .returned (.slice A q c) ∧ Stw w0 g m n r m' n' (fun w' own => X w' own ∧ Row w' own 30 9 1 A q (ks.map Value.string)) w') := by
  subst hq
  obtain ⟨own, hB, hb, hr, hx⟩ := h
  refine (sto_keys hb hk hn).mono ?_
  rintro e w' ⟨A, c, he, hrw⟩
  exact ⟨A, c, he, Stw.hold ⟨own, hB, hb, hr, hx⟩ hX hrw⟩
theorem stw_keys2 (h : Stw w0 g m n r m' n' X w) (hX : Kept X) {ks : List ByteArray} (hk : KeysOf m' ks) (hn : n' ≤ 1000000) (q : Nat) (hq : ks.length = q) : Calls Try.prog 30 #[.pointer (some ⟨r, 0, none⟩)] w
    (fun e w' => ∃ A c, e = .returned (.slice A q c) ∧ Stw w0 g m n r m' n' (fun w' own => X w' own ∧ Row w' own 30 9 1 A q (ks.map Value.string)) w') := by
  subst hq
  obtain ⟨own, hB, hb, hr, hx⟩ := h
  refine (sto_keys hr hk hn).mono ?_
  rintro e w' ⟨A, c, he, hrw⟩
  exact ⟨A, c, he, Stw.hold ⟨own, hB, hb, hr, hx⟩ hX hrw⟩
end
end Go.Proofs.Ytihnldhdpiokhaa
