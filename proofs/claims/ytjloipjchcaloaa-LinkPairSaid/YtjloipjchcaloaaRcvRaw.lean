/- The receiver (layer 11) over raw memory: New, place, Hear, Pop, Ack, Waiting, Look. -/
import Derived.Test.YtjloipjchcaloaaNew
import Derived.Test.YtjloipjchcaloaaRows
import Derived.WalkKit
import Derived.WalkLawsBesides
import Derived.WalkSpells
import Derived.Deep.QuietTactic
import Derived.BigQuiet
import Derived.Deep.RegionHeld3
namespace Go.Proofs.Ytjloipjchcaloaa
open Go.RowKit
set_option linter.unusedVariables false

/-- the twenty cells of a receiver -/
def rcells (room acked : Int) (ring : List ByteArray) (fr n : Int) : List Value := .int .i64 room :: .int .i64 acked :: (ring.map Value.string ++ [.int .i64 fr, .int .i64 n])

section
variable {room acked fr n : Int} {ring : List ByteArray}
theorem rcells_ring {j : Nat} (hj : j < ring.length) : (rcells room acked ring fr n)[j + 2]? = some (.string ring[j]) := by
  simp only [rcells, List.getElem?_cons_succ]
  rw [List.getElem?_append_left (by simpa using hj)]
  simp [hj]
theorem rcells_18 (h : ring.length = 16) : (rcells room acked ring fr n)[18]? = some (.int .i64 fr) := by
  simp only [rcells, List.getElem?_cons_succ]
  rw [List.getElem?_append_right (by simp [h])]
  simp [h]
theorem rcells_19 (h : ring.length = 16) : (rcells room acked ring fr n)[19]? = some (.int .i64 n) := by
  simp only [rcells, List.getElem?_cons_succ]
  rw [List.getElem?_append_right (by simp [h])]
  simp [h]
theorem rcells_set_ring {j : Nat} (hj : j < ring.length) (d : ByteArray) : (rcells room acked ring fr n).set (j + 2) (.string d) = rcells room acked (ring.set j d) fr n := by
  simp only [rcells, List.set_cons_succ]
  rw [List.set_append_left _ _ (by simpa using hj), List.map_set]
theorem rcells_set_1 (x : Int) : (rcells room acked ring fr n).set 1 (.int .i64 x) = rcells room x ring fr n := rfl
theorem rcells_set_18 (h : ring.length = 16) (x : Int) : (rcells room acked ring fr n).set 18 (.int .i64 x) = rcells room acked ring x n := by
  simp only [rcells, List.set_cons_succ]
  rw [List.set_append_right _ _ (by simp [h])]
  simp [h]
theorem rcells_set_19 (h : ring.length = 16) (x : Int) : (rcells room acked ring fr n).set 19 (.int .i64 x) = rcells room acked ring fr x := by
  simp only [rcells, List.set_cons_succ]
  rw [List.set_append_right _ _ (by simp [h])]
  simp [h]
end

/-- A receiver's block. -/
def RBlk (w : World) (g : Nat) (room acked : Int) (ring : List ByteArray) (fr n : Int) : Prop := Blk w g 101 (rcells room acked ring fr n).toArray ∧ ring.length = 16

section
variable {w : World} {g : Nat} {room acked fr n : Int} {ring : List ByteArray}
theorem RBlk.c0 (h : RBlk w g room acked ring fr n) : w.cell? ⟨g, 0, none⟩ = some (.int .i64 room) := (h.1.cell 0).trans rfl
theorem RBlk.c1 (h : RBlk w g room acked ring fr n) : w.cell? ⟨g, 1, none⟩ = some (.int .i64 acked) := (h.1.cell 1).trans rfl
theorem RBlk.c18 (h : RBlk w g room acked ring fr n) : w.cell? ⟨g, 18, none⟩ = some (.int .i64 fr) := (h.1.cell 18).trans (by simpa using rcells_18 h.2)
theorem RBlk.c19 (h : RBlk w g room acked ring fr n) : w.cell? ⟨g, 19, none⟩ = some (.int .i64 n) := (h.1.cell 19).trans (by simpa using rcells_19 h.2)
theorem RBlk.cr (h : RBlk w g room acked ring fr n) {j : Nat} (hj : j < ring.length) : w.cell? ⟨g, 2 + j, none⟩ = some (.string ring[j]) := (h.1.cell _).trans (by rw [Nat.add_comm]; simpa using rcells_ring hj)
theorem RBlk.free (h : RBlk w g room acked ring fr n) (j : Nat) : w.frozen? ⟨g, j, none⟩ = false := h.1.free j
theorem RBlk.set_ring (h : RBlk w g room acked ring fr n) {j : Nat} (hj : j < 16) (d : ByteArray) : RBlk (w.setCell ⟨g, 2 + j, none⟩ (.string d)) g room acked (ring.set j d) fr n := by
  have := h.1.set_ (2 + j) (.string d)
  rw [List.setIfInBounds_toArray, Nat.add_comm 2 j, rcells_set_ring (by rw [h.2]; exact hj)] at this
  exact ⟨by rw [Nat.add_comm]; exact this, by simpa using h.2⟩
theorem RBlk.set1 (h : RBlk w g room acked ring fr n) (x : Int) : RBlk (w.setCell ⟨g, 1, none⟩ (.int .i64 x)) g room x ring fr n := by
  have := h.1.set_ 1 (.int .i64 x)
  rw [List.setIfInBounds_toArray, rcells_set_1] at this
  exact ⟨this, h.2⟩
theorem RBlk.set18 (h : RBlk w g room acked ring fr n) (x : Int) : RBlk (w.setCell ⟨g, 18, none⟩ (.int .i64 x)) g room acked ring x n := by
  have := h.1.set_ 18 (.int .i64 x)
  rw [List.setIfInBounds_toArray, rcells_set_18 h.2] at this
  exact ⟨this, h.2⟩
theorem RBlk.set19 (h : RBlk w g room acked ring fr n) (x : Int) : RBlk (w.setCell ⟨g, 19, none⟩ (.int .i64 x)) g room acked ring fr x := by
  have := h.1.set_ 19 (.int .i64 x)
  rw [List.setIfInBounds_toArray, rcells_set_19 h.2] at this
  exact ⟨this, h.2⟩
theorem RBlk.drewN (h : RBlk w g room acked ring fr n) (m : Nat) : RBlk (w.drewN m) g room acked ring fr n := h
theorem RBlk.drew (h : RBlk w g room acked ring fr n) : RBlk w.drew g room acked ring fr n := h
end

theorem place_raw (g : Nat) (fr i : Int) (w : World) (h : w.cell? ⟨g, 18, none⟩ = some (.int .i64 fr)) (h0 : 0 ≤ fr) (h1 : fr < 16) (h2 : 0 ≤ i) (h3 : i ≤ 16) :
    Calls Try.prog 61 #[.pointer (some ⟨g, 0, none⟩), .int .i64 i] w fun e w' => e = .returned (.int .i64 ((fr + i) % 16)) ∧ w = w' := by
  go_enter Try.func61, Try.ntmps61
  go_wp2
  go_ret
  exact ⟨rfl, rfl⟩

theorem place_q (g : Nat) (fr i : Int) (w : World) (m : Nat) (h : w.cell? ⟨g, 18, none⟩ = some (.int .i64 fr)) (h0 : 0 ≤ fr) (h1 : fr < 16) (h2 : 0 ≤ i) (h3 : i ≤ 16) :
    Calls Try.prog 61 #[.pointer (some ⟨g, 0, none⟩), .int .i64 i] (w.drewN m) fun e w' => e = .returned (.int .i64 ((fr + i) % 16)) ∧ ∃ m', w' = w.drewN m' :=
  (place_raw g fr i (w.drewN m) h h0 h1 h2 h3).mono fun e w' ⟨a, b⟩ => ⟨a, m, b.symm⟩

theorem rack_raw (g : Nat) (acked : Int) (w : World) (h : w.cell? ⟨g, 1, none⟩ = some (.int .i64 acked)) :
    Calls Try.prog 34 #[.pointer (some ⟨g, 0, none⟩)] w fun e w' => e = .returned (.int .i64 acked) ∧ w = w' := by
  go_enter Try.func34, Try.ntmps34
  go_wp2
  go_ret
  exact ⟨rfl, rfl⟩

theorem waiting_raw (g : Nat) (n : Int) (w : World) (h : w.cell? ⟨g, 19, none⟩ = some (.int .i64 n)) :
    Calls Try.prog 35 #[.pointer (some ⟨g, 0, none⟩)] w fun e w' => e = .returned (.int .i64 n) ∧ w = w' := by
  go_enter Try.func35, Try.ntmps35
  go_wp2
  go_ret
  exact ⟨rfl, rfl⟩

def clampR (n : Int) : Int := if n < 1 then 1 else if 16 < n then 16 else n

theorem rnew_raw (room : Int) (w : World) :
    Calls Try.prog 26 #[.int .i64 room] w fun e w' => e = .returned (.pointer (some ⟨w.heap.size, 0, none⟩)) ∧
      w.alloc (.cells (rcells (clampR room) 0 (List.replicate 16 ByteArray.empty) 0 0).toArray 101) = w' := by
  have key : ∀ a : Int, a = clampR room → w.alloc (.cells (rcells (clampR room) 0 (List.replicate 16 ByteArray.empty) 0 0).toArray 101) = w.alloc (.cells #[.int .i64 a, .int .i64 0, .string { data := #[] }, .string { data := #[] }, .string { data := #[] }, .string { data := #[] }, .string { data := #[] }, .string { data := #[] }, .string { data := #[] }, .string { data := #[] }, .string { data := #[] }, .string { data := #[] }, .string { data := #[] }, .string { data := #[] }, .string { data := #[] }, .string { data := #[] }, .string { data := #[] }, .string { data := #[] }, .int .i64 0, .int .i64 0] 101) := by
    rintro a rfl; rfl
  have Key := Lib.hid key
  clear key
  go_enter Try.func26, Try.ntmps26
  go_wp2
  all_goals (go_ret; refine ⟨rfl, Key.out _ ?_⟩)
  all_goals (unfold clampR; (repeat' split) <;> omega)

/-- refused: no room -/
theorem hear_full (g : Nat) (room n seq : Int) (w : World) (d : ByteArray) (hn : (n == room) = true) (h0 : w.cell? ⟨g, 0, none⟩ = some (.int .i64 room)) (h19 : w.cell? ⟨g, 19, none⟩ = some (.int .i64 n)) :
    Calls Try.prog 30 #[.pointer (some ⟨g, 0, none⟩), .int .i64 seq, .string d] w fun e w' => e = .returned (.bool false) ∧ ∃ m, w.drewN m = w' := by
  go_enter Try.func30, Try.ntmps30
  go_wp2
  go_quiet (fail)
  go_wp2
  go_ret
  exact ⟨rfl, _, rfl⟩

/-- refused: another number is next -/
theorem hear_other (g : Nat) (room acked n seq : Int) (w : World) (d : ByteArray) (hn : (n == room) = false) (hs : (seq != acked + 1) = true) (ha0 : 0 ≤ acked) (ha : acked ≤ 1125899906842624)
    (h0 : w.cell? ⟨g, 0, none⟩ = some (.int .i64 room)) (h1 : w.cell? ⟨g, 1, none⟩ = some (.int .i64 acked)) (h19 : w.cell? ⟨g, 19, none⟩ = some (.int .i64 n)) :
    Calls Try.prog 30 #[.pointer (some ⟨g, 0, none⟩), .int .i64 seq, .string d] w fun e w' => e = .returned (.bool false) ∧ ∃ m, w.drewN m = w' := by
  go_enter Try.func30, Try.ntmps30
  go_wp2
  go_quiet (fail)
  go_wp2
  go_ret
  exact ⟨rfl, _, rfl⟩

/-- What Hear leaves where it takes a piece. -/
def HearOk (i g : Nat) (own : Nat → Nat) (room acked : Int) (ring : List ByteArray) (fr n : Int) (w : World) (d : ByteArray) (e : Ending) (w' : World) : Prop :=
  e = .returned (.bool true) ∧ Step i w own w' own ∧ RBlk w' g room (acked + 1) (ring.set ((fr + n) % 16).toNat d) fr (n + 1)

set_option maxHeartbeats 1000000 in
set_option maxRecDepth 10000 in
theorem hear_take (i g : Nat) (own : Nat → Nat) (room acked fr n : Int) (ring : List ByteArray) (w : World) (d : ByteArray) (hb : RBlk w g room acked ring fr n) (hog : own g = i)
    (hn : (n == room) = false) (ha0 : 0 ≤ acked) (ha : acked ≤ 1125899906842624) (hf0 : 0 ≤ fr) (hf : fr < 16) (hn0 : 0 ≤ n) (hn1 : n < 16) :
    Calls Try.prog 30 #[.pointer (some ⟨g, 0, none⟩), .int .i64 (acked + 1), .string d] w (HearOk i g own room acked ring fr n w d) := by
  have h0 := hb.c0
  have h1 := hb.c1
  have h18 := hb.c18
  have h19 := hb.c19
  have Hb := Lib.hid hb; clear hb
  have Hog := Lib.hid hog; clear hog
  obtain ⟨p, hp, hp16⟩ : ∃ p : Nat, (fr + n) % 16 = (p : Int) ∧ p < 16 := ⟨((fr + n) % 16).toNat, by omega, by omega⟩
  have Hp := Lib.hid hp; clear hp
  have hcp := Hb.out.cr (j := p) (by rw [Hb.out.2]; exact hp16)
  generalize ring[p]'(by rw [Hb.out.2]; exact hp16) = old at hcp
  have fp := Hb.out.free (2 + p)
  have hz0 : (0 : Int) ≤ (p : Int) := by omega
  have hz1 : (p : Int) < 16 := by omega
  have hplace : ∀ W : World, W.cell? ⟨g, 18, none⟩ = some (.int .i64 fr) → Calls Try.prog 61 #[.pointer (some ⟨g, 0, none⟩), .int .i64 n] W fun e w' => e = .returned (.int .i64 (p : Int)) ∧ W = w' := by
    intro W hW
    have := place_raw g fr n W hW hf0 hf hn0 (by omega)
    rw [Hp.out] at this
    exact this
  have Hpl := Lib.hid hplace; clear hplace
  go_enter Try.func30, Try.ntmps30
  go_wp2
  go_quiet (fail)
  go_wp2
  generalize hW : w.drewN nq = W
  have hbW : RBlk W g room acked ring fr n := by rw [← hW]; exact Hb.out
  have HW := Lib.hid hW; clear hW
  clear h0 h1 h18 h19 hcp fp
  have h18 := hbW.c18
  have h19 := hbW.c19
  have hcp := hbW.cr (j := p) (by rw [hbW.2]; exact hp16)
  generalize ring[p]'(by rw [hbW.2]; exact hp16) = old2 at hcp
  have fp := hbW.free (2 + p)
  have HbW := Lib.hid hbW; clear hbW
  have hkp : (W.setCell ⟨g, 2 + p, none⟩ (.string d)).drew.cell? ⟨g, 18, none⟩ = some (.int .i64 fr) ∧ (W.setCell ⟨g, 2 + p, none⟩ (.string d)).drew.cell? ⟨g, 19, none⟩ = some (.int .i64 n) := ⟨(HbW.out.set_ring hp16 d).drew.c18, (HbW.out.set_ring hp16 d).drew.c19⟩
  have Hkp := Lib.hid hkp; clear hkp
  have hne1 : ¬ 2 + p = 18 := by omega
  have hne2 : ¬ 2 + p = 19 := by omega
  go_region_held3 (fun w' => w'.cell? ⟨g, 18, none⟩ = some (.int .i64 fr) ∧ w'.cell? ⟨g, 19, none⟩ = some (.int .i64 n)) (first | (go_keep; done) | (exact Hkp.out))
    (first | (go_at_call 61; refine (Hpl.out _ (by assumption)).mono ?_; rintro e w' ⟨rfl, rfl⟩))
  generalize hW2 : (W.setCell _ _).drew = W2
  have hb2 : RBlk W2 g room acked (ring.set p d) fr n := by rw [← hW2]; exact (HbW.out.set_ring hp16 d).drew
  have HW2 := Lib.hid hW2; clear hW2
  clear h18 h19 hcp fp
  have h1 := hb2.c1
  have h19 := hb2.c19
  have f1 := hb2.free 1
  have f19 := hb2.free 19
  have Hb2 := Lib.hid hb2; clear hb2
  go_wp2
  go_ret
  refine ⟨rfl, ?_, ?_⟩
  · rw [← HW2.out, ← HW.out]
    exact ((((((Step.refl i w own).drewN _).setCell Hog.out _).drew).setCell Hog.out _).setCell Hog.out _)
  · rw [Hp.out, Int.toNat_natCast]
    exact (Hb2.out.set1 _).set19 _

theorem pop_none (g : Nat) (w : World) (h : w.cell? ⟨g, 19, none⟩ = some (.int .i64 0)) :
    Calls Try.prog 32 #[.pointer (some ⟨g, 0, none⟩)] w fun e w' => e = .returned (.tuple #[.string ByteArray.empty, .bool false]) ∧ w = w' := by
  go_enter Try.func32, Try.ntmps32
  go_wp2
  go_ret2
  exact ⟨rfl, rfl⟩

/-- What Pop leaves where a piece waits. -/
def PopOk (i g : Nat) (own : Nat → Nat) (room acked : Int) (ring : List ByteArray) (f : Nat) (n : Int) (x : ByteArray) (w : World) (e : Ending) (w' : World) : Prop :=
  e = .returned (.tuple #[.string x, .bool true]) ∧ Step i w own w' own ∧ RBlk w' g room acked (ring.set f ByteArray.empty) (((f : Int) + 1) % 16) (n - 1)

set_option maxHeartbeats 1000000 in
set_option maxRecDepth 10000 in
theorem pop_some (i g : Nat) (own : Nat → Nat) (room acked n : Int) (f : Nat) (ring : List ByteArray) (x : ByteArray) (w : World) (hb : RBlk w g room acked ring f n) (hog : own g = i) (hf : f < 16) (hx : ring[f]? = some x)
    (hn0 : 0 < n) (hn1 : n ≤ 16) :
    Calls Try.prog 32 #[.pointer (some ⟨g, 0, none⟩)] w (PopOk i g own room acked ring f n x w) := by
  have hnz : (n == 0) = false := by simp; omega
  have h18 := hb.c18
  have h19 := hb.c19
  have hcf : w.cell? ⟨g, 2 + f, none⟩ = some (.string x) := by
    have hl : f < ring.length := by rw [hb.2]; exact hf
    rw [hb.cr hl]
    rw [List.getElem?_eq_getElem hl] at hx
    injection hx with hx
    rw [hx]
  have Hb := Lib.hid hb; clear hb
  have Hog := Lib.hid hog; clear hog
  have Hx := Lib.hid hx; clear hx
  have hz0 : (0 : Int) ≤ (f : Int) := by omega
  have hz1 : (f : Int) < 16 := by omega
  go_enter Try.func32, Try.ntmps32
  go_wp2
  go_quiet (fail)
  go_wp2
  generalize hW : w.drewN nq = W
  have hbW : RBlk W g room acked ring f n := by rw [← hW]; exact Hb.out
  have hcf' : W.cell? ⟨g, 2 + f, none⟩ = some (.string x) := by rw [← hW]; exact hcf
  have HW := Lib.hid hW; clear hW
  clear h18 h19 hcf
  have h18 := hbW.c18
  have fp := hbW.free (2 + f)
  have HbW := Lib.hid hbW; clear hbW
  have hkp : (W.setCell ⟨g, 2 + f, none⟩ (.string ByteArray.empty)).drew.cell? ⟨g, 18, none⟩ = some (.int .i64 (f : Int)) := (HbW.out.set_ring hf ByteArray.empty).drew.c18
  have Hkp := Lib.hid hkp; clear hkp
  have hne1 : ¬ 2 + f = 18 := by omega
  go_region_held3 (fun w' => w'.cell? ⟨g, 18, none⟩ = some (.int .i64 (f : Int))) (first | (go_keep; done) | (exact Hkp.out)) (fail)
  generalize hW2 : (W.setCell _ _).drew = W2
  have hb2 : RBlk W2 g room acked (ring.set f ByteArray.empty) f n := by rw [← hW2]; exact (HbW.out.set_ring hf ByteArray.empty).drew
  have HW2 := Lib.hid hW2; clear hW2
  clear h18 hcf' fp
  have h18 := hb2.c18
  have h19 := hb2.c19
  have f18 := hb2.free 18
  have f19 := hb2.free 19
  have Hb2 := Lib.hid hb2; clear hb2
  go_wp2_with (go_at_call 61; refine (place_raw g f 1 W2 h18 (by omega) (by omega) (by omega) (by omega)).mono ?_; rintro e w' ⟨rfl, rfl⟩)
  go_ret2
  refine ⟨rfl, ?_, ?_⟩
  · rw [← HW2.out, ← HW.out]
    exact ((((((Step.refl i w own).drewN _).setCell Hog.out _).drew).setCell Hog.out _).setCell Hog.out _)
  · exact (Hb2.out.set18 _).set19 _

theorem Try.info9 : (Try.prog.info? 9).map (fun i => (i.zero, i.size, i.bytes)) = some (some (.string ByteArray.empty), 1, 16) := by kernel_rfl

/-- What a look hands back. -/
def LookOk (n : Nat) (w : World) (xs : List Value) (e : Ending) (w' : World) : Prop := ∃ A c, e = .returned (.slice A n c) ∧ NewRow 9 1 xs w A n c w'

theorem map_take_snoc {α β : Type} (f : α → β) (l : List α) (a : Nat) (h : a < l.length) : (l.take a).map f ++ [f l[a]] = (l.take (a + 1)).map f := by
  rw [List.take_succ_eq_append_getElem h, List.map_append]; rfl

set_option maxHeartbeats 2000000 in
set_option maxRecDepth 10000 in
theorem look_raw (g f : Nat) (room acked : Int) (ring q : List ByteArray) (w : World) (hb : RBlk w g room acked ring f q.length) (hf : f < 16) (hq : q.length ≤ 16)
    (hx : ∀ k, k < q.length → ring[(f + k) % 16]? = q[k]?) :
    Calls Try.prog 38 #[.pointer (some ⟨g, 0, none⟩)] w (LookOk q.length w (q.map Value.string)) := by
  obtain ⟨i0, hi, hz0, hz1, hz2⟩ := info_parts Try.info9
  have h19 := hb.c19
  have Hx := Lib.hid hx; clear hx
  generalize hN : q.length = n at *
  have HN := Lib.hid hN; clear hN
  have Hb := Lib.hid hb; clear hb
  go_enter Try.func38, Try.ntmps38
  go_wp2
  go_loopw [3, 9] (fun v i wr => ∃ k : Nat, ∃ A c own, k ≤ n ∧ i = .int .i64 k ∧ v = .slice A k c ∧ Step 1 w (fun _ => 0) wr own ∧ OwnS wr own 1 9 1 A k c ((q.take k).map Value.string)) (fun _ i _ => n - (intOf i).toNat)
  case atStart => exact ⟨0, none, 0, fun _ => 0, by omega, rfl, rfl, Step.refl _ _ _, OwnS.nil _ _ _ _ _⟩
  case round =>
    obtain ⟨k, A, c, own, hk, rfl, rfl, st, hO⟩ := hrel
    by_cases hlt : k < n
    · have hkl : k < q.length := by have := HN.out; omega
      obtain ⟨p, hp, hp16⟩ : ∃ p : Nat, p = (f + k) % 16 ∧ p < 16 := ⟨_, rfl, by omega⟩
      have hpi : ((f : Int) + (k : Int)) % 16 = (p : Int) := by omega
      obtain ⟨y, hy⟩ : ∃ y, y = q[k] := ⟨_, rfl⟩
      have hxk := Hx.out k (by omega)
      rw [List.getElem?_eq_getElem hkl, ← hy, ← hp] at hxk
      have Hy := Lib.hid hy; clear hy
      have Hp := Lib.hid hp; clear hp
      have Hpi := Lib.hid hpi; clear hpi
      have hbr : RBlk wr g room acked ring f n := ⟨Hb.out.1.grown (grown_of_step st (by omega)) (by simp), Hb.out.2⟩
      have hcp : wr.cell? ⟨g, 2 + p, none⟩ = some (.string y) := by
        have hl : p < ring.length := by rw [hbr.2]; exact hp16
        rw [hbr.cr hl]
        rw [List.getElem?_eq_getElem hl] at hxk
        injection hxk with hxk
        rw [hxk]
      clear hxk
      have h18 := hbr.c18
      have hglt := hbr.1.lt
      have hown0 : own g = 0 := st.own g (by have := Hb.out.1.lt; omega)
      have Hbr := Lib.hid hbr; clear hbr
      have hal18 : ∀ o : Obj, (wr.alloc o).cell? ⟨g, 18, none⟩ = some (.int .i64 (f : Int)) := fun o => (World.cell?_alloc_lt wr o _ hglt).trans h18
      have halp : ∀ o : Obj, (wr.alloc o).cell? ⟨g, 2 + p, none⟩ = some (.string y) := fun o => (World.cell?_alloc_lt wr o _ hglt).trans hcp
      have Hown0 := Lib.hid hown0; clear hown0
      have hzp0 : (0 : Int) ≤ (p : Int) := by omega
      have hzp1 : (p : Int) < 16 := by omega
      have Hst := Lib.hid st; clear st
      have HO := Lib.hid hO; clear hO
      have hplace : ∀ W : World, W.cell? ⟨g, 18, none⟩ = some (.int .i64 (f : Int)) → Calls Try.prog 61 #[.pointer (some ⟨g, 0, none⟩), .int .i64 (k : Int)] W fun e w' => e = .returned (.int .i64 (p : Int)) ∧ W = w' := by
        intro W hW
        have := place_raw g f k W hW (by omega) (by omega) (by omega) (by omega)
        rw [Hpi.out] at this
        exact this
      have Hpl := Lib.hid hplace; clear hplace
      go_wp2
      go_region_held3 (fun w' => w'.cell? ⟨g, 18, none⟩ = some (.int .i64 (f : Int)) ∧ w'.cell? ⟨g, 2 + p, none⟩ = some (.string y)) (first | (go_keep; done) | (constructor <;> assumption))
       (first
        | (go_at_call 61; refine (Hpl.out _ (by assumption)).mono ?_; rintro e w' ⟨rfl, rfl⟩)
        | (refine step_mine rfl (.tmp 12) (.tmp 21) 22 rfl 9 i0 (.string ByteArray.empty) 1 16 Try.underlying22 hi hz0 hz1 hz2 rfl (by decide) own 1 A k c _ (by rfl) ((HO.out.alloc _).drewN 1) (some ⟨wr.heap.size, 0, none⟩) 1 1 [.string y] (by rfl) (Rd.of_blk ((Blk.new wr 9 _).drewN 1) (by simp) (fun j u h => by simpa using h)) (by simp [Value.oneCell']) (by unfold maxLen; omega) (by omega) ?_
           intro A2 c2 w2 own2 hO2 st2
           have st12 := (((Step.refl 1 wr own).alloc (.cells #[.string y] 9)).drewN 1).trans st2
           have hb2 : RBlk w2 g room acked ring f n := ⟨Hbr.out.1.of_eq (st12.heap g hglt (by rw [Hown0.out]; omega)), Hbr.out.2⟩
           have k18 := hb2.c18
           have kp : w2.cell? ⟨g, 2 + p, none⟩ = some (.string y) := (World.cell?_of_block (w := wr) (st12.heap g hglt (by rw [Hown0.out]; omega))).trans hcp
           clear hb2
           have Hst12 := Lib.hid st12
           clear st12 st2
           have HO2 := Lib.hid hO2
           clear hO2))
      go_wp2
      have e7 : (q.take k).map Value.string ++ [.string y] = (q.take (k + 1)).map Value.string := by
        rw [Hy.out]; exact map_take_snoc _ q k hkl
      have hO3 := HO2.out
      rw [e7] at hO3
      go_roundw
      case rel => exact ⟨k + 1, A2, c2, own2, by omega, by go_num, rfl, Hst.out.trans Hst12.out, hO3⟩
      case measure => simp [intOf]; omega
    · obtain rfl : k = n := by omega
      have hfull : (q.take k).map Value.string = q.map Value.string := by rw [← HN.out, List.take_length]
      rw [hfull] at hO
      clear hfull
      have Hst := Lib.hid st; clear st
      have HO := Lib.hid hO; clear hO
      go_wp2
      go_ret
      exact ⟨A, c, rfl, NewRow.of_mine Hst.out HO.out⟩
end Go.Proofs.Ytjloipjchcaloaa
