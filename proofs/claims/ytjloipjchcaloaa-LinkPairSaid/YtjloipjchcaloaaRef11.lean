/- The reference's receiver: its room, all that was taken, how many of them were popped. Contracts over a list. -/
import Derived.Test.YtjloipjchcaloaaLawOnce
import Derived.Test.YtjloipjchcaloaaOnto
namespace Go.Proofs.Ytjloipjchcaloaa
open Go.RowKit
set_option linter.unusedVariables false

theorem refNew_raw (room : Int) (w : World) :
    Calls Try.prog 27 #[.int .i64 room] w fun e w' => e = .returned (.pointer (some ⟨w.heap.size, 0, none⟩)) ∧ w.alloc (.cells #[.int .i64 (clampR room), .slice none 0 0, .int .i64 0] 55) = w' := by
  have key : ∀ a : Int, a = clampR room → w.alloc (.cells #[.int .i64 (clampR room), .slice none 0 0, .int .i64 0] 55) = w.alloc (.cells #[.int .i64 a, .slice none 0 0, .int .i64 0] 55) := by
    rintro a rfl; rfl
  have Key := Lib.hid key
  clear key
  go_enter Try.func27, Try.ntmps27
  go_wp2
  all_goals (go_ret; refine ⟨rfl, Key.out _ ?_⟩)
  all_goals (unfold clampR; (repeat' split) <;> omega)

section
variable (g : Nat) (A : Option Addr) (n c p : Nat) (room seq : Int) (w : World) (d : ByteArray)
theorem refHear_full (hn : n ≤ 300) (hp : p ≤ n) (hf : room ≤ (n : Int) - (p : Int)) (hb : Blk w g 55 #[.int .i64 room, .slice A n c, .int .i64 p]) :
    Calls Try.prog 31 #[.pointer (some ⟨g, 0, none⟩), .int .i64 seq, .string d] w fun e w' => e = .returned (.bool false) ∧ ∃ m, w.drewN m = w' := by
  have h0 := hb.cell 0
  have h1 := hb.cell 1
  have h2 := hb.cell 2
  simp only [List.getElem?_toArray, List.getElem?_cons_zero, List.getElem?_cons_succ] at h0 h1 h2
  clear hb
  have hw := wrapI ((n : Int) - (p : Int)) (by omega)
  have hd : decide (room ≤ (n : Int) - (p : Int)) = true := by simpa using hf
  go_enter Try.func31, Try.ntmps31
  go_wp2
  go_quiet (fail)
  go_wp2
  go_ret
  exact ⟨rfl, _, rfl⟩

theorem refHear_low (hn : n ≤ 300) (hp : p ≤ n) (hf : (n : Int) - (p : Int) < room) (hs : seq < 1) (hb : Blk w g 55 #[.int .i64 room, .slice A n c, .int .i64 p]) :
    Calls Try.prog 31 #[.pointer (some ⟨g, 0, none⟩), .int .i64 seq, .string d] w fun e w' => e = .returned (.bool false) ∧ ∃ m, w.drewN m = w' := by
  have h0 := hb.cell 0
  have h1 := hb.cell 1
  have h2 := hb.cell 2
  simp only [List.getElem?_toArray, List.getElem?_cons_zero, List.getElem?_cons_succ] at h0 h1 h2
  clear hb
  have hw := wrapI ((n : Int) - (p : Int)) (by omega)
  have hd : decide (room ≤ (n : Int) - (p : Int)) = false := by simp; omega
  have hd1 : decide (seq < 1) = true := by simpa using hs
  go_enter Try.func31, Try.ntmps31
  go_wp2
  go_quiet (fail)
  go_wp2
  go_ret
  exact ⟨rfl, _, rfl⟩

theorem refHear_other (hn : n ≤ 300) (hp : p ≤ n) (hf : (n : Int) - (p : Int) < room) (hs : 1 ≤ seq) (hs1 : seq ≤ 9223372036854775807) (hne : (seq - 1 != (n : Int)) = true) (hb : Blk w g 55 #[.int .i64 room, .slice A n c, .int .i64 p]) :
    Calls Try.prog 31 #[.pointer (some ⟨g, 0, none⟩), .int .i64 seq, .string d] w fun e w' => e = .returned (.bool false) ∧ ∃ m, w.drewN m = w' := by
  have h0 := hb.cell 0
  have h1 := hb.cell 1
  have h2 := hb.cell 2
  simp only [List.getElem?_toArray, List.getElem?_cons_zero, List.getElem?_cons_succ] at h0 h1 h2
  clear hb
  have hw := wrapI ((n : Int) - (p : Int)) (by omega)
  have hd : decide (room ≤ (n : Int) - (p : Int)) = false := by simp; omega
  have hd1 : decide (seq < 1) = false := by simp; omega
  have hw1 := wrapI (seq - 1) (by omega)
  go_enter Try.func31, Try.ntmps31
  go_wp2
  go_quiet (fail)
  go_wp2
  go_ret
  exact ⟨rfl, _, rfl⟩
end

/-- What Hear leaves where it takes a piece. -/
def RefHearOk (i g : Nat) (own : Nat → Nat) (room : Int) (n p : Nat) (xs : List Value) (d : ByteArray) (w : World) (e : Ending) (w' : World) : Prop :=
  e = .returned (.bool true) ∧ ∃ own' A' c', Step i w own w' own' ∧ own' g = i ∧ Blk w' g 55 #[.int .i64 room, .slice A' (n + 1) c', .int .i64 p] ∧ OwnS w' own' i 9 1 A' (n + 1) c' (xs ++ [.string d])

theorem refHear_fin {i g : Nat} {own : Nat → Nat} {A A2 : Option Addr} {n c c2 p : Nat} {room : Int} {xs : List Value} {w W w2 : World} {d : ByteArray} (st : Step i w own W own) (hog : own g = i)
    (hb : Blk W g 55 #[.int .i64 room, .slice A n c, .int .i64 p]) (hno : NewOwn 9 1 (xs ++ [.string d]) W A2 (n + 1) c2 w2) :
    RefHearOk i g own room n p xs d w (.returned (.bool true)) (w2.setCell ⟨g, 1, none⟩ (.slice A2 (n + 1) c2)) := by
  have hb2 := hb.grown hno.grown (by simp)
  have hgl := hb.lt
  have hO := hno.own own W.heap.size i (Nat.le_refl _)
  have hg2 : give own W.heap.size i g = i := by rw [give_old hgl]; exact hog
  refine ⟨rfl, give own W.heap.size i, A2, c2, (((st.give_ i).grown hno.grown (by simp)).setCell hg2 _), hg2, by simpa using hb2.set_ 1 (.slice A2 (n + 1) c2), ?_⟩
  refine ⟨hO.1, ?_⟩
  rcases hO.2 with h0 | ⟨q, cur, e1, e2, e3, e4⟩
  · exact .inl h0
  · refine .inr ⟨q, cur, e1, e2, e3.far (e3.ne_ hb2 (by decide)) _, e4⟩

set_option maxHeartbeats 1000000 in
set_option maxRecDepth 10000 in
theorem refHear_take (i g : Nat) (own : Nat → Nat) (A : Option Addr) (n c p : Nat) (room : Int) (xs : List Value) (w : World) (d : ByteArray) (hn : n ≤ 300) (hp : p ≤ n) (hf : (n : Int) - (p : Int) < room)
    (hb : Blk w g 55 #[.int .i64 room, .slice A n c, .int .i64 p]) (hog : own g = i) (hO : OwnS w own i 9 1 A n c xs) (h1c : ∀ u ∈ xs, u.oneCell' = true) :
    Calls Try.prog 31 #[.pointer (some ⟨g, 0, none⟩), .int .i64 ((n : Int) + 1), .string d] w (RefHearOk i g own room n p xs d w) := by
  obtain ⟨i0, hi, hz0, hz1, hz2⟩ := info_parts Try.info9
  have h0 := hb.cell 0
  have h1 := hb.cell 1
  have h2 := hb.cell 2
  simp only [List.getElem?_toArray, List.getElem?_cons_zero, List.getElem?_cons_succ] at h0 h1 h2
  have Hb := Lib.hid hb; clear hb
  have Hog := Lib.hid hog; clear hog
  have HO := Lib.hid hO; clear hO
  have H1c := Lib.hid h1c; clear h1c
  have hw := wrapI ((n : Int) - (p : Int)) (by omega)
  have hd : decide (room ≤ (n : Int) - (p : Int)) = false := by simp; omega
  have hd1 : decide ((n : Int) + 1 < 1) = false := by simp; omega
  have hw1 := wrapI ((n : Int) + 1 - 1) (by omega)
  have hne : ((n : Int) + 1 - 1 != (n : Int)) = false := by simp
  go_enter Try.func31, Try.ntmps31
  go_wp2
  go_quiet (fail)
  clear h0 h1 h2
  generalize hW : w.drewN nq = W
  have hbW : Blk W g 55 #[.int .i64 room, .slice A n c, .int .i64 p] := by rw [← hW]; exact Hb.out
  have hOW : OwnS W own i 9 1 A n c xs := by rw [← hW]; exact HO.out.drewN _
  have hstW : Step i w own W own := by rw [← hW]; exact (Step.refl i w own).drewN _
  have HW := Lib.hid hW; clear hW
  have hal1 : ∀ o : Obj, (W.alloc o).cell? ⟨g, 1, none⟩ = some (.slice A n c) := fun o => (hbW.alloc o).cell 1
  have HbW := Lib.hid hbW; clear hbW
  have HOW := Lib.hid hOW; clear hOW
  have HstW := Lib.hid hstW; clear hstW
  go_wp2_with (first | (at_builtin; refine wpList_copied rfl (.tmp 37) (.tmp 41) 22 rfl 9 i0 (.string ByteArray.empty) 1 16 Try.underlying22 hi hz0 hz1 hz2 rfl (by decide) _ A n c xs (by rfl) (by rfl) (HOW.out.row.rd.alloc (by omega) _) H1c.out (by unfold maxLen; omega) (by omega) ?_; intro A1 c1 w1 hcp; have Hcp := Lib.hid hcp; clear hcp) | (at_builtin; refine wpList_onto rfl (.tmp 42) (.tmp 44) 22 rfl 9 i0 (.string ByteArray.empty) 1 16 Try.underlying22 hi hz0 hz1 hz2 rfl (by decide) A1 n c1 xs (by rfl) Hcp.out HOW.out.len (World.grownBy_alloc w1 (.cells #[.string d] 9) none) w1.heap.size 1 1 9 [.string d] (by rfl) rfl (Blk.new _ _ _) (by simp [Value.oneCell']) (by omega) (by unfold maxLen; omega) (by omega) ?_; intro A2 c2 w2 hno; have hb2 := (HbW.out.alloc (.cells #[] 9)).grown hno.grown (by simp); have k2 : w2.cell? ⟨g, 1, none⟩ = some (.slice A n c) := hb2.cell 1; have f2 := hb2.free 1; clear hb2; have Hno := Lib.hid hno; clear hno))
  go_wp2
  go_ret
  exact refHear_fin HstW.out Hog.out HbW.out (Hno.out.behind (World.grownBy_alloc W _ none))

section
variable (g : Nat) (A : Option Addr) (n c p : Nat) (room : Int) (w : World)
theorem refPop_none (hn : n ≤ 300) (hp : p ≤ n) (hf : n ≤ p) (hb : Blk w g 55 #[.int .i64 room, .slice A n c, .int .i64 p]) :
    Calls Try.prog 33 #[.pointer (some ⟨g, 0, none⟩)] w fun e w' => e = .returned (.tuple #[.string ByteArray.empty, .bool false]) ∧ ∃ m, w.drewN m = w' := by
  have h1 := hb.cell 1
  have h2 := hb.cell 2
  simp only [List.getElem?_toArray, List.getElem?_cons_zero, List.getElem?_cons_succ] at h1 h2
  clear hb
  have hd : decide ((n : Int) ≤ (p : Int)) = true := by simpa using hf
  go_enter Try.func33, Try.ntmps33
  go_wp2
  go_quiet (fail)
  go_wp2
  go_ret2
  exact ⟨rfl, _, rfl⟩
end

/-- What Pop leaves where a piece waits. -/
def RefPopOk (i g : Nat) (own : Nat → Nat) (A : Option Addr) (n c p : Nat) (room : Int) (x : ByteArray) (w : World) (e : Ending) (w' : World) : Prop :=
  e = .returned (.tuple #[.string x, .bool true]) ∧ Step i w own w' own ∧ Blk w' g 55 #[.int .i64 room, .slice A n c, .int .i64 ((p : Int) + 1)] ∧ ∀ k, k ≠ g → w'.heap[k]? = w.heap[k]?

set_option maxHeartbeats 1000000 in
set_option maxRecDepth 10000 in
theorem refPop_some (i g : Nat) (own : Nat → Nat) (A : Option Addr) (n c p : Nat) (room : Int) (x : ByteArray) (w : World) (hn : n ≤ 300) (hp : p < n)
    (hb : Blk w g 55 #[.int .i64 room, .slice A n c, .int .i64 p]) (hog : own g = i) (b off : Nat) (hA : A = some ⟨b, off, none⟩) (hbg : b ≠ g) (hx : w.cell? ⟨b, off + p, none⟩ = some (.string x)) :
    Calls Try.prog 33 #[.pointer (some ⟨g, 0, none⟩)] w (RefPopOk i g own A n c p room x w) := by
  subst hA
  have h1 := hb.cell 1
  have h2 := hb.cell 2
  simp only [List.getElem?_toArray, List.getElem?_cons_zero, List.getElem?_cons_succ] at h1 h2
  have Hb := Lib.hid hb; clear hb
  have Hog := Lib.hid hog; clear hog
  have Hx := Lib.hid hx; clear hx
  have hd : decide ((n : Int) ≤ (p : Int)) = false := by simp; omega
  go_enter Try.func33, Try.ntmps33
  go_wp2
  go_quiet (fail)
  generalize hW : w.drewN nq = W
  have hbW : Blk W g 55 #[.int .i64 room, .slice (some ⟨b, off, none⟩) n c, .int .i64 p] := by rw [← hW]; exact Hb.out
  have hxW : W.cell? ⟨b, off + p, none⟩ = some (.string x) := by rw [← hW]; exact Hx.out
  have HW := Lib.hid hW; clear hW
  clear h1 h2
  have h2 : W.cell? ⟨g, 2, none⟩ = some (.int .i64 p) := hbW.cell 2
  have f2 := hbW.free 2
  have HbW := Lib.hid hbW; clear hbW
  have HxW := Lib.hid hxW; clear hxW
  go_wp2_with fail
  generalize hW2 : W.setCell _ _ = W2
  have hb2 : Blk W2 g 55 #[.int .i64 room, .slice (some ⟨b, off, none⟩) n c, .int .i64 ((p : Int) + 1)] := by rw [← hW2]; simpa using HbW.out.set_ 2 (.int .i64 ((p : Int) + 1))
  have hx2 : W2.cell? ⟨b, off + p, none⟩ = some (.string x) := by
    rw [← hW2]
    exact (World.cell?_of_block (w := W) (Below.heap_setCell _ _ _ _ hbg)).trans HxW.out
  have HW2 := Lib.hid hW2; clear hW2
  clear h2 f2
  have h1 : W2.cell? ⟨g, 1, none⟩ = some (.slice (some ⟨b, off, none⟩) n c) := hb2.cell 1
  have h2 : W2.cell? ⟨g, 2, none⟩ = some (.int .i64 ((p : Int) + 1)) := hb2.cell 2
  have Hb2 := Lib.hid hb2; clear hb2
  have hw := wrapI ((p : Int) + 1 - 1) (by omega)
  have hw2 : (p : Int) + 1 - 1 = (p : Int) := by omega
  go_quiet (fail)
  go_wp2
  go_ret2
  refine ⟨rfl, ?_, Hb2.out, ?_⟩
  · rw [← HW2.out, ← HW.out]
    exact (((Step.refl i w own).drewN _).setCell Hog.out _).drewN _
  · intro k hk
    rw [← HW2.out, ← HW.out]
    exact Below.heap_setCell _ _ _ _ hk

theorem look_fin {n cap' : Nat} {w w1 : World} {xs : List Value} {A' : Option Addr} {o : Obj} (h : Copied 9 1 xs (w.alloc o).drew A' n cap' w1) (hl : xs.length = n * 1) :
    LookOk n w xs (.returned (.slice A' n cap')) w1 :=
  ⟨A', cap', rfl, (NewRow.of_copied h hl).behind (grown_drew (World.grownBy_alloc w o none))⟩

set_option maxHeartbeats 1000000 in
set_option maxRecDepth 10000 in
theorem refLook_raw (g : Nat) (A : Option Addr) (n c p : Nat) (room : Int) (xs : List Value) (w : World) (hn : n ≤ 300) (hp : p ≤ n) (hnc : n ≤ c) (hcm : c ≤ maxLen)
    (hb : Blk w g 55 #[.int .i64 room, .slice A n c, .int .i64 p]) (hr : Rd w 1 A n xs) (h1c : ∀ u ∈ xs, u.oneCell' = true) (hA : A = none → c = 0) (hA2 : ∀ a, A = some a → ∃ b, a = ⟨b, 0, none⟩) :
    Calls Try.prog 36 #[.pointer (some ⟨g, 0, none⟩)] w (LookOk (n - p) w (xs.drop p)) := by
  obtain ⟨i0, hi, hz0, hz1, hz2⟩ := info_parts Try.info9
  have h1 := hb.cell 1
  have h2 := hb.cell 2
  simp only [List.getElem?_toArray, List.getElem?_cons_zero, List.getElem?_cons_succ] at h1 h2
  have hlt := hb.lt
  have Hb := Lib.hid hb; clear hb
  have Hr := Lib.hid hr; clear hr
  have H1c := Lib.hid h1c; clear h1c
  have hal1 : ∀ o : Obj, (w.alloc o).cell? ⟨g, 1, none⟩ = some (.slice A n c) := fun o => (World.cell?_alloc_lt w o _ hlt).trans h1
  have hal2 : ∀ o : Obj, (w.alloc o).cell? ⟨g, 2, none⟩ = some (.int .i64 p) := fun o => (World.cell?_alloc_lt w o _ hlt).trans h2
  cases A with
  | none =>
    have hc := hA rfl
    subst hc
    clear hA hA2
    have hx0 : xs = [] := List.eq_nil_of_length_eq_zero (by have := Hr.out.1; omega)
    subst hx0
    have hrd : ∀ o, Rd (w.alloc o) 1 none (n - p) (([] : List Value).drop p) := by
      intro o
      have hr2 := Hr.out.alloc (by omega) o
      exact ⟨by simp; omega, fun hpos => by omega⟩
    have hlen : (([] : List Value).drop p).length = (n - p) * 1 := by simp; omega
    have h1d : ∀ u ∈ ([] : List Value).drop p, u.oneCell' = true := fun u hu => by simp at hu
    have Hrd := Lib.hid hrd; clear hrd
    have Hlen := Lib.hid hlen; clear hlen
    have H1d := Lib.hid h1d; clear h1d
    go_enter Try.func36, Try.ntmps36
    go_wp2
    go_region_held3 (fun w' => w'.cell? ⟨g, 1, none⟩ = some (.slice none n 0) ∧ w'.cell? ⟨g, 2, none⟩ = some (.int .i64 p)) (first | (go_keep; done) | (constructor <;> assumption))
     ((refine step_copied rfl (.tmp 3) (.tmp 12) 22 rfl 9 i0 (.string ByteArray.empty) 1 16 Try.underlying22 hi hz0 hz1 hz2 rfl (by decide) (some ⟨w.heap.size, 0, none⟩) none (n - p) 0 (([] : List Value).drop p) ?x1 ?x2 ?x3 ?x4 ?x5 ?x6 ?x7
       case x1 => rfl
       case x2 => rfl
       case x3 => exact Hrd.out (.cells #[] 9)
       case x4 => exact H1d.out
       case x5 => (unfold maxLen; omega)
       case x6 => omega
       intro A1 c1 w1 hcp
       have hb1 := (Hb.out.alloc (.cells #[] 9)).drew.grown hcp.grown (by simp)
       have k1 : w1.cell? ⟨g, 1, none⟩ = some (.slice none n 0) := hb1.cell 1
       have k2 : w1.cell? ⟨g, 2, none⟩ = some (.int .i64 p) := hb1.cell 2
       clear hb1
       have Hcp := Lib.hid hcp
       clear hcp))
    all_goals go_wp2
    all_goals (go_ret; exact look_fin Hcp.out Hlen.out)
  | some a =>
    obtain ⟨b, rfl⟩ := hA2 a rfl
    clear hA hA2
    have hrd : ∀ o, Rd (w.alloc o) 1 (if c = p then some ⟨b, 0, none⟩ else some ⟨b, p, none⟩) (n - p) (xs.drop p) := by
      intro o
      have hr2 := Hr.out.alloc (by omega) o
      refine ⟨by have := hr2.1; simp; omega, fun hpos => ?_⟩
      rw [if_neg (by omega)]
      obtain ⟨b', off', e, hc⟩ := hr2.2 (by omega)
      injection e with e
      injection e with e1 e2
      subst e1; subst e2
      refine ⟨b, p, rfl, fun j u hj => ?_⟩
      rw [List.getElem?_drop] at hj
      have := hc _ u hj
      simpa using this
    have hlen : (xs.drop p).length = (n - p) * 1 := by have := Hr.out.1; simp; omega
    have h1d : ∀ u ∈ xs.drop p, u.oneCell' = true := fun u hu => H1c.out u (List.mem_of_mem_drop hu)
    have Hrd := Lib.hid hrd; clear hrd
    have Hlen := Lib.hid hlen; clear hlen
    have H1d := Lib.hid h1d; clear h1d
    go_enter Try.func36, Try.ntmps36
    go_wp2
    go_region_held3 (fun w' => w'.cell? ⟨g, 1, none⟩ = some (.slice (some ⟨b, 0, none⟩) n c) ∧ w'.cell? ⟨g, 2, none⟩ = some (.int .i64 p)) (first | (go_keep; done) | (constructor <;> assumption))
     ((refine step_copied rfl (.tmp 3) (.tmp 12) 22 rfl 9 i0 (.string ByteArray.empty) 1 16 Try.underlying22 hi hz0 hz1 hz2 rfl (by decide) (some ⟨w.heap.size, 0, none⟩) (if c = p then some ⟨b, 0, none⟩ else some ⟨b, p, none⟩) (n - p) (c - p) (xs.drop p) (by rfl) (by rfl) (by exact Hrd.out (.cells #[] 9)) H1d.out (by unfold maxLen; omega) (by omega) ?_
       intro A1 c1 w1 hcp
       have hb1 := (Hb.out.alloc (.cells #[] 9)).drew.grown hcp.grown (by simp)
       have k1 : w1.cell? ⟨g, 1, none⟩ = some (.slice (some ⟨b, 0, none⟩) n c) := hb1.cell 1
       have k2 : w1.cell? ⟨g, 2, none⟩ = some (.int .i64 p) := hb1.cell 2
       clear hb1
       have Hcp := Lib.hid hcp
       clear hcp))
    all_goals go_wp2
    all_goals (go_ret; exact look_fin Hcp.out Hlen.out)

/-- The reference's receiver stands as s. -/
def RefAt (w : World) (own : Nat → Nat) (i g : Nat) (s : Rcv) : Prop :=
  own g = i ∧ s.Ok ∧ ∃ (all : List ByteArray) (p : Nat) (A : Option Addr) (c : Nat), all.length = s.acked ∧ p ≤ all.length ∧ all.drop p = s.q ∧
    Blk w g 55 #[.int .i64 s.room, .slice A all.length c, .int .i64 p] ∧ OwnS w own i 9 1 A all.length c (all.map Value.string)

section
variable {w w' : World} {own own' : Nat → Nat} {i g : Nat} {s : Rcv}
theorem RefAt.keep (h : RefAt w own i g s) (hk : ∀ k, k < w.heap.size → own k = i → w'.heap[k]? = w.heap[k]? ∧ own' k = i) : RefAt w' own' i g s := by
  obtain ⟨ho, hok, all, p, A, c, h1, h2, h3, hb, hO⟩ := h
  have := hk g hb.lt ho
  exact ⟨this.2, hok, all, p, A, c, h1, h2, h3, hb.of_eq this.1, hO.keep hk⟩
theorem RefAt.other {j : Nat} (h : RefAt w own i g s) (st : Step j w own w' own') (hij : i ≠ j) : RefAt w' own' i g s := h.keep fun k hk ho => st.other hij hk ho
theorem RefAt.grown {b0 j : Nat} (h : RefAt w own i g s) (hg : w.grownBy w' none) (hb0 : w.heap.size ≤ b0) : RefAt w' (give own b0 j) i g s :=
  h.keep fun k hk ho => ⟨hg.block k hk (by simp), by rw [give_old (by omega)]; exact ho⟩
theorem RefAt.drewN (h : RefAt w own i g s) (n : Nat) : RefAt (w.drewN n) own i g s := h
theorem RefAt.drew (h : RefAt w own i g s) : RefAt w.drew own i g s := h
theorem RefAt.ok (h : RefAt w own i g s) : s.Ok := h.2.1
theorem RefAt.lt (h : RefAt w own i g s) : g < w.heap.size := by obtain ⟨_, _, _, _, _, _, _, _, _, hb, _⟩ := h; exact hb.lt
/-- the field All -/
theorem RefAt.all (h : RefAt w own i g s) : ∃ A c, w.cell? ⟨g, 1, none⟩ = some (.slice A s.acked c) := by
  obtain ⟨_, _, all, p, A, c, h1, _, _, hb, _⟩ := h
  refine ⟨A, c, ?_⟩
  have := hb.cell 1
  rw [h1] at this
  exact this
end

/-- A call hands back v, i's blocks alone have changed, and the reference's receiver stands as s. -/
def RefRet (i : Nat) (own : Nat → Nat) (w : World) (g : Nat) (v : Value) (s : Rcv) (e : Ending) (w' : World) : Prop :=
  e = .returned v ∧ ∃ own', Step i w own w' own' ∧ RefAt w' own' i g s

theorem ref_new (i : Nat) (own : Nat → Nat) (room : Int) (w : World) :
    Calls Try.prog 27 #[.int .i64 room] w (RefRet i own w w.heap.size (.pointer (some ⟨w.heap.size, 0, none⟩)) (Rcv.new room)) := by
  refine (refNew_raw room w).mono ?_
  rintro e w' ⟨rfl, rfl⟩
  have e1 : (((Rcv.new room).room : Nat) : Int) = clampR room := by simp only [Rcv.new, clampR]; (repeat' split) <;> omega
  refine ⟨rfl, give own w.heap.size i, ((Step.refl i w own).give_ i).alloc _, give_new (Nat.le_refl _), Rcv.new_ok room, [], 0, none, 0, rfl, by simp, rfl, ?_, OwnS.nil _ _ _ _ _⟩
  rw [e1]; exact Blk.new w 55 _

theorem ref_hear {i g : Nat} {own : Nat → Nat} {s : Rcv} {w : World} (h : RefAt w own i g s) (seq : Int) (d : ByteArray) (ha : s.acked ≤ 300) (hs1 : seq ≤ 9223372036854775807) :
    Calls Try.prog 31 #[.pointer (some ⟨g, 0, none⟩), .int .i64 seq, .string d] w (RefRet i own w g (.bool (s.takes seq)) (s.hear seq d)) := by
  have h' := h
  obtain ⟨ho, ⟨o1, o2, o3, o4⟩, all, p, A, c, e1, e2, e3, hb, hO⟩ := h
  have hq : s.q.length = all.length - p := by rw [← e3]; simp
  have quiet : s.takes seq = false → ∀ e w', (e = .returned (.bool false) ∧ ∃ m, w.drewN m = w') → RefRet i own w g (.bool (s.takes seq)) (s.hear seq d) e w' := by
    rintro ht e w' ⟨rfl, m, rfl⟩
    refine ⟨by rw [ht], own, (Step.refl i w own).drewN m, ?_⟩
    rw [Rcv.hear, ht]
    exact h'.drewN m
  by_cases hfull : s.q.length = s.room
  · exact (refHear_full g A all.length c p s.room seq w d (by omega) e2 (by omega) hb).mono (quiet (by simp [Rcv.takes, hfull]))
  · by_cases hlow : seq < 1
    · exact (refHear_low g A all.length c p s.room seq w d (by omega) e2 (by omega) hlow hb).mono (quiet (by simp [Rcv.takes]; omega))
    · by_cases hne : seq = (s.acked : Int) + 1
      · have ht : s.takes seq = true := by simp [Rcv.takes, hfull, hne]
        have hq' : (s.hear seq d) = { s with acked := s.acked + 1, q := s.q ++ [d] } := by rw [Rcv.hear, ht]; rfl
        have hok := s.hear_ok h'.ok seq d
        subst hne
        rw [ht]
        have e1' : (s.acked : Int) = (all.length : Int) := by omega
        rw [e1'] at hq' hok ⊢
        refine (refHear_take i g own A all.length c p s.room (all.map Value.string) w d (by omega) e2 (by omega) hb ho hO (by intro u hu; simp only [List.mem_map] at hu; obtain ⟨x, _, rfl⟩ := hu; rfl)).mono ?_
        rintro e w' ⟨rfl, own', A', c', st, ho', hb', hO'⟩
        refine ⟨rfl, own', st, ho', hok, all ++ [d], p, A', c', ?_, by simp; omega, ?_, ?_, ?_⟩
        · rw [hq']; simp; omega
        · rw [hq']; simp only; rw [List.drop_append_of_le_length e2, e3]
        · rw [hq']; simpa using hb'
        · simpa using hO'
      · exact (refHear_other g A all.length c p s.room seq w d (by omega) e2 (by omega) (by omega) hs1 (by simp; omega) hb).mono (quiet (by simp [Rcv.takes, hne]))

theorem ref_pop {i g : Nat} {own : Nat → Nat} {s : Rcv} {w : World} (h : RefAt w own i g s) (ha : s.acked ≤ 300) :
    Calls Try.prog 33 #[.pointer (some ⟨g, 0, none⟩)] w (RefRet i own w g (.tuple #[.string s.popV, .bool s.popB]) s.pop) := by
  have h' := h
  obtain ⟨ho, ⟨o1, o2, o3, o4⟩, all, p, A, c, e1, e2, e3, hb, hO⟩ := h
  have hqp : s.q.length = all.length - p := by rw [← e3]; simp
  cases hq : s.q with
  | nil =>
    have e0 : s.pop = s := by
      cases s; simp only at hq; subst hq; rfl
    rw [hq] at hqp
    refine (refPop_none g A all.length c p s.room w (by omega) e2 (by simp at hqp; omega) hb).mono ?_
    rintro e w' ⟨rfl, m, rfl⟩
    refine ⟨by simp [Rcv.popV, Rcv.popB, hq], own, (Step.refl _ _ _).drewN m, ?_⟩
    rw [e0]; exact h'.drewN m
  | cons x l =>
    have hlt : p < all.length := by rw [hq] at hqp; simp at hqp; omega
    have hx : all[p]? = some x := by
      have := congrArg (fun l => l[0]?) (e3.trans hq)
      simpa using this
    have hrd := hO.row
    obtain ⟨b, off, cs, hA, hob, hbb, hcells⟩ := hrd.2 (by omega)
    have hbg : b ≠ g := hbb.ne_ hb (by decide)
    have hcx : w.cell? ⟨b, off + p, none⟩ = some (.string x) := by
      rw [hbb.cell]
      exact hcells p _ (by simp [hx])
    refine (refPop_some i g own A all.length c p s.room x w (by omega) hlt hb ho b off hA hbg hcx).mono ?_
    rintro e w' ⟨rfl, st, hb', hother⟩
    refine ⟨by simp [Rcv.popV, Rcv.popB, hq], own, st, ho, s.pop_ok h'.ok, all, p + 1, A, c, e1, by omega, ?_, hb', ?_⟩
    · simp only [Rcv.pop]; rw [← e3, List.tail_drop]
    · refine ⟨hO.1, ?_⟩
      rcases hO.2 with h0 | ⟨q, cur, f1, f2, f3, f4⟩
      · exact .inl h0
      · exact .inr ⟨q, cur, f1, f2, f3.of_eq (hother q (f3.ne_ hb (by decide))), f4⟩

theorem ref_look {i g : Nat} {own : Nat → Nat} {s : Rcv} {w : World} (h : RefAt w own i g s) (ha : s.acked ≤ 300) :
    Calls Try.prog 36 #[.pointer (some ⟨g, 0, none⟩)] w (LookOk s.q.length w (s.q.map Value.string)) := by
  obtain ⟨ho, ⟨o1, o2, o3, o4⟩, all, p, A, c, e1, e2, e3, hb, hO⟩ := h
  have hqp : s.q.length = all.length - p := by rw [← e3]; simp
  rw [hqp, ← e3, List.map_drop]
  refine refLook_raw g A all.length c p s.room (all.map Value.string) w (by omega) e2 hO.le hO.max hb hO.row.rd (by intro u hu; simp only [List.mem_map] at hu; obtain ⟨x, _, rfl⟩ := hu; rfl) ?_ ?_
  · intro hA
    rcases hO.2 with ⟨_, _, h0⟩ | ⟨q, cur, f1, _⟩
    · exact h0
    · rw [hA] at f1; cases f1
  · intro a hA
    rcases hO.2 with ⟨h0, _, _⟩ | ⟨q, cur, f1, _⟩
    · rw [hA] at h0; cases h0
    · rw [hA] at f1; exact ⟨q, by injection f1⟩
end Go.Proofs.Ytjloipjchcaloaa
