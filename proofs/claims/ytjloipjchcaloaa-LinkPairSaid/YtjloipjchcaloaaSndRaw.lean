/- The sender's other methods over raw memory: Ack, Pieces, Unacked, Sent, New, Copy. -/
import Derived.Test.YtjloipjchcaloaaSndOffer
namespace Go.Proofs.Ytjloipjchcaloaa
open Go.RowKit
set_option linter.unusedVariables false

/-- What Ack leaves: the sender's block, the pieces behind the first 'gone'. -/
def AckOk (i g : Nat) (own : Nat → Nat) (n gone : Nat) (win sent last : Int) (w : World) (olds : List Value) (e : Ending) (w' : World) : Prop :=
  e = .returned (.int .i64 gone) ∧ Step i w own w' own ∧ ∃ A' cap', Blk w' g 98 #[.int .i64 win, .int .i64 last, .int .i64 sent, .slice A' (n - gone) cap'] ∧
    n - gone ≤ cap' ∧ Row w' own i 30 2 A' (n - gone) (olds.drop (gone * 2))

/-- more was sent than is told -/
theorem ack_more (i g : Nat) (own : Nat → Nat) (A : Option Addr) (n c : Nat) (win sent last k : Int) (w : World) (hk : sent < k)
    (hb : Blk w g 98 #[.int .i64 win, .int .i64 last, .int .i64 sent, .slice A n c]) :
    Calls Try.prog 22 #[.pointer (some ⟨g, 0, none⟩), .int .i64 k] w fun e w' => e = .returned (.int .i64 0) ∧ w = w' := by
  have h2 := hb.cell 2
  simp only [List.getElem?_toArray, List.getElem?_cons_zero, List.getElem?_cons_succ] at h2
  clear hb
  go_enter Try.func22, Try.ntmps22
  go_wp2
  go_ret
  exact ⟨rfl, rfl⟩

theorem ack_fin0 {i g : Nat} {own : Nat → Nat} {A : Option Addr} {c : Nat} {win sent last : Int} {w : World} (hog : own g = i)
    (hb : Blk w g 98 #[.int .i64 win, .int .i64 last, .int .i64 sent, .slice A 0 c]) : AckOk i g own 0 0 win sent last w [] (.returned (.int .i64 ((0 : Nat) : Int))) (w.setCell ⟨g, 3, none⟩ (.slice A 0 c)) := by
  refine ⟨rfl, (Step.refl i w own).setCell hog _, A, c, ?_, by omega, Row.nil _ _ _ _ _ _⟩
  simpa using hb.set_ 3 (.slice A 0 c)

set_option maxRecDepth 10000 in
set_option maxHeartbeats 1000000 in
/-- nothing waits -/
theorem ack_none (i g : Nat) (own : Nat → Nat) (A : Option Addr) (c : Nat) (win sent last k : Int) (w : World) (hk : k ≤ sent)
    (hb : Blk w g 98 #[.int .i64 win, .int .i64 last, .int .i64 sent, .slice A 0 c]) (hog : own g = i) :
    Calls Try.prog 22 #[.pointer (some ⟨g, 0, none⟩), .int .i64 k] w (AckOk i g own 0 0 win sent last w []) := by
  obtain ⟨i0, hi, hz0, hz1, hz2⟩ := info_parts Try.info30
  have h2 := hb.cell 2
  have h3 := hb.cell 3
  have f3 := hb.free 3
  simp only [List.getElem?_toArray, List.getElem?_cons_zero, List.getElem?_cons_succ] at h2 h3
  have Hb := Lib.hid hb; clear hb
  have Hog := Lib.hid hog; clear hog
  go_enter Try.func22, Try.ntmps22
  go_wp2
  refine wp_loop_rounds 1 ?_
  rw [rounds_succ]
  go_wp2_with ((with_reducible show wpList _ _ _ ((⟨none, .call _, _, _, _, _⟩ : Oper) :: _) _ _); (refine wpList_clear rfl (.tmp 38) 27 rfl 30 i0 (.agg #[.int .i64 0, .string ByteArray.empty]) Try.underlying27 hi hz0 (by simp [Value.cells, Value.oneCell']) (by simp [Value.cells]) A 0 c (by rfl) (fun h => absurd h (by omega)) ?_); intro w1 hw1 hw2; obtain rfl := hw1 rfl; clear hw2 hw1)
  go_ret
  exact ack_fin0 Hog.out Hb.out

/-- behind the clear another block is as it was -/
theorem clear_far {g b off gone : Nat} {w w1 : World} {t : TypeId} {cs : Array Value} (hb : Blk w g t cs) (hbg : g ≠ b)
    (h0 : gone = 0 → w = w1) (h1 : 0 < gone → ∃ b' off' cur cur', (some ⟨b, off, none⟩ : Option Addr) = some ⟨b', off', none⟩ ∧ Blk w b' 30 cur ∧ Blk w1 b' 30 cur' ∧ cur'.size = cur.size ∧ w.grownBy w1 (some b') ∧ ∀ j, off' + gone * 2 ≤ j → cur'[j]? = cur[j]?) : Blk w1 g t cs := by
  rcases Nat.eq_zero_or_pos gone with h | h
  · obtain rfl := h0 h
    exact hb
  · obtain ⟨b', off', cur, cur', e, r1, r2, r3, r4, r5⟩ := h1 h
    injection e with e
    injection e with e1 e2
    subst e1
    exact hb.grown r4 (by intro e; injection e with e; exact hbg e)

theorem ack_fin {i g : Nat} {own : Nat → Nat} {b off n c gone : Nat} {win sent last : Int} {w w1 : World} {olds : List Value} (hog : own g = i) (hob : own b = i)
    (hb : Blk w g 98 #[.int .i64 win, .int .i64 last, .int .i64 sent, .slice (some ⟨b, off, none⟩) n c]) {cs : Array Value} (hc : Blk w b 30 cs) (hnc : n ≤ c) (hgn : gone ≤ n)
    (hl : olds.length = n * 2) (hx : ∀ j u, olds[j]? = some u → cs[off + j]? = some u)
    (h0 : gone = 0 → w = w1) (h1 : 0 < gone → ∃ b' off' cur cur', (some ⟨b, off, none⟩ : Option Addr) = some ⟨b', off', none⟩ ∧ Blk w b' 30 cur ∧ Blk w1 b' 30 cur' ∧ cur'.size = cur.size ∧ w.grownBy w1 (some b') ∧ ∀ j, off' + gone * 2 ≤ j → cur'[j]? = cur[j]?)
    (A' : Option Addr) (n' c' : Nat) (hn' : n - gone = n') (hc' : n' ≤ c') (hA : A' = some ⟨b, off + gone * 2, none⟩ ∨ gone = n) :
    AckOk i g own n gone win sent last w olds (.returned (.int .i64 gone)) (w1.setCell ⟨g, 3, none⟩ (.slice A' n' c')) := by
  subst hn'
  have hbg : g ≠ b := hb.ne_ hc (by decide)
  have key : Step i w own w1 own ∧ Blk w1 g 98 #[.int .i64 win, .int .i64 last, .int .i64 sent, .slice (some ⟨b, off, none⟩) n c] ∧ ∃ cs', Blk w1 b 30 cs' ∧ ∀ j, off + gone * 2 ≤ j → cs'[j]? = cs[j]? := by
    rcases Nat.eq_zero_or_pos gone with h | h
    · obtain rfl := h0 h
      exact ⟨Step.refl _ _ _, hb, cs, hc, fun _ _ => rfl⟩
    · obtain ⟨b', off', cur, cur', e, r1, r2, r3, r4, r5⟩ := h1 h
      injection e with e
      injection e with e1 e2
      subst e1; subst e2
      have := hc.inj r1
      subst this
      exact ⟨(Step.refl _ _ _).grown r4 (fun k hk => by injection hk with hk; subst hk; exact hob), hb.grown r4 (by intro e; injection e with e; exact hbg e), cur', r2, r5⟩
  obtain ⟨s1, hb1, cs', hc1, hx1⟩ := key
  refine ⟨rfl, s1.setCell hog _, A', c', ?_, hc', ?_⟩
  · simpa using hb1.set_ 3 (.slice A' (n - gone) c')
  · refine ⟨by rw [List.length_drop, hl]; omega, fun hn => ?_⟩
    rcases hA with rfl | h
    · refine ⟨b, off + gone * 2, cs', rfl, hob, hc1.far (fun e => hbg e.symm) _, fun j u hu => ?_⟩
      rw [hx1 _ (by omega)]
      rw [List.getElem?_drop] at hu
      have := hx _ _ hu
      rw [show off + gone * 2 + j = off + (gone * 2 + j) by omega]
      exact this
    · omega

set_option maxRecDepth 10000 in
set_option maxHeartbeats 2000000 in
/-- some wait -/
theorem ack_some (i g b off : Nat) (own : Nat → Nat) (n c gone acked : Nat) (win sent last k : Int) (w : World) (hk : k ≤ sent)
    (hgone : (gone : Int) = max 0 (k - acked)) (hgn : gone ≤ n) (hn : n ≤ 16) (hn0 : 0 < n) (hnc : n ≤ c) (olds : List Value) (hl : olds.length = n * 2) (ha : acked ≤ 1125899906842624)
    (hseq : ∀ j, j < n → olds[j * 2]? = some (.int .i64 ((acked + j + 1 : Nat) : Int)))
    (hb : Blk w g 98 #[.int .i64 win, .int .i64 last, .int .i64 sent, .slice (some ⟨b, off, none⟩) n c]) (cs : Array Value) (hc : Blk w b 30 cs)
    (hx : ∀ j u, olds[j]? = some u → cs[off + j]? = some u) (hfit : off + n * 2 ≤ cs.size) (hog : own g = i) (hob : own b = i) :
    Calls Try.prog 22 #[.pointer (some ⟨g, 0, none⟩), .int .i64 k] w (AckOk i g own n gone win sent last w olds) := by
  obtain ⟨i0, hi, hz0, hz1, hz2⟩ := info_parts Try.info30
  have h2 := hb.cell 2
  have h3 := hb.cell 3
  have f3 := hb.free 3
  have hcell : ∀ j, j < n → w.cell? ⟨b, off + j * 2, none⟩ = some (.int .i64 ((acked : Int) + j + 1)) := fun j hj => by
    rw [hc.cell, hx _ _ (hseq j hj)]; simp
  simp only [List.getElem?_toArray, List.getElem?_cons_zero, List.getElem?_cons_succ] at h2 h3
  have hbg : g ≠ b := hb.ne_ hc (by decide)
  have Hbg := Lib.hid hbg; clear hbg
  have Hb := Lib.hid hb; clear hb
  have Hc := Lib.hid hc; clear hc
  have Hx := Lib.hid hx; clear hx
  have Hl := Lib.hid hl; clear hl
  have Hseq := Lib.hid hseq; clear hseq
  have Hog := Lib.hid hog; clear hog
  have Hob := Lib.hid hob; clear hob
  have Hcell := Lib.hid hcell; clear hcell
  have Hgone := Lib.hid hgone; clear hgone
  go_enter Try.func22, Try.ntmps22
  go_wp2
  go_loop [5] (fun v => ∃ j : Nat, j ≤ gone ∧ v = .int .i64 j) (fun v => gone - (intOf v).toNat)
  case atStart => exact ⟨0, by omega, rfl⟩
  case round =>
    obtain ⟨j, hj, rfl⟩ := hrel
    by_cases hlt : j < gone
    · have hcj := Hcell.out j (by omega)
      have hjn : j < n := by omega
      have hle : (acked : Int) + j + 1 ≤ k := by have := Hgone.out; omega
      go_wp2
      go_round
      case rel => exact ⟨j + 1, by omega, by go_num⟩
      case measure => simp [intOf]; omega
    · obtain rfl : j = gone := by omega
      by_cases hjn : j < n
      · have hcj := Hcell.out j (by omega)
        have hle : ¬ (acked : Int) + j + 1 ≤ k := by have := Hgone.out; omega
        go_wp2_with ((with_reducible show wpList _ _ _ ((⟨none, .call _, _, _, _, _⟩ : Oper) :: _) _ _); (refine wpList_clear rfl (.tmp 38) 27 rfl 30 i0 (.agg #[.int .i64 0, .string ByteArray.empty]) Try.underlying27 hi hz0 (by simp [Value.cells, Value.oneCell']) (by simp [Value.cells]) (some ⟨b, off, none⟩) j c (by rfl) (fun h => ⟨b, off, cs, rfl, Hc.out, by simp [Value.cells]; omega⟩) ?_); intro w1 hw1 hw2; have hbw1 := clear_far Hb.out Hbg.out hw1 hw2; have k3 := hbw1.cell 3; have e3 := hbw1.free 3; simp only [List.getElem?_toArray, List.getElem?_cons_zero, List.getElem?_cons_succ] at k3; clear hbw1; have HW1 := Lib.hid hw1; clear hw1; have HW2 := Lib.hid hw2; clear hw2)
        all_goals (go_ret; exact ack_fin Hog.out Hob.out Hb.out Hc.out hnc hgn Hl.out Hx.out HW1.out HW2.out _ _ _ (by omega) (by omega) (by first | exact Or.inr (by omega) | (refine Or.inl ?_; first | rfl | (rw [if_neg (by omega)]; rfl))))
      · obtain rfl : j = n := by omega
        go_wp2_with ((with_reducible show wpList _ _ _ ((⟨none, .call _, _, _, _, _⟩ : Oper) :: _) _ _); (refine wpList_clear rfl (.tmp 38) 27 rfl 30 i0 (.agg #[.int .i64 0, .string ByteArray.empty]) Try.underlying27 hi hz0 (by simp [Value.cells, Value.oneCell']) (by simp [Value.cells]) (some ⟨b, off, none⟩) j c (by rfl) (fun h => ⟨b, off, cs, rfl, Hc.out, by simp [Value.cells]; omega⟩) ?_); intro w1 hw1 hw2; have hbw1 := clear_far Hb.out Hbg.out hw1 hw2; have k3 := hbw1.cell 3; have e3 := hbw1.free 3; simp only [List.getElem?_toArray, List.getElem?_cons_zero, List.getElem?_cons_succ] at k3; clear hbw1; have HW1 := Lib.hid hw1; clear hw1; have HW2 := Lib.hid hw2; clear hw2)
        all_goals (go_ret; exact ack_fin Hog.out Hob.out Hb.out Hc.out hnc hgn Hl.out Hx.out HW1.out HW2.out _ _ _ (by omega) (by omega) (Or.inr rfl))

theorem unacked_raw (g : Nat) (A : Option Addr) (n c : Nat) (win last sent : Int) (w : World) (hb : Blk w g 98 #[.int .i64 win, .int .i64 last, .int .i64 sent, .slice A n c]) :
    Calls Try.prog 20 #[.pointer (some ⟨g, 0, none⟩)] w fun e w' => e = .returned (.int .i64 n) ∧ w = w' := by
  have h := hb.cell 3
  simp only [List.getElem?_toArray, List.getElem?_cons_zero, List.getElem?_cons_succ] at h
  clear hb
  go_enter Try.func20, Try.ntmps20
  go_wp2
  go_ret
  exact ⟨rfl, rfl⟩

theorem sent_raw (g : Nat) (A : Option Addr) (n c : Nat) (win last sent : Int) (w : World) (hb : Blk w g 98 #[.int .i64 win, .int .i64 last, .int .i64 sent, .slice A n c]) :
    Calls Try.prog 25 #[.pointer (some ⟨g, 0, none⟩)] w fun e w' => e = .returned (.int .i64 sent) ∧ w = w' := by
  have h := hb.cell 2
  simp only [List.getElem?_toArray, List.getElem?_cons_zero, List.getElem?_cons_succ] at h
  clear hb
  go_enter Try.func25, Try.ntmps25
  go_wp2
  go_ret
  exact ⟨rfl, rfl⟩

/-- the lesser of the greater ones -/
def clampI (n lo hi : Int) : Int := if n < lo then lo else if hi < n then hi else n

theorem new_raw (win last : Int) (w : World) :
    Calls Try.prog 18 #[.int .i64 win, .int .i64 last] w fun e w' => e = .returned (.pointer (some ⟨w.heap.size, 0, none⟩)) ∧
      w.alloc (.cells #[.int .i64 (clampI win 1 16), .int .i64 (clampI last 0 1125899906842624), .int .i64 0, .slice none 0 0] 98) = w' := by
  have hw : clampI win 1 16 = clampI win 1 16 := rfl
  have key : ∀ a b : Int, (a = clampI win 1 16 ∧ b = clampI last 0 1125899906842624) → w.alloc (.cells #[.int .i64 (clampI win 1 16), .int .i64 (clampI last 0 1125899906842624), .int .i64 0, .slice none 0 0] 98) = w.alloc (.cells #[.int .i64 a, .int .i64 b, .int .i64 0, .slice none 0 0] 98) := by
    rintro a b ⟨rfl, rfl⟩; rfl
  have Key := Lib.hid key
  clear hw key
  go_enter Try.func18, Try.ntmps18
  go_wp2
  all_goals (go_ret; refine ⟨rfl, Key.out _ _ ⟨?_, ?_⟩⟩)
  all_goals (unfold clampI; (repeat' split) <;> omega)

/-- What a method that copies the pieces hands back. -/
def PiecesOk (n : Nat) (w : World) (xs : List Value) (e : Ending) (w' : World) : Prop :=
  ∃ A' cap', e = .returned (.slice A' n cap') ∧ NewRow 30 2 xs w A' n cap' w'

theorem pieces_fin {n cap' : Nat} {w w1 : World} {xs : List Value} {A' : Option Addr} {o : Obj} (h : Copied 30 2 xs (w.alloc o) A' n cap' w1) (hl : xs.length = n * 2) :
    PiecesOk n w xs (.returned (.slice A' n cap')) w1 :=
  ⟨A', cap', rfl, (NewRow.of_copied h hl).behind (World.grownBy_alloc w o none)⟩

theorem pieces_raw (g : Nat) (A : Option Addr) (n c : Nat) (win last sent : Int) (w : World) (hn : n ≤ 16) (hb : Blk w g 98 #[.int .i64 win, .int .i64 last, .int .i64 sent, .slice A n c])
    (xs : List Value) (hr : Rd w 2 A n xs) (h1 : ∀ u ∈ xs, u.oneCell' = true) :
    Calls Try.prog 21 #[.pointer (some ⟨g, 0, none⟩)] w (PiecesOk n w xs) := by
  obtain ⟨i0, hi, hz0, hz1, hz2⟩ := info_parts Try.info30
  have h3 := hb.cell 3
  simp only [List.getElem?_toArray, List.getElem?_cons_zero, List.getElem?_cons_succ] at h3
  have hlt := hb.lt
  clear hb
  have H1 := Lib.hid h1; clear h1
  have Hr := Lib.hid hr; clear hr
  have hal3 : ∀ o : Obj, (w.alloc o).cell? ⟨g, 3, none⟩ = some (.slice A n c) := fun o => (World.cell?_alloc_lt w o _ hlt).trans h3
  go_enter Try.func21, Try.ntmps21
  go_wp2_with (at_builtin; refine wpList_copied rfl (.tmp 3) (.tmp 7) 27 rfl 30 i0 (.agg #[.int .i64 0, .string ByteArray.empty]) 2 24 Try.underlying27 hi hz0 hz1 hz2 rfl (by decide) _ A n c xs (by rfl) (by rfl) (Hr.out.alloc (by omega) _) H1.out (by unfold maxLen; omega) (by omega) ?_; intro A' cap' w1 hcp; have Hcp := Lib.hid hcp; clear hcp)
  go_ret
  exact pieces_fin Hcp.out Hr.out.1

/-- What Copy hands back: a new block, its pieces in new memory. -/
def CopyOk (n : Nat) (win last sent : Int) (w : World) (xs : List Value) (e : Ending) (w' : World) : Prop :=
  e = .returned (.pointer (some ⟨w.heap.size, 0, none⟩)) ∧ w.grownBy w' none ∧ ∃ A' cap', Blk w' w.heap.size 98 #[.int .i64 win, .int .i64 last, .int .i64 sent, .slice A' n cap'] ∧ n ≤ cap' ∧
    ∀ (own : Nat → Nat) (j : Nat), Row w' (give own w.heap.size j) j 30 2 A' n xs

theorem copy_fin {n cap' : Nat} {win last sent : Int} {w w1 : World} {xs : List Value} {A A' : Option Addr} {c : Nat}
    (h : NewRow 30 2 xs (w.alloc (.cells #[.int .i64 win, .int .i64 last, .int .i64 sent, .slice A n c] 98)) A' n cap' w1) :
    CopyOk n win last sent w xs (.returned (.pointer (some ⟨w.heap.size, 0, none⟩))) (w1.setCell ⟨w.heap.size, 3, none⟩ (.slice A' n cap')) := by
  have hb : Blk w1 w.heap.size 98 #[.int .i64 win, .int .i64 last, .int .i64 sent, .slice A n c] := (Blk.new w 98 _).grown h.grown (by simp)
  refine ⟨rfl, ?_, A', cap', ?_, h.le, fun own j => (h.row own w.heap.size j (by simp)).set_ hb (by decide) _ _⟩
  · have g1 := grown_tr (World.grownBy_alloc w (.cells #[.int .i64 win, .int .i64 last, .int .i64 sent, .slice A n c] 98) none) h.grown
    exact ⟨g1.os, g1.tape, g1.output, by have := g1.size; simp; exact this, fun k hk hn => (Below.heap_setCell _ _ _ _ (by simp; omega)).trans (g1.block k hk hn)⟩
  · simpa using hb.set_ 3 (.slice A' n cap')

theorem copy_raw (g : Nat) (A : Option Addr) (n c : Nat) (win last sent : Int) (w : World) (hn : n ≤ 16) (hb : Blk w g 98 #[.int .i64 win, .int .i64 last, .int .i64 sent, .slice A n c])
    (xs : List Value) (hr : Rd w 2 A n xs) (h1 : ∀ u ∈ xs, u.oneCell' = true) :
    Calls Try.prog 42 #[.pointer (some ⟨g, 0, none⟩)] w (CopyOk n win last sent w xs) := by
  have h0 := hb.cell 0
  have h1' := hb.cell 1
  have h2 := hb.cell 2
  have h3 := hb.cell 3
  simp only [List.getElem?_toArray, List.getElem?_cons_zero, List.getElem?_cons_succ] at h0 h1' h2 h3
  have hlt := hb.lt
  have Hb := Lib.hid hb; clear hb
  have H1 := Lib.hid h1; clear h1
  have Hr := Lib.hid hr; clear hr
  go_enter Try.func42, Try.ntmps42
  go_wp2_with fail
  refine (pieces_raw g A n c win last sent _ hn (Hb.out.alloc _) xs (Hr.out.alloc (by omega) _) H1.out).mono ?_
  rintro e w1 ⟨A', cap', rfl, hnr⟩
  have hbn : Blk w1 w.heap.size 98 #[.int .i64 win, .int .i64 last, .int .i64 sent, .slice A n c] := (Blk.new w 98 _).grown hnr.grown (by simp)
  have k3 : w1.cell? ⟨w.heap.size, 3, none⟩ = some (.slice A n c) := hbn.cell 3
  have e3 := hbn.free 3
  have Hnr := Lib.hid hnr
  clear hnr hbn
  go_wp2
  go_ret
  exact copy_fin Hnr.out
end Go.Proofs.Ytjloipjchcaloaa
