/- The reference's sender: its bounds, all that was offered, how far it is acknowledged. Contracts over the state Snd. -/
import Derived.Test.YtjloipjchcaloaaOnto
import Derived.Test.YtjloipjchcaloaaAw10
namespace Go.Proofs.Ytjloipjchcaloaa
open Go.RowKit
set_option linter.unusedVariables false

theorem clamp_raw (n lo hi : Int) (w : World) (h : lo ≤ hi) : Calls Try.prog 62 #[.int .i64 n, .int .i64 lo, .int .i64 hi] w fun e w' => e = .returned (.int .i64 (clampI n lo hi)) ∧ w = w' := by
  have key : ∀ a : Int, a = clampI n lo hi → Value.int .i64 a = Value.int .i64 (clampI n lo hi) := by rintro a rfl; rfl
  have Key := Lib.hid key; clear key
  go_enter Try.func62, Try.ntmps62
  go_wp2
  all_goals (go_ret; refine ⟨congrArg Ending.returned (Key.out _ ?_), rfl⟩)
  all_goals (unfold clampI; (repeat' split) <;> omega)

theorem ref10New_raw (win last : Int) (w : World) :
    Calls Try.prog 39 #[.int .i64 win, .int .i64 last] w fun e w' => e = .returned (.pointer (some ⟨w.heap.size, 0, none⟩)) ∧
      w.alloc (.cells #[.int .i64 (clampI win 1 16), .int .i64 (clampI last 0 1125899906842624), .slice none 0 0, .int .i64 0] 104) = w' := by
  go_enter Try.func39, Try.ntmps39
  go_wp2_with fail
  refine (clamp_raw win 1 16 w (by omega)).mono ?_
  rintro e w' ⟨rfl, rfl⟩
  go_wp2_with fail
  refine (clamp_raw last 0 1125899906842624 w (by omega)).mono ?_
  rintro e w' ⟨rfl, rfl⟩
  go_wp2
  go_ret
  exact ⟨rfl, rfl⟩

section
variable (g : Nat) (A : Option Addr) (n c p : Nat) (win last seq : Int) (w : World) (d : ByteArray)
theorem ref10_full (hn : n ≤ 300) (hp : p ≤ n) (hf : win ≤ (n : Int) - (p : Int)) (hb : Blk w g 104 #[.int .i64 win, .int .i64 last, .slice A n c, .int .i64 p]) :
    Calls Try.prog 40 #[.pointer (some ⟨g, 0, none⟩), .string d] w fun e w' => e = .returned (.tuple #[.int .i64 0, .int .i64 7]) ∧ ∃ m, w.drewN m = w' := by
  have h0 := hb.cell 0
  have h2 := hb.cell 2
  have h3 := hb.cell 3
  simp only [List.getElem?_toArray, List.getElem?_cons_zero, List.getElem?_cons_succ] at h0 h2 h3
  clear hb
  have hw := wrapI ((n : Int) - (p : Int)) (by omega)
  have hd : decide (win ≤ (n : Int) - (p : Int)) = true := by simpa using hf
  go_enter Try.func40, Try.ntmps40
  go_wp2
  go_quiet (fail)
  go_wp2
  go_ret2
  exact ⟨rfl, _, rfl⟩

theorem ref10_exh (hn : n ≤ 300) (hp : p ≤ n) (hf : (n : Int) - (p : Int) < win) (hl : last ≤ (n : Int)) (hb : Blk w g 104 #[.int .i64 win, .int .i64 last, .slice A n c, .int .i64 p]) :
    Calls Try.prog 40 #[.pointer (some ⟨g, 0, none⟩), .string d] w fun e w' => e = .returned (.tuple #[.int .i64 0, .int .i64 8]) ∧ ∃ m, w.drewN m = w' := by
  have h0 := hb.cell 0
  have h1 := hb.cell 1
  have h2 := hb.cell 2
  have h3 := hb.cell 3
  simp only [List.getElem?_toArray, List.getElem?_cons_zero, List.getElem?_cons_succ] at h0 h1 h2 h3
  clear hb
  have hw := wrapI ((n : Int) - (p : Int)) (by omega)
  have hd : decide (win ≤ (n : Int) - (p : Int)) = false := by simp; omega
  have hd1 : decide (last ≤ (n : Int)) = true := by simpa using hl
  go_enter Try.func40, Try.ntmps40
  go_wp2
  go_quiet (fail)
  go_wp2
  go_quiet (fail)
  go_wp2
  go_ret2
  exact ⟨rfl, _, (World.drewN_drewN _ _ _).symm⟩

theorem ref10_ack_none (hn : n ≤ 300) (hp : p ≤ n) (hf : (n : Int) < seq ∨ seq ≤ (p : Int)) (hb : Blk w g 104 #[.int .i64 win, .int .i64 last, .slice A n c, .int .i64 p]) :
    Calls Try.prog 41 #[.pointer (some ⟨g, 0, none⟩), .int .i64 seq] w fun e w' => e = .returned (.int .i64 0) ∧ w = w' := by
  have h2 := hb.cell 2
  have h3 := hb.cell 3
  simp only [List.getElem?_toArray, List.getElem?_cons_zero, List.getElem?_cons_succ] at h2 h3
  clear hb
  go_enter Try.func41, Try.ntmps41
  rcases hf with hf | hf
  · go_wp2
    go_ret
    exact ⟨rfl, rfl⟩
  · have hf' : ¬ (n : Int) < seq := by omega
    go_wp2
    go_ret
    exact ⟨rfl, rfl⟩

theorem ref10_ack_some (hn : n ≤ 300) (hp : p ≤ n) (hf : seq ≤ (n : Int)) (hf2 : (p : Int) < seq) (hb : Blk w g 104 #[.int .i64 win, .int .i64 last, .slice A n c, .int .i64 p]) :
    Calls Try.prog 41 #[.pointer (some ⟨g, 0, none⟩), .int .i64 seq] w fun e w' => e = .returned (.int .i64 (seq - p)) ∧ w.setCell ⟨g, 3, none⟩ (.int .i64 seq) = w' := by
  have h2 := hb.cell 2
  have h3 := hb.cell 3
  have f3 := hb.free 3
  simp only [List.getElem?_toArray, List.getElem?_cons_zero, List.getElem?_cons_succ] at h2 h3
  clear hb
  go_enter Try.func41, Try.ntmps41
  go_wp2
  go_ret
  exact ⟨rfl, rfl⟩
end

/-- What Offer leaves where it takes a piece. -/
def Ref10Ok (i g : Nat) (own : Nat → Nat) (win last : Int) (n p : Nat) (xs : List Value) (d : ByteArray) (w : World) (e : Ending) (w' : World) : Prop :=
  e = .returned (.tuple #[.int .i64 ((n : Int) + 1), .int .i64 0]) ∧ ∃ own' A' c', Step i w own w' own' ∧ own' g = i ∧ Blk w' g 104 #[.int .i64 win, .int .i64 last, .slice A' (n + 1) c', .int .i64 p] ∧ OwnS w' own' i 9 1 A' (n + 1) c' (xs ++ [.string d])

theorem ref10_fin {i g : Nat} {own : Nat → Nat} {A A2 : Option Addr} {n c c2 p : Nat} {win last : Int} {xs : List Value} {w W w2 : World} {d : ByteArray} (st : Step i w own W own) (hog : own g = i)
    (hb : Blk W g 104 #[.int .i64 win, .int .i64 last, .slice A n c, .int .i64 p]) (hno : NewOwn 9 1 (xs ++ [.string d]) W A2 (n + 1) c2 w2) :
    Ref10Ok i g own win last n p xs d w (.returned (.tuple #[.int .i64 ((n : Int) + 1), .int .i64 0])) (w2.setCell ⟨g, 2, none⟩ (.slice A2 (n + 1) c2)) := by
  have hb2 := hb.grown hno.grown (by simp)
  have hgl := hb.lt
  have hO := hno.own own W.heap.size i (Nat.le_refl _)
  have hg2 : give own W.heap.size i g = i := by rw [give_old hgl]; exact hog
  refine ⟨rfl, give own W.heap.size i, A2, c2, (((st.give_ i).grown hno.grown (by simp)).setCell hg2 _), hg2, by simpa using hb2.set_ 2 (.slice A2 (n + 1) c2), ?_⟩
  refine ⟨hO.1, ?_⟩
  rcases hO.2 with h0 | ⟨q, cur, e1, e2, e3, e4⟩
  · exact .inl h0
  · refine .inr ⟨q, cur, e1, e2, e3.far (e3.ne_ hb2 (by decide)) _, e4⟩

set_option maxHeartbeats 1000000 in
set_option maxRecDepth 10000 in
theorem ref10_take (i g : Nat) (own : Nat → Nat) (A : Option Addr) (n c p : Nat) (win last : Int) (xs : List Value) (w : World) (d : ByteArray) (hn : n ≤ 300) (hp : p ≤ n) (hf : (n : Int) - (p : Int) < win) (hl : (n : Int) < last)
    (hb : Blk w g 104 #[.int .i64 win, .int .i64 last, .slice A n c, .int .i64 p]) (hog : own g = i) (hO : OwnS w own i 9 1 A n c xs) (h1c : ∀ u ∈ xs, u.oneCell' = true) :
    Calls Try.prog 40 #[.pointer (some ⟨g, 0, none⟩), .string d] w (Ref10Ok i g own win last n p xs d w) := by
  obtain ⟨i0, hi, hz0, hz1, hz2⟩ := info_parts Try.info9o
  have h0 := hb.cell 0
  have h1 := hb.cell 1
  have h2 := hb.cell 2
  have h3 := hb.cell 3
  simp only [List.getElem?_toArray, List.getElem?_cons_zero, List.getElem?_cons_succ] at h0 h1 h2 h3
  have Hb := Lib.hid hb; clear hb
  have Hog := Lib.hid hog; clear hog
  have HO := Lib.hid hO; clear hO
  have H1c := Lib.hid h1c; clear h1c
  have hw := wrapI ((n : Int) - (p : Int)) (by omega)
  have hd : decide (win ≤ (n : Int) - (p : Int)) = false := by simp; omega
  have hd1 : decide (last ≤ (n : Int)) = false := by simp; omega
  go_enter Try.func40, Try.ntmps40
  go_wp2
  go_quiet (fail)
  go_wp2
  go_quiet (fail)
  clear h0 h1 h2 h3
  generalize hW : (w.drewN _).drewN _ = W
  have hbW : Blk W g 104 #[.int .i64 win, .int .i64 last, .slice A n c, .int .i64 p] := by rw [← hW]; exact Hb.out
  have hOW : OwnS W own i 9 1 A n c xs := by rw [← hW]; exact (HO.out.drewN _).drewN _
  have hstW : Step i w own W own := by rw [← hW]; exact ((Step.refl i w own).drewN _).drewN _
  have HW := Lib.hid hW; clear hW
  have hal2 : ∀ o : Obj, (W.alloc o).cell? ⟨g, 2, none⟩ = some (.slice A n c) := fun o => (hbW.alloc o).cell 2
  have HbW := Lib.hid hbW; clear hbW
  have HOW := Lib.hid hOW; clear hOW
  have HstW := Lib.hid hstW; clear hstW
  go_wp2_with (first | (at_builtin; refine wpList_copied rfl (.tmp 32) (.tmp 36) 22 rfl 9 i0 (.string ByteArray.empty) 1 16 Try.underlying22 hi hz0 hz1 hz2 rfl (by decide) _ A n c xs (by rfl) (by rfl) (HOW.out.row.rd.alloc (by omega) _) H1c.out (by unfold maxLen; omega) (by omega) ?_; intro A1 c1 w1 hcp; have Hcp := Lib.hid hcp; clear hcp) | (at_builtin; refine wpList_onto rfl (.tmp 37) (.tmp 39) 22 rfl 9 i0 (.string ByteArray.empty) 1 16 Try.underlying22 hi hz0 hz1 hz2 rfl (by decide) A1 n c1 xs (by rfl) Hcp.out HOW.out.len (World.grownBy_alloc w1 (.cells #[.string d] 9) none) w1.heap.size 1 1 9 [.string d] (by rfl) rfl (Blk.new _ _ _) (by simp [Value.oneCell']) (by omega) (by unfold maxLen; omega) (by omega) ?_; intro A2 c2 w2 hno; have hb2 := (HbW.out.alloc (.cells #[] 9)).grown hno.grown (by simp); have k2 : w2.cell? ⟨g, 2, none⟩ = some (.slice A n c) := hb2.cell 2; have f2 := hb2.free 2; clear hb2; have Hno := Lib.hid hno; clear hno))
  go_wp2
  go_ret2
  exact ref10_fin HstW.out Hog.out HbW.out (Hno.out.behind (World.grownBy_alloc W _ none))

set_option maxHeartbeats 1000000 in
set_option maxRecDepth 10000 in
theorem ref10Left_raw (g : Nat) (A : Option Addr) (n c p : Nat) (win last : Int) (xs : List Value) (w : World) (hn : n ≤ 300) (hp : p ≤ n) (hnc : n ≤ c) (hcm : c ≤ maxLen)
    (hb : Blk w g 104 #[.int .i64 win, .int .i64 last, .slice A n c, .int .i64 p]) (hr : Rd w 1 A n xs) (h1c : ∀ u ∈ xs, u.oneCell' = true) (hA : A = none → c = 0) (hA2 : ∀ a, A = some a → ∃ b, a = ⟨b, 0, none⟩) :
    Calls Try.prog 55 #[.pointer (some ⟨g, 0, none⟩)] w (StrsOk (n - p) w (xs.drop p)) := by
  obtain ⟨i0, hi, hz0, hz1, hz2⟩ := info_parts Try.info9o
  have h1 := hb.cell 2
  have h2 := hb.cell 3
  simp only [List.getElem?_toArray, List.getElem?_cons_zero, List.getElem?_cons_succ] at h1 h2
  have hlt := hb.lt
  have Hb := Lib.hid hb; clear hb
  have Hr := Lib.hid hr; clear hr
  have H1c := Lib.hid h1c; clear h1c
  have hal1 : ∀ o : Obj, (w.alloc o).cell? ⟨g, 2, none⟩ = some (.slice A n c) := fun o => (World.cell?_alloc_lt w o _ hlt).trans h1
  have hal2 : ∀ o : Obj, (w.alloc o).cell? ⟨g, 3, none⟩ = some (.int .i64 p) := fun o => (World.cell?_alloc_lt w o _ hlt).trans h2
  cases A with
  | none =>
    have hc := hA rfl
    subst hc
    clear hA hA2
    have hx0 : xs = [] := List.eq_nil_of_length_eq_zero (by have := Hr.out.1; omega)
    subst hx0
    have hrd : ∀ o, Rd (w.alloc o) 1 none (n - p) (([] : List Value).drop p) := by
      intro o
      exact ⟨by simp; omega, fun hpos => by omega⟩
    have hlen : (([] : List Value).drop p).length = (n - p) * 1 := by simp; omega
    have h1d : ∀ u ∈ ([] : List Value).drop p, u.oneCell' = true := fun u hu => by simp at hu
    have Hrd := Lib.hid hrd; clear hrd
    have Hlen := Lib.hid hlen; clear hlen
    have H1d := Lib.hid h1d; clear h1d
    go_enter Try.func55, Try.ntmps55
    go_wp2
    go_region_held3 (fun w' => w'.cell? ⟨g, 2, none⟩ = some (.slice none n 0) ∧ w'.cell? ⟨g, 3, none⟩ = some (.int .i64 p)) (first | (go_keep; done) | (constructor <;> assumption))
     ((refine step_copied rfl (.tmp 3) (.tmp 12) 22 rfl 9 i0 (.string ByteArray.empty) 1 16 Try.underlying22 hi hz0 hz1 hz2 rfl (by decide) (some ⟨w.heap.size, 0, none⟩) none (n - p) 0 (([] : List Value).drop p) ?x1 ?x2 ?x3 ?x4 ?x5 ?x6 ?x7
       case x1 => rfl
       case x2 => rfl
       case x3 => exact Hrd.out (.cells #[] 9)
       case x4 => exact H1d.out
       case x5 => (unfold maxLen; omega)
       case x6 => omega
       intro A1 c1 w1 hcp
       have hb1 := (Hb.out.alloc (.cells #[] 9)).drew.grown hcp.grown (by simp)
       have k1 : w1.cell? ⟨g, 2, none⟩ = some (.slice none n 0) := hb1.cell 2
       have k2 : w1.cell? ⟨g, 3, none⟩ = some (.int .i64 p) := hb1.cell 3
       clear hb1
       have Hcp := Lib.hid hcp
       clear hcp))
    all_goals go_wp2
    all_goals (go_ret; exact strs_fin Hcp.out Hlen.out)
  | some a =>
    obtain ⟨b, rfl⟩ := hA2 a rfl
    clear hA hA2
    have hrd : ∀ o, Rd (w.alloc o) 1 (if c = p then some ⟨b, 0, none⟩ else some ⟨b, p, none⟩) (n - p) (xs.drop p) := fun o => rd_from Hr.out hp hnc o
    have hlen : (xs.drop p).length = (n - p) * 1 := by have := Hr.out.1; simp; omega
    have h1d : ∀ u ∈ xs.drop p, u.oneCell' = true := fun u hu => H1c.out u (List.mem_of_mem_drop hu)
    have Hrd := Lib.hid hrd; clear hrd
    have Hlen := Lib.hid hlen; clear hlen
    have H1d := Lib.hid h1d; clear h1d
    go_enter Try.func55, Try.ntmps55
    go_wp2
    go_region_held3 (fun w' => w'.cell? ⟨g, 2, none⟩ = some (.slice (some ⟨b, 0, none⟩) n c) ∧ w'.cell? ⟨g, 3, none⟩ = some (.int .i64 p)) (first | (go_keep; done) | (constructor <;> assumption))
     ((refine step_copied rfl (.tmp 3) (.tmp 12) 22 rfl 9 i0 (.string ByteArray.empty) 1 16 Try.underlying22 hi hz0 hz1 hz2 rfl (by decide) (some ⟨w.heap.size, 0, none⟩) (if c = p then some ⟨b, 0, none⟩ else some ⟨b, p, none⟩) (n - p) (c - p) (xs.drop p) (by rfl) (by rfl) (by exact Hrd.out (.cells #[] 9)) H1d.out (by unfold maxLen; omega) (by omega) ?_
       intro A1 c1 w1 hcp
       have hb1 := (Hb.out.alloc (.cells #[] 9)).drew.grown hcp.grown (by simp)
       have k1 : w1.cell? ⟨g, 2, none⟩ = some (.slice (some ⟨b, 0, none⟩) n c) := hb1.cell 2
       have k2 : w1.cell? ⟨g, 3, none⟩ = some (.int .i64 p) := hb1.cell 3
       clear hb1
       have Hcp := Lib.hid hcp
       clear hcp))
    all_goals go_wp2
    all_goals (go_ret; exact strs_fin Hcp.out Hlen.out)

/-- The reference's sender stands as s. -/
def Ref10At (w : World) (own : Nat → Nat) (i g : Nat) (s : Snd) : Prop :=
  own g = i ∧ s.Ok ∧ ∃ (all : List ByteArray) (A : Option Addr) (c : Nat), all.length = s.sent ∧ all.drop (s.sent - s.ds.length) = s.ds ∧
    Blk w g 104 #[.int .i64 s.win, .int .i64 s.last, .slice A s.sent c, .int .i64 ((s.sent - s.ds.length : Nat) : Int)] ∧ OwnS w own i 9 1 A s.sent c (all.map Value.string)

section
variable {w w' : World} {own own' : Nat → Nat} {i g : Nat} {s : Snd}
theorem Ref10At.keep (h : Ref10At w own i g s) (hk : ∀ k, k < w.heap.size → own k = i → w'.heap[k]? = w.heap[k]? ∧ own' k = i) : Ref10At w' own' i g s := by
  obtain ⟨ho, hok, all, A, c, h1, h2, hb, hO⟩ := h
  have := hk g hb.lt ho
  exact ⟨this.2, hok, all, A, c, h1, h2, hb.of_eq this.1, hO.keep hk⟩
theorem Ref10At.other {j : Nat} (h : Ref10At w own i g s) (st : Step j w own w' own') (hij : i ≠ j) : Ref10At w' own' i g s := h.keep fun k hk ho => st.other hij hk ho
theorem Ref10At.grown {b0 j : Nat} (h : Ref10At w own i g s) (hg : w.grownBy w' none) (hb0 : w.heap.size ≤ b0) : Ref10At w' (give own b0 j) i g s :=
  h.keep fun k hk ho => ⟨hg.block k hk (by simp), by rw [give_old (by omega)]; exact ho⟩
theorem Ref10At.drewN (h : Ref10At w own i g s) (n : Nat) : Ref10At (w.drewN n) own i g s := h
theorem Ref10At.ok (h : Ref10At w own i g s) : s.Ok := h.2.1
theorem Ref10At.lt (h : Ref10At w own i g s) : g < w.heap.size := by obtain ⟨_, _, _, _, _, _, _, hb, _⟩ := h; exact hb.lt
/-- the fields All and Acked -/
theorem Ref10At.tells (h : Ref10At w own i g s) : ∃ A c, w.cell? ⟨g, 2, none⟩ = some (.slice A s.sent c) ∧ w.cell? ⟨g, 3, none⟩ = some (.int .i64 ((s.sent - s.ds.length : Nat) : Int)) := by
  obtain ⟨_, _, all, A, c, _, _, hb, _⟩ := h
  exact ⟨A, c, hb.cell 2, hb.cell 3⟩
end

/-- A call hands back v, i's blocks alone have changed, and the reference's sender stands as s. -/
def Ref10Ret (i : Nat) (own : Nat → Nat) (w : World) (g : Nat) (v : Value) (s : Snd) (e : Ending) (w' : World) : Prop :=
  e = .returned v ∧ ∃ own', Step i w own w' own' ∧ Ref10At w' own' i g s

theorem ref10_new (i : Nat) (own : Nat → Nat) (win last : Int) (w : World) :
    Calls Try.prog 39 #[.int .i64 win, .int .i64 last] w (Ref10Ret i own w w.heap.size (.pointer (some ⟨w.heap.size, 0, none⟩)) (Snd.new win last)) := by
  refine (ref10New_raw win last w).mono ?_
  rintro e w' ⟨rfl, rfl⟩
  have e1 : (((Snd.new win last).win : Nat) : Int) = clampI win 1 16 := by simp only [Snd.new, clampI]; (repeat' split) <;> omega
  have e2 : (((Snd.new win last).last : Nat) : Int) = clampI last 0 1125899906842624 := by simp only [Snd.new, clampI]; (repeat' split) <;> omega
  refine ⟨rfl, give own w.heap.size i, ((Step.refl i w own).give_ i).alloc _, give_new (Nat.le_refl _), Snd.new_ok win last, [], none, 0, rfl, rfl, ?_, OwnS.nil _ _ _ _ _⟩
  rw [e1, e2]
  exact Blk.new w 104 _

theorem ref10_offer {i g : Nat} {own : Nat → Nat} {s : Snd} {w : World} (h : Ref10At w own i g s) (d : ByteArray) (ha : s.sent ≤ 300) :
    Calls Try.prog 40 #[.pointer (some ⟨g, 0, none⟩), .string d] w (Ref10Ret i own w g (.tuple #[.int .i64 s.offN, .int .i64 s.offE]) (s.off d)) := by
  have h' := h
  obtain ⟨ho, ⟨o1, o2, o3, o4, o5, o6⟩, all, A, c, e1, e3, hb, hO⟩ := h
  by_cases hf : s.ds.length = s.win
  · refine (ref10_full g A s.sent c (s.sent - s.ds.length) s.win s.last w d ha (by omega) (by omega) hb).mono ?_
    rintro e w' ⟨rfl, m, rfl⟩
    refine ⟨by simp [Snd.offN, Snd.offE, hf], own, (Step.refl i w own).drewN m, ?_⟩
    rw [Snd.off, if_pos hf]
    exact h'.drewN m
  · by_cases hl : s.sent = s.last
    · refine (ref10_exh g A s.sent c (s.sent - s.ds.length) s.win s.last w d ha (by omega) (by omega) (by omega) hb).mono ?_
      rintro e w' ⟨rfl, m, rfl⟩
      refine ⟨by simp only [Snd.offN, Snd.offE]; rw [if_neg hf, if_neg hf, if_pos hl, if_pos hl], own, (Step.refl i w own).drewN m, ?_⟩
      rw [Snd.off, if_neg hf, if_pos hl]
      exact h'.drewN m
    · have hok := s.off_ok h'.ok d
      rw [Snd.off, if_neg hf, if_neg hl] at hok ⊢
      refine (ref10_take i g own A s.sent c (s.sent - s.ds.length) s.win s.last (all.map Value.string) w d ha (by omega) (by omega) (by omega) hb ho hO (strs_one all)).mono ?_
      rintro e w' ⟨rfl, own', A', c', st, ho', hb', hO'⟩
      have ep : s.sent + 1 - (s.ds ++ [d]).length = s.sent - s.ds.length := by simp
      refine ⟨by simp only [Snd.offN, Snd.offE]; rw [if_neg hf, if_neg hf, if_neg hl, if_neg hl], own', st, ho', hok, all ++ [d], A', c', by simp [e1], ?_, ?_, ?_⟩
      · rw [ep, List.drop_append_of_le_length (by omega), e3]
      · rw [ep]; simpa using hb'
      · simpa using hO'

theorem ref10_ack {i g : Nat} {own : Nat → Nat} {s : Snd} {w : World} (h : Ref10At w own i g s) (n : Int) (ha : s.sent ≤ 300) :
    Calls Try.prog 41 #[.pointer (some ⟨g, 0, none⟩), .int .i64 n] w (Ref10Ret i own w g (.int .i64 (s.gone n)) (s.ack n)) := by
  have h' := h
  obtain ⟨ho, ⟨o1, o2, o3, o4, o5, o6⟩, all, A, c, e1, e3, hb, hO⟩ := h
  by_cases hf : (s.sent : Int) < n ∨ n ≤ ((s.sent - s.ds.length : Nat) : Int)
  · have hg : s.gone n = 0 := by
      unfold Snd.gone
      split <;> omega
    have ha' : s.ack n = s := by simp [Snd.ack, hg]
    refine (ref10_ack_none g A s.sent c (s.sent - s.ds.length) s.win s.last n w ha (by omega) hf hb).mono ?_
    rintro e w' ⟨rfl, rfl⟩
    refine ⟨by rw [hg]; rfl, own, Step.refl i w own, ?_⟩
    rw [ha']; exact h'
  · have hg : (s.gone n : Int) = n - ((s.sent - s.ds.length : Nat) : Int) := by
      unfold Snd.gone
      rw [if_neg (by omega)]; omega
    refine (ref10_ack_some g A s.sent c (s.sent - s.ds.length) s.win s.last n w ha (by omega) (by omega) (by omega) hb).mono ?_
    rintro e w' ⟨rfl, rfl⟩
    have el : s.sent - (s.ds.drop (s.gone n)).length = (s.sent - s.ds.length) + s.gone n := by simp; omega
    refine ⟨by rw [hg], own, (Step.refl i w own).setCell ho _, ho, s.ack_ok h'.ok n, all, A, c, e1, ?_, ?_, ?_⟩
    · simp only [Snd.ack]; rw [el, ← List.drop_drop, e3]
    · simp only [Snd.ack]
      rw [el]
      have : ((s.sent - s.ds.length + s.gone n : Nat) : Int) = n := by omega
      rw [this]
      simpa using hb.set_ 3 (.int .i64 n)
    · refine ⟨hO.1, ?_⟩
      rcases hO.2 with h0 | ⟨q, cur, f1, f2, f3, f4⟩
      · exact .inl h0
      · exact .inr ⟨q, cur, f1, f2, f3.far (f3.ne_ hb (by decide)) _, f4⟩

theorem ref10_left {i g : Nat} {own : Nat → Nat} {s : Snd} {w : World} (h : Ref10At w own i g s) (ha : s.sent ≤ 300) :
    Calls Try.prog 55 #[.pointer (some ⟨g, 0, none⟩)] w (StrsOk s.ds.length w (s.ds.map Value.string)) := by
  obtain ⟨ho, ⟨o1, o2, o3, o4, o5, o6⟩, all, A, c, e1, e3, hb, hO⟩ := h
  have hqp : s.ds.length = s.sent - (s.sent - s.ds.length) := by omega
  have := ref10Left_raw g A s.sent c (s.sent - s.ds.length) s.win s.last (all.map Value.string) w ha (by omega) hO.le hO.max hb hO.row.rd (strs_one all) ?_ ?_
  · rw [← List.map_drop, e3, ← hqp] at this
    exact this
  · intro hA
    rcases hO.2 with ⟨_, _, h0⟩ | ⟨q, cur, f1, _⟩
    · exact h0
    · rw [hA] at f1; cases f1
  · intro a hA
    rcases hO.2 with ⟨h0, _, _⟩ | ⟨q, cur, f1, _⟩
    · rw [hA] at h0; cases h0
    · rw [hA] at f1; exact ⟨q, by injection f1⟩
end Go.Proofs.Ytjloipjchcaloaa
