/- The sender (layer 10) and its methods: contracts of New, Unacked, Sent, Offer, Ack, Pieces and Copy over an abstract state, for every state that New and the methods lead to. -/
import Derived.Test.YtjloipjchcaloaaNew
import Derived.Test.YtjloipjchcaloaaRows
import Derived.WalkKit
import Derived.WalkLawsBesides
import Derived.WalkSpells
import Derived.Deep.QuietTactic
import Derived.BigQuiet
import Derived.Deep.RegionHeld3
namespace Go.Proofs.Ytjloipjchcaloaa
open Go.RowKit
set_option linter.unusedVariables false

theorem Try.info30 : (Try.prog.info? 30).map (fun i => (i.zero, i.size, i.bytes)) = some (some (.agg #[.int .i64 0, .string ByteArray.empty]), 2, 24) := by kernel_rfl

/-- the cells of pieces, numbered from a + 1 on -/
def pcs : Nat → List ByteArray → List Value
  | _, [] => []
  | a, d :: ds => .int .i64 ((a + 1 : Nat) : Int) :: .string d :: pcs (a + 1) ds

theorem pcs_length (ds : List ByteArray) : ∀ a, (pcs a ds).length = ds.length * 2 := by
  induction ds with
  | nil => intro a; rfl
  | cons d ds ih => intro a; simp [pcs, ih]; omega

theorem pcs_snoc (ds : List ByteArray) (d : ByteArray) : ∀ a, pcs a (ds ++ [d]) = pcs a ds ++ [.int .i64 ((a + ds.length + 1 : Nat) : Int), .string d] := by
  induction ds with
  | nil => intro a; rfl
  | cons x ds ih => intro a; simp only [List.cons_append, pcs, ih, List.length_cons]; congr 5; omega

theorem pcs_drop (k : Nat) : ∀ (a : Nat) (ds : List ByteArray), (pcs a ds).drop (k * 2) = pcs (a + k) (ds.drop k) := by
  induction k with
  | zero => intro a ds; simp
  | succ k ih =>
    intro a ds
    cases ds with
    | nil => simp [pcs]
    | cons d ds =>
      simp only [pcs, List.drop_succ_cons]
      rw [show (k + 1) * 2 = k * 2 + 1 + 1 by omega, List.drop_succ_cons, List.drop_succ_cons, ih]
      congr 1; omega

theorem pcs_seq (k : Nat) : ∀ (a : Nat) (ds : List ByteArray), k < ds.length → (pcs a ds)[k * 2]? = some (.int .i64 ((a + k + 1 : Nat) : Int)) := by
  induction k with
  | zero => intro a ds h; cases ds with
    | nil => simp at h
    | cons d ds => rfl
  | succ k ih =>
    intro a ds h
    cases ds with
    | nil => simp at h
    | cons d ds =>
      simp only [pcs, List.length_cons] at h ⊢
      rw [show (k + 1) * 2 = k * 2 + 1 + 1 by omega, List.getElem?_cons_succ, List.getElem?_cons_succ, ih _ _ (by omega)]
      congr 3; omega

theorem pcs_data (k : Nat) : ∀ (a : Nat) (ds : List ByteArray) (h : k < ds.length), (pcs a ds)[k * 2 + 1]? = some (.string ds[k]) := by
  induction k with
  | zero => intro a ds h; cases ds with
    | nil => simp at h
    | cons d ds => rfl
  | succ k ih =>
    intro a ds h
    cases ds with
    | nil => simp at h
    | cons d ds =>
      simp only [pcs, List.length_cons] at h ⊢
      rw [show (k + 1) * 2 + 1 = k * 2 + 1 + 1 + 1 by omega, List.getElem?_cons_succ, List.getElem?_cons_succ, ih _ _ (by omega)]
      rfl

theorem pcs_one (ds : List ByteArray) : ∀ a, ∀ u ∈ pcs a ds, u.oneCell' = true := by
  induction ds with
  | nil => intro a u h; simp [pcs] at h
  | cons d ds ih =>
    intro a u h
    simp only [pcs, List.mem_cons] at h
    rcases h with rfl | rfl | h
    · rfl
    · rfl
    · exact ih _ u h

/-- What Offer leaves where it takes data: the sender's block, a new block of pieces. -/
def OfferOk (i g : Nat) (own : Nat → Nat) (n : Nat) (win sent last : Int) (w : World) (d : ByteArray) (olds : List Value) (e : Ending) (w' : World) : Prop :=
  e = .returned (.tuple #[.int .i64 (sent + 1), .int .i64 0]) ∧ ∃ own', Step i w own w' own' ∧ own' g = i ∧ ∃ gb cap' cs, own' gb = i ∧ gb ≠ g ∧
    Blk w' g 98 #[.int .i64 win, .int .i64 last, .int .i64 (sent + 1), .slice (some ⟨gb, 0, none⟩) (n + 1) cap'] ∧ Blk w' gb 30 cs ∧
    cs.toList.take ((n + 1) * 2) = olds ++ [.int .i64 (sent + 1), .string d] ∧ n + 1 ≤ cap'

theorem offer_fin {i g : Nat} {own : Nat → Nat} {A : Option Addr} {n c q : Nat} {win sent last : Int} {w W w1 : World} {d : ByteArray} {olds : List Value} {o : Obj} {gb cap' : Nat} {cs : Array Value}
    (hog : own g = i) (hlt : g < w.heap.size) (hW : (w.drewN q).setCell ⟨g, 2, none⟩ (.int .i64 (sent + 1)) = W) (hgrow : (W.alloc o).drew.grownBy w1 none)
    (hge : (W.alloc o).drew.heap.size ≤ gb) (hb : Blk w1 g 98 #[.int .i64 win, .int .i64 last, .int .i64 (sent + 1), .slice A n c]) (hb1 : Blk w1 gb 30 cs)
    (ht : cs.toList.take ((n + 1) * 2) = olds ++ [.int .i64 (sent + 1), .string d]) (hcap : n + 1 ≤ cap') :
    OfferOk i g own n win sent last w d olds (.returned (.tuple #[.int .i64 (sent + 1), .int .i64 0])) (w1.setCell ⟨g, 3, none⟩ (.slice (some ⟨gb, 0, none⟩) (n + 1) cap')) := by
  have hsz : w.heap.size ≤ gb := by
    rw [← hW] at hge
    simp at hge; omega
  have hne : gb ≠ g := by omega
  have hg' : give own w.heap.size i g = i := by rw [give_old hlt]; exact hog
  have s1 : Step i w own W (give own w.heap.size i) := by
    rw [← hW]
    exact ((Step.refl i w own).give_ i |>.drewN q).setCell hg' _
  have s2 := ((s1.alloc o).drew).grown hgrow (by simp)
  refine ⟨rfl, give own w.heap.size i, s2.setCell (by exact hg') _, hg', gb, cap', cs, give_new hsz, hne, ?_, hb1.far (by exact hne) _, ht, hcap⟩
  have := hb.set_ 3 (.slice (some ⟨gb, 0, none⟩) (n + 1) cap')
  simpa using this

set_option maxHeartbeats 1000000 in
/-- Offer, where there is room and a number is left. -/
theorem offer_raw (i g : Nat) (own : Nat → Nat) (A : Option Addr) (n c : Nat) (win sent last : Int) (w : World) (d : ByteArray) (olds : List Value)
    (hw : ((n : Int) == win) = false) (hl : (sent == last) = false) (hs0 : 0 ≤ sent) (hs1 : sent ≤ 1125899906842624) (hn : n ≤ 16) (hnc : n ≤ c)
    (hb : Blk w g 98 #[.int .i64 win, .int .i64 last, .int .i64 sent, .slice A n c]) (hr : Rd w 2 A n olds) (hA : ∀ b off, 0 < n → A = some ⟨b, off, none⟩ → b ≠ g) (hog : own g = i) :
    Calls Try.prog 23 #[.pointer (some ⟨g, 0, none⟩), .string d] w (OfferOk i g own n win sent last w d olds) := by
  obtain ⟨i0, hi, hz0, hz1, hz2⟩ := info_parts Try.info30
  have h0 := hb.cell 0
  have h1 := hb.cell 1
  have h2 := hb.cell 2
  have h3 := hb.cell 3
  have f2 := hb.free 2
  have f3 := hb.free 3
  have hbi : Blk ((w.setCell ⟨g, 2, none⟩ (.int .i64 (sent + 1)))) g 98 #[.int .i64 win, .int .i64 last, .int .i64 (sent + 1), .slice A n c] := hb.set_ 2 _
  simp only [List.getElem?_toArray, List.getElem?_cons_zero, List.getElem?_cons_succ] at h0 h1 h2 h3
  have Hb := Lib.hid hb; clear hb
  have Hbi := Lib.hid hbi; clear hbi
  have Hr := Lib.hid hr; clear hr
  have HA := Lib.hid hA; clear hA
  have Hog := Lib.hid hog; clear hog
  go_enter Try.func23, Try.ntmps23
  go_wp2
  go_quiet (fail)
  go_wp2
  go_quiet (fail)
  go_wp2
  clear h0 h1 h2 h3 f2 f3
  generalize hW : (w.drewN _).setCell _ _ = W
  have hbW : Blk W g 98 #[.int .i64 win, .int .i64 last, .int .i64 (sent + 1), .slice A n c] := by rw [← hW]; exact Hbi.out
  have hrW : Rd W 2 A n olds := by
    rw [← hW]
    exact Hr.out.keep (fun b off h0 hA _ => Below.heap_setCell _ _ _ _ (by exact HA.out b off h0 hA)) (by omega)
  have HW := Lib.hid hW; clear hW
  have h2 := hbW.cell 2
  have h3 := hbW.cell 3
  simp only [List.getElem?_toArray, List.getElem?_cons_zero, List.getElem?_cons_succ] at h2 h3
  have HbW := Lib.hid hbW; clear hbW
  have HrW := Lib.hid hrW; clear hrW
  have hzz : (0 : Int) ≤ (n : Int) := by omega
  have hzc : (n : Int) ≤ (c : Int) := by omega
  have hal2 : ∀ o : Obj, (W.alloc o).cell? ⟨g, 2, none⟩ = some (.int .i64 (sent + 1)) := fun o => (HbW.out.alloc o).cell 2
  have hal3 : ∀ o : Obj, (W.alloc o).cell? ⟨g, 3, none⟩ = some (.slice A n c) := fun o => (HbW.out.alloc o).cell 3
  go_region_law
   ((refine step_app rfl (.tmp 47) (.tmp 54) 27 rfl 30 i0 (.agg #[.int .i64 0, .string ByteArray.empty]) 2 24 Try.underlying27 hi hz0 hz1 hz2 rfl (by decide) A n n olds (by rfl) (by exact (HrW.out.alloc (by omega) _).drew) (by omega) W.heap.size 1 1 30 [.int .i64 (sent + 1), .string d] (by rfl) rfl (by exact (Blk.new _ _ _).drew) (by intro u hu; simp at hu; rcases hu with rfl | rfl <;> rfl) (by omega) (by unfold maxLen; omega) (by omega) ?_
     intro gb cap' cs w1 hb1 htake hge hcap hmx hsz hgrow
     have hbw1 : Blk w1 g 98 #[.int .i64 win, .int .i64 last, .int .i64 (sent + 1), .slice A n c] := (HbW.out.alloc _).drew.grown hgrow (by simp)
     have k2 : w1.cell? ⟨g, 2, none⟩ = some (.int .i64 (sent + 1)) := hbw1.cell 2
     have k3 : w1.cell? ⟨g, 3, none⟩ = some (.slice A n c) := hbw1.cell 3
     have e3 := hbw1.free 3
     have Hbw1 := Lib.hid hbw1
     clear hbw1
     have Hb1 := Lib.hid hb1
     clear hb1
     have Htake := Lib.hid htake
     clear htake
     have Hsz := Lib.hid hsz
     clear hsz))
  all_goals go_wp2
  all_goals (go_ret2; exact offer_fin Hog.out Hb.out.lt HW.out hgrow hge Hbw1.out Hb1.out Htake.out hcap)


end Go.Proofs.Ytjloipjchcaloaa
