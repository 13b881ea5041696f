/- What frames may be (chapbookref09.May); two lists of frames that read alike (SameFrames). -/
import Derived.Test.YtjloipjchcaloaaRLnk
namespace Go.Proofs.Ytjloipjchcaloaa
open Go.RowKit
set_option linter.unusedVariables false

/-- A frame that may be. -/
def MayOk (fe fs fa : Int) (fd : ByteArray) : Prop := 1 ≤ fe ∧ fe ≤ 1099511627776 ∧ 0 ≤ fs ∧ fs ≤ 1125899906842624 ∧ 0 ≤ fa ∧ fa ≤ 1125899906842624 ∧ (fs = 0 → fd = ByteArray.empty)

set_option maxHeartbeats 2000000 in
set_option maxRecDepth 10000 in
theorem may_yes (fe fs fa : Int) (fd : ByteArray) (w : World) (h : MayOk fe fs fa fd) :
    Calls Try.prog 49 #[.agg #[.int .i64 fe, .int .i64 fs, .int .i64 fa, .string fd]] w (NewRet w (.int .i64 0)) := by
  obtain ⟨h1, h2, h3, h4, h5, h6, h7⟩ := h
  have hg := World.grownBy_alloc w (.cells #[.int .i64 fe, .int .i64 fs, .int .i64 fa, .string fd] 78) none
  go_enter Try.func49, Try.ntmps49
  by_cases hs : fs = 0
  · obtain rfl := h7 hs
    subst hs
    clear h7
    have e : (ByteArray.empty : ByteArray) = { data := #[] } := rfl
    rw [e] at hg ⊢
    clear e
    go_wp2
    go_ret
    exact ⟨rfl, hg⟩
  · have hs' : (fs == 0) = false := by simpa using hs
    clear h7
    go_wp2
    go_ret
    exact ⟨rfl, hg⟩

/-- A call hands back a number other than zero. -/
def NotZero (w : World) (e : Ending) (w' : World) : Prop := ∃ v : Int, v ≠ 0 ∧ e = .returned (.int .i64 v) ∧ w.grownBy w' none

set_option maxHeartbeats 2000000 in
set_option maxRecDepth 10000 in
theorem may_no (fe fs fa : Int) (fd : ByteArray) (w : World) (h : ¬ MayOk fe fs fa fd) :
    Calls Try.prog 49 #[.agg #[.int .i64 fe, .int .i64 fs, .int .i64 fa, .string fd]] w (NotZero w) := by
  have hg := World.grownBy_alloc w (.cells #[.int .i64 fe, .int .i64 fs, .int .i64 fa, .string fd] 78) none
  have n1 : ∀ W, w.grownBy W none → NotZero w (.returned (.int .i64 1)) W := fun W h => ⟨1, by decide, rfl, h⟩
  have n13 : ∀ W, w.grownBy W none → NotZero w (.returned (.int .i64 13)) W := fun W h => ⟨13, by decide, rfl, h⟩
  have N1 := Lib.hid n1; clear n1
  have N13 := Lib.hid n13; clear n13
  go_enter Try.func49, Try.ntmps49
  by_cases a1 : fe < 1
  · go_wp2
    go_ret
    exact N1.out _ hg
  by_cases a2 : 1099511627776 < fe
  · go_wp2
    go_ret
    exact N1.out _ hg
  by_cases a3 : fs < 0
  · go_wp2
    go_ret
    exact N1.out _ hg
  by_cases a4 : 1125899906842624 < fs
  · go_wp2
    go_ret
    exact N1.out _ hg
  by_cases a5 : fa < 0
  · go_wp2
    go_ret
    exact N1.out _ hg
  by_cases a6 : 1125899906842624 < fa
  · go_wp2
    go_ret
    exact N1.out _ hg
  have hs : fs = 0 := by
    by_cases hs : fs = 0
    · exact hs
    · exact absurd ⟨by omega, by omega, by omega, by omega, by omega, by omega, fun e => absurd e hs⟩ h
  have hd : fd.toList.isEmpty = false := by
    cases hx : fd.toList.isEmpty with
    | false => rfl
    | true =>
      have e : fd = ByteArray.empty := by
        apply Go.WideShapes.bytes_inj
        rw [← ByteArray.toList_eq]
        simpa using hx
      exact absurd ⟨by omega, by omega, by omega, by omega, by omega, by omega, fun _ => e⟩ h
  subst hs
  go_wp2
  go_ret
  exact N13.out _ hg

structure Frm where
  epoch : Int
  seq : Int
  ack : Int
  data : ByteArray

def fcells : List Frm → List Value
  | [] => []
  | f :: l => .int .i64 f.epoch :: .int .i64 f.seq :: .int .i64 f.ack :: .string f.data :: fcells l
theorem fcells_length : ∀ l : List Frm, (fcells l).length = l.length * 4
  | [] => rfl
  | f :: l => by simp [fcells, fcells_length l]; omega
theorem fcells_get : ∀ (k : Nat) (l : List Frm) (h : k < l.length), (fcells l)[k * 4]? = some (.int .i64 l[k].epoch) ∧ (fcells l)[k * 4 + 1]? = some (.int .i64 l[k].seq) ∧ (fcells l)[k * 4 + 2]? = some (.int .i64 l[k].ack) ∧ (fcells l)[k * 4 + 3]? = some (.string l[k].data)
  | 0, f :: l, h => ⟨rfl, rfl, rfl, rfl⟩
  | k + 1, f :: l, h => by
    have ih := fcells_get k l (by simpa using h)
    simp only [fcells]
    rw [show (k + 1) * 4 = k * 4 + 1 + 1 + 1 + 1 by omega]
    simp only [List.getElem?_cons_succ, List.getElem_cons_succ]
    exact ih
  | k, [], h => by simp at h
theorem fcells_snoc : ∀ (l : List Frm) (f : Frm), fcells (l ++ [f]) = fcells l ++ [.int .i64 f.epoch, .int .i64 f.seq, .int .i64 f.ack, .string f.data]
  | [], f => rfl
  | x :: l, f => by simp [fcells, fcells_snoc l f]
theorem fcells_one : ∀ (l : List Frm), ∀ u ∈ fcells l, u.oneCell' = true
  | [], u, h => by simp [fcells] at h
  | x :: l, u, h => by
    simp only [fcells, List.mem_cons] at h
    rcases h with rfl | rfl | rfl | rfl | h
    · rfl
    · rfl
    · rfl
    · rfl
    · exact fcells_one l u h

/-- a frame's cells where the slice lies -/
theorem frame_at {w : World} {A : Option Addr} {n : Nat} {l : List Frm} (h : Rd w 4 A n (fcells l)) {k : Nat} (hk : k < n) :
    ∃ b off f, A = some ⟨b, off, none⟩ ∧ l[k]? = some f ∧ w.cell? ⟨b, off + k * 4, none⟩ = some (.int .i64 f.epoch) ∧ w.cell? ⟨b, off + k * 4 + 1, none⟩ = some (.int .i64 f.seq) ∧ w.cell? ⟨b, off + k * 4 + 2, none⟩ = some (.int .i64 f.ack) ∧ w.cell? ⟨b, off + k * 4 + 3, none⟩ = some (.string f.data) := by
  have hl := h.1
  rw [fcells_length] at hl
  have hk' : k < l.length := by omega
  obtain ⟨b, off, e, hc⟩ := h.2 (by omega)
  have g := fcells_get k l hk'
  exact ⟨b, off, l[k], e, by simp [hk'], hc _ _ g.1, hc _ _ g.2.1, hc _ _ g.2.2.1, hc _ _ g.2.2.2⟩

set_option maxHeartbeats 1000000 in
theorem sameFrames_yes (A B : Option Addr) (n c c' : Nat) (l : List Frm) (w : World) (ha : Rd w 4 A n (fcells l)) (hb : Rd w 4 B n (fcells l)) (hn : n ≤ 1099511627776) :
    Calls Try.prog 57 #[.slice A n c, .slice B n c'] w (QuietRet w (.bool true)) := by
  have Ha := Lib.hid ha; clear ha
  have Hb := Lib.hid hb; clear hb
  go_enter Try.func57, Try.ntmps57
  go_wp2
  go_loopw [5] (fun i wr => ∃ k m : Nat, k ≤ n ∧ i = .int .i64 k ∧ w.drewN m = wr) (fun i _ => n - (intOf i).toNat)
  case atStart => exact ⟨0, 0, by omega, rfl, rfl⟩
  case round =>
    obtain ⟨k, m, hk, rfl, rfl⟩ := hrel
    by_cases hlt : k < n
    · obtain ⟨b, off, f, rfl, e1, p0, p1, p2, p3⟩ := frame_at Ha.out hlt
      obtain ⟨b2, off2, f2, rfl, e2, r0, r1, r2, r3⟩ := frame_at Hb.out hlt
      rw [e1] at e2
      injection e2 with e2
      subst e2
      clear e1
      generalize f.epoch = x0 at p0 r0
      generalize f.seq = x1 at p1 r1
      generalize f.ack = x2 at p2 r2
      generalize f.data = x3 at p3 r3
      have hk0 : (0 : Int) ≤ (k : Int) := by omega
      have hkn : (k : Int) < (n : Int) := by omega
      go_wp2
      go_quiet (fail)
      go_wp2
      go_roundw
      case rel => exact ⟨k + 1, _, by omega, by go_num, rfl⟩
      case measure => simp [intOf]; omega
    · obtain rfl : k = n := by omega
      go_wp2
      go_ret
      exact ⟨rfl, m, rfl⟩
end Go.Proofs.Ytjloipjchcaloaa
