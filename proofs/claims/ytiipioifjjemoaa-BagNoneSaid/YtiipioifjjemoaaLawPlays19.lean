/- The walk of BagPlays. -/
import Derived.Test.YtiipioifjjemoaaSame11
import Derived.Test.YtiipioifjjemoaaAw19
import Derived.Outline
namespace Go.Proofs.Ytiipioifjjemoaa
open Go.RowKit
set_option linter.unusedVariables false

theorem Two.start {w0 w : World} {g : Nat} {X : Hold} (h : Bg w0 g [] X w) (hX : Kept X) : Two w0 g [] w.heap.size [] X (w.alloc (.cells #[.slice none 0 0, .slice none 0 0] 29)) := by
  obtain ⟨own, hB, hb, hx⟩ := h
  have st := StepG.of_grown 4 own (World.grownBy_alloc w (.cells #[.slice none 0 0, .slice none 0 0] 29) none) 20
  exact ⟨_, hB.stepG st (by omega), hb.other st (by omega), ⟨give_new (Nat.le_refl _), by simp, none, 0, none, 0, Blk.new w 29 _, Row.nil _ _ _ _ _ _, Row.nil _ _ _ _ _ _, by simp, by unfold maxLen; omega, by simp, by unfold maxLen; omega⟩, hX.step st (by omega) hx⟩
theorem Two.wf {w0 w : World} {g r : Nat} {s t : BSt} {X : Hold} (h : Two w0 g s r t X w) {l : List ActC} (hw : ∀ a ∈ l, ActWf w0 a) : ∀ a ∈ l, ActWf w a := fun a ha => by
  obtain ⟨h1, h2, h3, h4, h5⟩ := hw a ha
  exact ⟨h1, h2, h3, h4, h.old h5 (by omega)⟩

set_option maxHeartbeats 8000000 in
set_option maxRecDepth 10000 in
theorem plays19 (A : Option Addr) (c : Nat) (l : List ActC) (w : World) (hr : Rd w 5 A l.length (ccells l)) (hw : ∀ a ∈ l, ActWf w a) :
    Calls Try.prog 3 #[.slice A l.length c] w (BoolRet w true) := by
  have Hr := Lib.hid hr; clear hr
  have Hw := Lib.hid hw; clear hw
  obtain ⟨n, hN⟩ : ∃ n, l.length = n := ⟨_, rfl⟩
  have hgr : ∀ (g r : Nat) (s t : BSt) (X : Hold) (W : World), Two w g s r t X W → Calls Try.prog 9 #[.slice A n c] W (BoolRet W (greatC l)) := fun g r s t X W h => by
    rw [← hN]
    exact great19 A c l W (h.old Hr.out (by omega)) (h.wf Hw.out)
  have Hgr := Lib.hid hgr; clear hgr
  rw [hN]
  have HN := Lib.hid hN; clear hN
  go_enter Try.func3, Try.ntmps3
  go_wp2_with fail
  refine (Bg.new w).mono ?_
  rintro e w1 ⟨rfl, h1⟩
  have h2 := Two.start h1 Kept.none
  clear h1
  go_wp2_with fail
  obtain ⟨W2, hW2⟩ : ∃ W2, W2 = w1.alloc (.cells #[.slice none 0 0, .slice none 0 0] 29) := ⟨_, rfl⟩
  rw [← hW2] at h2 ⊢
  clear hW2
  refine (awake19 W2).mono ?_
  rintro e w3 ⟨rfl, hg⟩
  have h3 := h2.grown Kept.none hg
  clear h2 hg
  go_wp2_with fail
  refine (Hgr.out _ _ _ _ _ _ h3).mono ?_
  rintro e w4 ⟨rfl, hg⟩
  have h4 := h3.grown Kept.none hg
  clear h3 hg
  cases hgc : greatC l with
  | true =>
    go_wp2_with fail
    refine (awake19 w4).mono ?_
    rintro e w5 ⟨rfl, hg⟩
    have h5 := h4.grown Kept.none hg
    clear h4 hg
    go_wp2
    go_ret
    exact ⟨rfl, h5.end_⟩
  | false =>
    obtain ⟨hn60, hsmall⟩ := greatC_small hgc
    rw [HN.out] at hn60
    have Hsmall := Lib.hid hsmall; clear hsmall hgc
    have h40 := Lib.hid Small60.nil
    go_wp2_with fail
    go_loopw [27] (fun v wr => ∃ k : Nat, k ≤ n ∧ v = .int .i64 k ∧ ∃ s, Hid (Small60 s) ∧ Two w w.heap.size s w1.heap.size s (fun _ _ => True) wr) (fun v _ => n - (intOf v).toNat)
    case atStart => exact ⟨0, by omega, rfl, [], h40, h4⟩
    case round =>
      clear h4 h40
      obtain ⟨k, hk, rfl, s, Hs, hT⟩ := hrel
      by_cases hlt : k < n
      · obtain ⟨b, off, a, rfl, hla, d0, d1, d2, d3, d4⟩ := actsC_at (hT.old Hr.out (by omega)) (k := k) (by rw [HN.out]; exact hlt)
        have hwa := Hw.out a (List.mem_of_getElem? hla)
        obtain ⟨ha20, hap⟩ := Hsmall.out a (List.mem_of_getElem? hla)
        have Hwa := Lib.hid hwa; clear hwa
        have Hst := Lib.hid (Hs.out.step a hap); clear hap hla
        obtain ⟨s2, hs2⟩ : ∃ s2, stepC s a = s2 := ⟨_, rfl⟩
        have hdo := fun (W : World) (h : Two w w.heap.size s w1.heap.size s (fun w' own => True ∧ own wr.heap.size = 31 ∧ Blk w' wr.heap.size 34 #[.int .i64 a.kind, .int .i64 a.n, .int .i64 a.bit, .int .u32 a.mask, .slice a.A a.ps.length a.c]) W) => do19 h (Kept.blk Kept.none 31 (by omega) wr.heap.size 34 #[.int .i64 a.kind, .int .i64 a.n, .int .i64 a.bit, .int .u32 a.mask, .slice a.A a.ps.length a.c]) a Hwa.out Hs.out.smallB ha20
        rw [hs2] at hdo Hst
        have h5 := hT.alloc Kept.none 34 #[.int .i64 a.kind, .int .i64 a.n, .int .i64 a.bit, .int .u32 a.mask, .slice a.A a.ps.length a.c]
        have K5 := Lib.hid (Kept.blk Kept.none 31 (by omega) wr.heap.size 34 #[.int .i64 a.kind, .int .i64 a.n, .int .i64 a.bit, .int .u32 a.mask, .slice a.A a.ps.length a.c])
        have Hdo := Lib.hid hdo; clear hdo hs2 hT Hwa
        obtain ⟨kd, an, bit, mask, aA, ac, ps⟩ := a
        dsimp only at d0 d1 d2 d3 d4 h5 K5 Hdo ha20
        obtain ⟨m, hm⟩ : ∃ m, ps.length = m := ⟨_, rfl⟩
        rw [hm] at d4 h5 K5 Hdo
        clear hm ha20
        go_wp2_with fail
        generalize wr.alloc (.cells #[.int .i64 kd, .int .i64 an, .int .i64 bit, .int .u32 mask, .slice aA m ac] 34) = W5 at h5 ⊢
        have hb5 := h5.blk (fun _ _ h => h.2.2)
        have y0 : W5.cell? ⟨wr.heap.size, 0, none⟩ = some (.int .i64 kd) := hb5.cell 0
        have y1 : W5.cell? ⟨wr.heap.size, 1, none⟩ = some (.int .i64 an) := hb5.cell 1
        have y2 : W5.cell? ⟨wr.heap.size, 2, none⟩ = some (.int .i64 bit) := hb5.cell 2
        have y3 : W5.cell? ⟨wr.heap.size, 3, none⟩ = some (.int .u32 mask) := hb5.cell 3
        have y4 : W5.cell? ⟨wr.heap.size, 4, none⟩ = some (.slice aA m ac) := hb5.cell 4
        have hE0 : Two w w.heap.size s w1.heap.size s _ W5.drew := h5.drewN K5.out 1
        clear hb5 h5 d0 d1 d2 d3 d4
        have hl2 : s2.length ≤ 4096 ∨ True := .inr trivial
        clear hl2
        go_region_with
         (first
          | (go_at_call 11
             refine (same16 _ _ _ _ _ _ w7 hR7 hQ7 (by omega)).mono ?_
             rintro e w8 ⟨rfl, mq, rfl⟩)
          | (go_at_call 12
             refine (tw_all hE6).mono ?_
             rintro e w7 ⟨A7, c7, rfl, hnr⟩
             have hE7 := hE6.grown K5.out hnr.grown
             have hR7 : Rd w7 3 A7 s2.length (pks s2) := (hnr.row (fun _ => 0) w6.heap.size 30 (Nat.le_refl _)).rd
             have hQ7 : Rd w7 3 rA s2.length (pks s2) := hQ6.keep (fun b' off' h0 hA hb' => hnr.grown.block _ hb' (by simp)) (by omega)
             have q7 : w7.cell? ⟨w1.heap.size, 0, none⟩ = some (.slice rA s2.length rc) := World.grownBy.cell hnr.grown q6 (by simp)
             clear hnr)
          | (go_at_call 10
             refine (Hdo.out _ hE0).mono ?_
             rintro e w6 ⟨rfl, hE6⟩
             obtain ⟨rA, rc, rA2, rc2, hrb, hQ6⟩ := hE6.refs
             have q6 : w6.cell? ⟨w1.heap.size, 0, none⟩ = some (.slice rA s2.length rc) := hrb.cell 0
             have hl6 : s2.length ≤ 4096 := by obtain ⟨_, _, hb, _⟩ := hE6; exact hb.2.1
             clear hrb))
        all_goals
          have hE8 := (hE7.drewN K5.out mq).weaken (Y := fun _ _ => True) (fun _ _ _ => trivial)
          clear hE7 hE6 hE0 hQ7 hQ6 hR7 q7 q6
          go_wp2_with fail
          go_roundw
          case rel => exact ⟨k + 1, by omega, by go_num, s2, Hst, hE8⟩
          case measure => simp [intOf]; omega
      · obtain rfl : k = n := by omega
        go_wp2_with fail
        refine (tw_at_no hT Kept.none (-1) (.inl (by omega))).mono ?_
        rintro e w6 ⟨rfl, h6⟩
        have h7 := h6.grown Kept.none (World.grownBy_alloc w6 (.cells #[.int .i64 0, .int .i64 0, .string ByteArray.empty] 39) none)
        clear h6 hT
        have Hlen := Lib.hid (show ((s.length : Nat) : Int) = (s.length : Int) from rfl)
        go_wp2_with fail
        refine (tw_len h7 _ rfl).mono ?_
        rintro e w8 ⟨rfl, rfl⟩
        go_wp2_with fail
        refine (tw_at_no h7 Kept.none _ (.inr (Int.le_refl _))).mono ?_
        rintro e w9 ⟨rfl, h9⟩
        have h10 := h9.grown Kept.none (World.grownBy_alloc w9 (.cells #[.int .i64 0, .int .i64 0, .string ByteArray.empty] 39) none)
        clear h7 h9
        go_wp2
        go_ret
        exact ⟨rfl, h10.end_⟩
end Go.Proofs.Ytiipioifjjemoaa
