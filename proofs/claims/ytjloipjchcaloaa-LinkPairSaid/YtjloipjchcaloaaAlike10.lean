/- alike of layer 10's statements: true of a sender and the reference's one that stand as one state; it changes nothing that was there. -/
import Derived.Test.YtjloipjchcaloaaRef10
namespace Go.Proofs.Ytjloipjchcaloaa
open Go.RowKit
set_option linter.unusedVariables false

theorem unacked_qq {i g : Nat} {own : Nat → Nat} {s : Snd} {w : World} (h : SndAt w own i g s) (n : Int) (hn : (s.ds.length : Int) = n) (m : Nat) :
    Calls Try.prog 20 #[.pointer (some ⟨g, 0, none⟩)] (w.drewN m) fun e w' => e = .returned (.int .i64 n) ∧ ∃ m', w' = w.drewN m' := by
  subst hn
  exact (snd_unacked (h.drewN m)).mono fun e w' ⟨a, b⟩ => ⟨a, m, b.symm⟩
theorem sent_qq {i g : Nat} {own : Nat → Nat} {s : Snd} {w : World} (h : SndAt w own i g s) (n : Int) (hn : (s.sent : Int) = n) (m : Nat) :
    Calls Try.prog 25 #[.pointer (some ⟨g, 0, none⟩)] (w.drewN m) fun e w' => e = .returned (.int .i64 n) ∧ ∃ m', w' = w.drewN m' := by
  subst hn
  exact (snd_sent (h.drewN m)).mono fun e w' ⟨a, b⟩ => ⟨a, m, b.symm⟩

set_option maxHeartbeats 4000000 in
set_option maxRecDepth 10000 in
theorem alike10 {i i2 g g2 : Nat} {own : Nat → Nat} {s : Snd} {w : World} (hs : SndAt w own i g s) (hm : Ref10At w own i2 g2 s) (ha : s.sent ≤ 300) :
    Calls Try.prog 43 #[.pointer (some ⟨g, 0, none⟩), .pointer (some ⟨g2, 0, none⟩)] w (BoolRet w true) := by
  have hgl2 := hm.lt
  obtain ⟨o1, o2, o3, o4, o5, o6⟩ := hs.ok
  obtain ⟨n, hn⟩ : ∃ n, s.ds.length = n := ⟨_, rfl⟩
  obtain ⟨a, ha'⟩ : ∃ a, s.sent - s.ds.length = a := ⟨_, rfl⟩
  go_enter Try.func43, Try.ntmps43
  go_wp2_with fail
  refine (snd_pieces hs).mono ?_
  rintro e w1 ⟨P, cp, rfl, hnr⟩
  have hs1 := hs.grown (b0 := w.heap.size) (j := 7) hnr.grown (Nat.le_refl _)
  have hm1 := hm.grown (b0 := w.heap.size) (j := 7) hnr.grown (Nat.le_refl _)
  have st1 : Step 1 w (fun _ => 0) w1 (give (fun _ => 0) w.heap.size 1) := hnr.step _ _
  have hp1 := hnr.row (fun _ => 0) w.heap.size 1 (Nat.le_refl _)
  have hcl := hnr.le
  clear hnr hs hm
  generalize give (fun _ => 0) w.heap.size 1 = og1 at st1 hp1
  generalize give own w.heap.size 7 = own1 at hs1 hm1
  go_wp2_with fail
  refine (ref10_left hm1 ha).mono ?_
  rintro e w2 ⟨Q, cq, rfl, hnr⟩
  have hs2 := hs1.grown (b0 := w1.heap.size) (j := 7) hnr.grown (Nat.le_refl _)
  have hm2 := hm1.grown (b0 := w1.heap.size) (j := 7) hnr.grown (Nat.le_refl _)
  have st2 := st1.trans (hnr.step og1 1)
  have hp2 : Row w2 (give og1 w1.heap.size 1) 1 30 2 P s.ds.length s.cells := hp1.keep fun k hk ho => ⟨hnr.grown.block k hk (by simp), by rw [give_old (by omega)]; exact ho⟩
  have hq2 := hnr.row og1 w1.heap.size 1 (Nat.le_refl _)
  clear hnr hs1 hm1 hp1 st1
  generalize give og1 w1.heap.size 1 = og2 at st2 hp2 hq2
  generalize give own1 w1.heap.size 7 = own2 at hs2 hm2
  have Hu := Lib.hid (unacked_qq hs2 (n : Int) (by omega))
  have Hs := Lib.hid (sent_qq hs2 (s.sent : Int) rfl)
  obtain ⟨MA, mc, hm2c, hm3c⟩ := hm2.tells
  have hcells : s.cells = pcs a s.ds := by unfold Snd.cells; rw [ha']
  rw [hcells, hn] at hp2
  rw [hn] at hq2 hcl
  rw [ha'] at hm3c
  clear hs2 hm2 hcells
  rw [hn]
  have hasz : a ≤ 300 := by omega
  have hnsz : n ≤ 16 := by omega
  have hdl : s.ds.length = n := hn
  clear o1 o2 o3 o4 o5 o6 ha' hn
  generalize s.ds = ds at hp2 hq2 hdl
  generalize s.sent = sent at Hs hm2c ha
  go_wp2_with fail
  go_quiet ((first | (go_at_call 20; exact Hu.out _) | (go_at_call 25; exact Hs.out _)))
  have st3 := st2.drewN nq
  have hp3 : Row (w2.drewN nq) og2 1 30 2 P n (pcs a ds) := hp2
  have hq3 : Row (w2.drewN nq) og2 1 9 1 Q n (ds.map Value.string) := hq2
  have hm3 : (w2.drewN nq).cell? ⟨g2, 3, none⟩ = some (.int .i64 (a : Int)) := hm3c
  clear st2 hp2 hq2 hm3c hm2c Hu Hs
  generalize w2.drewN nq = w3 at st3 hp3 hq3 hm3 ⊢
  go_wp2_with fail
  have hgr3 := grown_of_step st3 (by omega)
  by_cases hz : n = 0
  · subst hz
    clear hp3 hq3 hm3
    refine wp_loop_rounds 1 ?_
    rw [rounds_succ]
    go_wp2
    go_ret
    exact ⟨rfl, hgr3⟩
  · obtain ⟨b, off, cs, rfl, hob, hb, hx⟩ := hp3.2 (by omega)
    clear hp3 hgr3
    have Hdl := Lib.hid hdl; clear hdl
    have Hgl2 := Lib.hid hgl2; clear hgl2
    go_loopw [37] (fun v wr => ∃ (j : Nat) (og : Nat → Nat) (cs' : Array Value), j ≤ n ∧ v = .int .i64 j ∧ Step 1 w (fun _ => 0) wr og ∧ og b = 1 ∧ Blk wr b 30 cs' ∧ (∀ u x, j * 2 ≤ u → (pcs a ds)[u]? = some x → cs'[off + u]? = some x) ∧ Row wr og 1 9 1 Q n (ds.map Value.string) ∧ wr.cell? ⟨g2, 3, none⟩ = some (.int .i64 (a : Int))) (fun v _ => n - (intOf v).toNat)
    case atStart => exact ⟨0, og2, cs, by omega, rfl, st3, hob, hb, fun u x _ hu => hx u x hu, hq3, hm3⟩
    case round =>
      clear st3 hob hb hx hq3 hm3
      obtain ⟨j, og, cs', hj, rfl, st, hob, hb, hx, hq, hm⟩ := hrel
      by_cases hlt : j < n
      · have hjd : j < ds.length := by have := Hdl.out; omega
        have k0 : wr.cell? ⟨b, off + j * 2, none⟩ = some (.int .i64 ((a + j + 1 : Nat) : Int)) := (hb.cell _).trans (hx _ _ (by omega) (pcs_seq j a ds hjd))
        have k1 : wr.cell? ⟨b, off + j * 2 + 1, none⟩ = some (.string ds[j]) := (hb.cell _).trans (hx _ _ (by omega) (pcs_data j a ds hjd))
        obtain ⟨qb, qo, qcs, rfl, _, hqb, hqx⟩ := hq.2 (by omega)
        have hqj := hqx j (.string ds[j]) (by simp [hjd])
        generalize ds[j] = y at k1 hqj
        have hcq : ∀ o : Obj, (wr.alloc o).cell? ⟨qb, qo + j, none⟩ = some (.string y) := fun o => ((hqb.alloc o).cell _).trans hqj
        have hmA : ∀ o : Obj, (wr.alloc o).cell? ⟨g2, 3, none⟩ = some (.int .i64 (a : Int)) := fun o => (World.cell?_alloc_lt wr o _ (by have := st.size; have := Hgl2.out; simp; omega)).trans hm
        clear hqb hqx hqj
        have f0 := hb.free (off + j * 2)
        have f1 := hb.free (off + j * 2 + 1)
        have hw1 := wrapI ((a : Int) + (j : Int)) (by omega)
        have hw2 := wrapI ((a : Int) + (j : Int) + 1) (by omega)
        have hj0 : (0 : Int) ≤ (j : Int) := by omega
        have hjn : (j : Int) < (n : Int) := by omega
        rw [show ((a + j + 1 : Nat) : Int) = (a : Int) + (j : Int) + 1 by omega] at k0
        have Hx := Lib.hid hx; clear hx
        have Hb := Lib.hid hb; clear hb
        have Hst := Lib.hid st; clear st
        have Hq := Lib.hid hq; clear hq
        have Hm := Lib.hid hm
        go_wp2
        go_quiet (fail)
        clear hcq hmA k0 k1 f0 f1 hm
        generalize hW : (wr.alloc _).drewN nq = W
        have hbW : Blk W b 30 cs' := by rw [← hW]; exact (Hb.out.alloc _).drewN _
        have hstW : Step 1 w (fun _ => 0) W og := by rw [← hW]; exact (Hst.out.alloc _).drewN _
        have hqW : Row W og 1 9 1 (some ⟨qb, qo, none⟩) n (ds.map Value.string) := by
          rw [← hW]
          exact (Hq.out.keep (own' := og) fun k hk ho => ⟨Below.heap_alloc _ _ _ hk, ho⟩ : Row (wr.alloc _) og 1 9 1 _ n _)
        have hmW : W.cell? ⟨g2, 3, none⟩ = some (.int .i64 (a : Int)) := by rw [← hW]; exact (World.cell?_alloc_lt wr _ _ (by have := Hst.out.size; have := Hgl2.out; simp; omega)).trans Hm.out
        clear hW
        have k0 : W.cell? ⟨b, off + j * 2, none⟩ = some (.int .i64 ((a + j + 1 : Nat) : Int)) := (hbW.cell _).trans (Hx.out _ _ (by omega) (pcs_seq j a ds hjd))
        have k1 : W.cell? ⟨b, off + j * 2 + 1, none⟩ = some (.string ds[j]) := (hbW.cell _).trans (Hx.out _ _ (by omega) (pcs_data j a ds hjd))
        have f0 := hbW.free (off + j * 2)
        have hb1 := hbW.set_ (off + j * 2) (.int .i64 0)
        have k1' : (W.setCell ⟨b, off + j * 2, none⟩ (.int .i64 0)).cell? ⟨b, off + j * 2 + 1, none⟩ = some (.string ds[j]) := by
          rw [hb1.cell, Array.getElem?_setIfInBounds_ne (by omega), ← hbW.cell]; exact k1
        have f1' := hb1.free (off + j * 2 + 1)
        have f1 := hbW.free (off + j * 2 + 1)
        clear hb1
        have HbW := Lib.hid hbW; clear hbW
        have HstW := Lib.hid hstW; clear hstW
        have HqW := Lib.hid hqW; clear hqW
        have HmW := Lib.hid hmW; clear hmW
        go_wp2
        go_roundw
        case rel =>
          refine ⟨j + 1, og, _, by omega, by go_num, (HstW.out.setCell hob _).setCell hob _, hob, (HbW.out.set_ _ _).set_ _ _, ?_, ?_, ?_⟩
          · intro u x hu hux
            rw [Array.getElem?_setIfInBounds_ne (by omega), Array.getElem?_setIfInBounds_ne (by omega)]
            exact Hx.out u x (by omega) hux
          · exact (HqW.out.set_ HbW.out (by decide) _ _).set_ (HbW.out.set_ _ _) (by decide) _ _
          · have hne : b ≠ g2 := fun e => by
              have h1 := HstW.out.own g2 Hgl2.out
              rw [← e, hob] at h1
              exact absurd h1 (by decide)
            exact (World.cell?_of_block (w := W) ((Below.heap_setCell _ _ _ _ (Ne.symm hne)).trans (Below.heap_setCell _ _ _ _ (Ne.symm hne)))).trans HmW.out
        case measure => simp [intOf]; omega
      · obtain rfl : j = n := by omega
        have Hx := Lib.hid hx; clear hx
        go_wp2
        go_ret
        exact ⟨rfl, grown_of_step st (by omega)⟩
end Go.Proofs.Ytjloipjchcaloaa
