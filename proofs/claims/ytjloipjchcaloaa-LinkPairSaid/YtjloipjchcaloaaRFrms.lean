/- The reference's frames. -/
import Derived.Test.YtjloipjchcaloaaFrms
namespace Go.Proofs.Ytjloipjchcaloaa
open Go.RowKit
set_option linter.unusedVariables false

theorem rd_cell {w : World} {b off n k : Nat} {xs : List Value} {u : Value} (h : Rd w 1 (some ⟨b, off, none⟩) n xs) (hk : k < n) (hx : xs[k]? = some u) : w.cell? ⟨b, off + k, none⟩ = some u := by
  obtain ⟨b', off', e, hc⟩ := h.2 (by omega)
  injection e with e
  injection e with e1 e2
  subst e1; subst e2
  exact hc k u hx

set_option maxHeartbeats 4000000 in
set_option maxRecDepth 10000 in
theorem rlnk_frames {w : World} {own : Nat → Nat} {l g : Nat} {L : Lnk} (h : RLnkAt w own l g L) (hss : L.s.sent ≤ 300) (hra : L.r.acked ≤ 300) :
    Calls Try.prog 59 #[.pointer (some ⟨g, 0, none⟩)] w (FramesOk w L.frames) := by
  obtain ⟨i0, hi, hz0, hz1, hz2⟩ := info_parts Try.info78
  have hglt := h.lt
  obtain ⟨ho, he, gs, gr, hb, hs, hr⟩ := h
  obtain ⟨o1, o2, o3, o4, o5, o6⟩ := hs.ok
  have hgs := hs.lt
  have hgr := hr.lt
  obtain ⟨SA, sc, m2, m3⟩ := hs.tells
  obtain ⟨RA, rc, n1⟩ := hr.all
  have c0 : w.cell? ⟨g, 0, none⟩ = some (.int .i64 (L.epoch : Int)) := hb.cell 0
  have c1 : w.cell? ⟨g, 1, none⟩ = some (.pointer (some ⟨gs, 0, none⟩)) := hb.cell 1
  have c2 : w.cell? ⟨g, 2, none⟩ = some (.pointer (some ⟨gr, 0, none⟩)) := hb.cell 2
  have Hb := Lib.hid hb; clear hb
  obtain ⟨F, hF⟩ : ∃ F, L.frames = F := ⟨_, rfl⟩
  rw [hF]
  unfold Lnk.frames at hF
  go_enter Try.func59, Try.ntmps59
  have hg1 := World.grownBy_alloc w (.cells #[] 78) none
  have hb1 : Blk (w.alloc (.cells #[] 78)) w.heap.size 78 #[] := Blk.new w 78 _
  by_cases h0 : L.epoch = 0
  · rw [if_pos h0] at hF
    subst hF
    have hz : ((L.epoch : Int) == 0) = true := by simpa using h0
    go_wp2
    go_ret
    exact ⟨_, 0, rfl, Nat.le_refl _, Nat.zero_le _, hg1, fun own b0 j _ => Row.nil _ _ _ _ _ _⟩
  · rw [if_neg h0] at hF
    have hz : ((L.epoch : Int) == 0) = false := by simpa using h0
    have HF := Lib.hid hF; clear hF
    have hs1 := hs.grown (b0 := w.heap.size) (j := 5) hg1 (Nat.le_refl _)
    have st0 : Step 1 w (fun _ => 0) (w.alloc (.cells #[] 78)) (give (fun _ => 0) w.heap.size 1) := ((Step.refl 1 w (fun _ => 0)).give_ 1).alloc _
    have hO0 : OwnS (w.alloc (.cells #[] 78)) (give (fun _ => 0) w.heap.size 1) 1 78 4 (some ⟨w.heap.size, 0, none⟩) 0 0 [] := ⟨rfl, .inr ⟨_, #[], rfl, give_new (Nat.le_refl _), hb1, Nat.le_refl _, Nat.zero_le _, rfl, rfl⟩⟩
    go_wp2_with fail
    refine (ref10_left hs1 hss).mono ?_
    rintro e w1 ⟨Q, cq, rfl, hnr⟩
    have st1 := st0.trans (((Step.refl 1 _ (give (fun _ => 0) w.heap.size 1)).give_ 2).grown hnr.grown (by simp))
    have hq1 := hnr.row (give (fun _ => 0) w.heap.size 1) (w.alloc (.cells #[] 78)).heap.size 2 (Nat.le_refl _)
    have hO1 := hO0.grown (j := 2) hnr.grown (Nat.le_refl _)
    clear hnr hs1 st0 hO0 hb1 hg1
    generalize give (give (fun _ => 0) w.heap.size 1) (w.alloc (.cells #[] 78)).heap.size 2 = og1 at st1 hq1 hO1
    go_wp2_with fail
    obtain ⟨n, hn⟩ : ∃ n, L.s.ds.length = n := ⟨_, rfl⟩
    obtain ⟨a, hav⟩ : ∃ a, L.s.sent - L.s.ds.length = a := ⟨_, rfl⟩
    rw [hn] at hq1 ⊢
    rw [hav] at m3
    have ha3 : a ≤ 300 := by omega
    have hF := HF.out
    clear HF
    rw [hav] at hF
    generalize (L.epoch : Int) = ep at c0 hF hz
    generalize L.r.acked = ak at n1 hF hra
    have HF := Lib.hid hF
    clear hF
    go_loopw [3, 5] (fun q v wr => ∃ (k : Nat) (A : Option Addr) (c : Nat) (og : Nat → Nat), k ≤ n ∧ v = .int .i64 k ∧ q = .slice A k c ∧ Step 1 w (fun _ => 0) wr og ∧ OwnS wr og 1 78 4 A k c (fcells ((frs ep ak a L.s.ds).take k)) ∧ Row wr og 2 9 1 Q n (L.s.ds.map Value.string)) (fun _ v _ => n - (intOf v).toNat)
    case atStart => exact ⟨0, _, 0, og1, by omega, rfl, rfl, st1, hO1, hq1⟩
    case round =>
      clear st1 hO1 hq1
      obtain ⟨k, A, c, og, hk, rfl, rfl, st, hO, hq⟩ := hrel
      by_cases hlt : k < n
      · have hkd : k < L.s.ds.length := by omega
        obtain ⟨qb, qo, qc, rfl, _, hqb, hqx⟩ := hq.2 (by omega)
        have x0 : wr.cell? ⟨qb, qo + k, none⟩ = some (.string L.s.ds[k]) := (hqb.cell _).trans (hqx _ _ (by simp [hkd]))
        have x0A : ∀ o : Obj, (wr.alloc o).cell? ⟨qb, qo + k, none⟩ = some (.string L.s.ds[k]) := fun o => ((hqb.alloc o).cell _).trans (hqx _ _ (by simp [hkd]))
        have hfk := frs_get ep ak k a L.s.ds hkd
        have hold : ∀ (W : World) (og' : Nat → Nat), Step 1 w (fun _ => 0) W og' → W.cell? ⟨g, 0, none⟩ = some (.int .i64 ep) ∧ W.cell? ⟨g, 1, none⟩ = some (.pointer (some ⟨gs, 0, none⟩)) ∧ W.cell? ⟨g, 2, none⟩ = some (.pointer (some ⟨gr, 0, none⟩)) ∧ W.cell? ⟨gs, 3, none⟩ = some (.int .i64 (a : Int)) ∧ W.cell? ⟨gr, 1, none⟩ = some (.slice RA ak rc) := fun W og' hst =>
          ⟨(World.cell?_of_block (w := w) (hst.heap g hglt (by decide))).trans c0, (World.cell?_of_block (w := w) (hst.heap g hglt (by decide))).trans c1, (World.cell?_of_block (w := w) (hst.heap g hglt (by decide))).trans c2,
            (World.cell?_of_block (w := w) (hst.heap gs hgs (by decide))).trans m3, (World.cell?_of_block (w := w) (hst.heap gr hgr (by decide))).trans n1⟩
        obtain ⟨y0, y1, y2, y3, y4⟩ := hold wr og st
        have hal : ∀ o : Obj, (wr.alloc o).cell? ⟨g, 0, none⟩ = some (.int .i64 ep) ∧ (wr.alloc o).cell? ⟨g, 1, none⟩ = some (.pointer (some ⟨gs, 0, none⟩)) ∧ (wr.alloc o).cell? ⟨g, 2, none⟩ = some (.pointer (some ⟨gr, 0, none⟩)) ∧ (wr.alloc o).cell? ⟨gs, 3, none⟩ = some (.int .i64 (a : Int)) ∧ (wr.alloc o).cell? ⟨gr, 1, none⟩ = some (.slice RA ak rc) := fun o => hold (wr.alloc o) og (st.alloc o)
        have z0 := fun o => (hal o).1
        have z1 := fun o => (hal o).2.1
        have z2 := fun o => (hal o).2.2.1
        have z3 := fun o => (hal o).2.2.2.1
        have z4 := fun o => (hal o).2.2.2.2
        have Hold := Lib.hid hold
        clear hold hal hqb hqx
        have hw1 := wrapI ((a : Int) + (k : Int)) (by omega)
        have hw2 := wrapI ((a : Int) + (k : Int) + 1) (by omega)
        have hk0 : (0 : Int) ≤ (k : Int) := by omega
        have hkn : (k : Int) < (n : Int) := by omega
        rw [show ((a + k + 1 : Nat) : Int) = (a : Int) + (k : Int) + 1 by omega] at hfk
        have hfd : (L.s.ds.map Value.string)[k]? = some (.string L.s.ds[k]) := by simp [hkd]
        generalize L.s.ds[k] = d at x0 x0A hfk hfd
        have Hfd := Lib.hid hfd; clear hfd
        have HO := Lib.hid hO; clear hO
        have Hq := Lib.hid hq; clear hq
        have Hst := Lib.hid st; clear st
        have Hfk := Lib.hid hfk; clear hfk
        go_wp2_with fail
        go_region_held3 (fun w' => w'.cell? ⟨g, 0, none⟩ = some (.int .i64 ep) ∧ w'.cell? ⟨g, 1, none⟩ = some (.pointer (some ⟨gs, 0, none⟩)) ∧ w'.cell? ⟨g, 2, none⟩ = some (.pointer (some ⟨gr, 0, none⟩)) ∧ w'.cell? ⟨gs, 3, none⟩ = some (.int .i64 (a : Int)) ∧ w'.cell? ⟨gr, 1, none⟩ = some (.slice RA ak rc) ∧ w'.cell? ⟨qb, qo + k, none⟩ = some (.string d)) (first | (go_keep; done) | (refine ⟨?_, ?_, ?_, ?_, ?_, ?_⟩ <;> assumption))
         ((refine step_mine rfl (.tmp 24) (.tmp 52) 87 rfl 78 i0 (.agg #[.int .i64 0, .int .i64 0, .int .i64 0, .string ByteArray.empty]) 4 40 Try.underlying87 hi hz0 hz1 hz2 rfl (by decide) og 1 A k c _ (by rfl) ((HO.out.alloc _).drewN 1) (some ⟨wr.heap.size, 0, none⟩) 1 1 [.int .i64 ep, .int .i64 ((a : Int) + (k : Int) + 1), .int .i64 (ak : Int), .string d] (by rfl) (Rd.of_blk ((Blk.new wr 78 _).drewN 1) (by simp) (fun j u h => by simpa using h)) (by simp [Value.oneCell']) (by unfold maxLen; omega) (by omega) ?_
           intro A2 c2' w2 og2 hO2 st2
           have st12 := (((Step.refl 1 wr og).alloc (.cells #[.int .i64 ep, .int .i64 ((a : Int) + (k : Int) + 1), .int .i64 (ak : Int), .string d] 78)).drewN 1).trans st2
           have hst2 := Hst.out.trans st12
           have hq2 := Hq.out.step st12 (by omega)
           have kk := Hold.out w2 og2 hst2
           rcases kk with ⟨t0, t1, t2, t3, t4⟩
           have t5 : w2.cell? ⟨qb, qo + k, none⟩ = some (.string d) := rd_cell hq2.rd hlt Hfd.out
           clear st12 st2
           have HO2 := Lib.hid hO2
           clear hO2
           have Hst2 := Lib.hid hst2
           clear hst2
           have Hq2 := Lib.hid hq2
           clear hq2))
        go_wp2
        have hO3 := HO2.out
        rw [frs_take _ _ _ Hfk.out] at hO3
        go_roundw
        case rel => exact ⟨k + 1, A2, c2', og2, by omega, by go_num, rfl, Hst2.out, hO3, Hq2.out⟩
        case measure => simp [intOf]; omega
      · obtain rfl : k = n := by omega
        clear hq
        have hfull : (frs ep ak a L.s.ds).take k = frs ep ak a L.s.ds := List.take_of_length_le (by rw [frs_length]; omega)
        rw [hfull] at hO
        clear hfull
        by_cases hz0' : k = 0
        · have hds : L.s.ds = [] := List.eq_nil_of_length_eq_zero (by omega)
          subst hz0'
          have hF := HF.out
          rw [if_pos hds] at hF
          subst hF
          rw [hds] at hO
          have hold : ∀ (W : World) (og' : Nat → Nat), Step 1 w (fun _ => 0) W og' → W.cell? ⟨g, 0, none⟩ = some (.int .i64 ep) ∧ W.cell? ⟨g, 2, none⟩ = some (.pointer (some ⟨gr, 0, none⟩)) ∧ W.cell? ⟨gr, 1, none⟩ = some (.slice RA ak rc) := fun W og' hst =>
            ⟨(World.cell?_of_block (w := w) (hst.heap g hglt (by decide))).trans c0, (World.cell?_of_block (w := w) (hst.heap g hglt (by decide))).trans c2, (World.cell?_of_block (w := w) (hst.heap gr hgr (by decide))).trans n1⟩
          obtain ⟨y0, y2, y4⟩ := hold wr og st
          have z0 := fun o => (hold (wr.alloc o) og (st.alloc o)).1
          have z2 := fun o => (hold (wr.alloc o) og (st.alloc o)).2.1
          have z4 := fun o => (hold (wr.alloc o) og (st.alloc o)).2.2
          have Hold := Lib.hid hold
          clear hold
          have HO := Lib.hid hO; clear hO
          have Hst := Lib.hid st; clear st
          go_wp2_with fail
          go_region_held3 (fun w' => w'.cell? ⟨g, 0, none⟩ = some (.int .i64 ep) ∧ w'.cell? ⟨g, 2, none⟩ = some (.pointer (some ⟨gr, 0, none⟩)) ∧ w'.cell? ⟨gr, 1, none⟩ = some (.slice RA ak rc)) (first | (go_keep; done) | (refine ⟨?_, ?_, ?_⟩ <;> assumption))
           ((refine step_mine rfl (.tmp 57) (.tmp 71) 87 rfl 78 i0 (.agg #[.int .i64 0, .int .i64 0, .int .i64 0, .string ByteArray.empty]) 4 40 Try.underlying87 hi hz0 hz1 hz2 rfl (by decide) og 1 A 0 c _ (by rfl) ((HO.out.alloc _).drewN 1) (some ⟨wr.heap.size, 0, none⟩) 1 1 [.int .i64 ep, .int .i64 0, .int .i64 (ak : Int), .string { data := #[] }] (by rfl) (Rd.of_blk ((Blk.new wr 78 _).drewN 1) (by simp) (fun j u h => by simpa using h)) (by simp [Value.oneCell']) (by unfold maxLen; omega) (by omega) ?_
             intro A2 c2' w2 og2 hO2 st2
             have hst2 := Hst.out.trans ((((Step.refl 1 wr og).alloc (.cells #[.int .i64 ep, .int .i64 0, .int .i64 (ak : Int), .string { data := #[] }] 78)).drewN 1).trans st2)
             have kk := Hold.out w2 og2 hst2
             rcases kk with ⟨t0, t2, t4⟩
             clear st2
             have HO2 := Lib.hid hO2
             clear hO2
             have Hst2 := Lib.hid hst2
             clear hst2))
          go_wp2
          go_ret
          exact ⟨A2, c2', rfl, NewRow.of_mine Hst2.out HO2.out⟩
        · have hne : ((k : Int) == 0) = false := by simp; omega
          have hF := HF.out
          rw [if_neg (fun e => hz0' (by rw [← hn, e]; rfl))] at hF
          have hl : (frs ep ak a L.s.ds).length = k := by rw [frs_length, hn]
          have HO := Lib.hid hO; clear hO
          have Hst := Lib.hid st; clear st
          clear HF
          have HF := Lib.hid hF; clear hF
          have Hl := Lib.hid hl; clear hl
          go_wp2
          go_ret
          rw [← HF.out]
          refine ⟨A, c, by rw [Hl.out]; rfl, ?_⟩
          rw [Hl.out]
          exact NewRow.of_mine Hst.out HO.out
end Go.Proofs.Ytjloipjchcaloaa
