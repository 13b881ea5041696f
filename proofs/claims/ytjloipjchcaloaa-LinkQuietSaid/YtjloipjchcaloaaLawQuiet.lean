/- The walk of LinkQuiet. -/
import Derived.Test.YtjloipjchcaloaaEndO
import Derived.Test.YtjloipjchcaloaaAw12
namespace Go.Proofs.Ytjloipjchcaloaa
open Go.RowKit
set_option linter.unusedVariables false
attribute [local go_sem ↓] run_max_mx run_min_mn

theorem Kept.rowAt {X : World → (Nat → Nat) → Prop} (h : Kept X) (j : Nat) (hj : j / 10 = 3) (t size : Nat) (A : Option Addr) (n : Nat) (xs : List Value) : Kept (fun w own => X w own ∧ Row w own j t size A n xs) :=
  fun w own w' own' hk hx => ⟨h w own w' own' hk hx.1, hx.2.keep fun k hk' ho => ⟨(hk k hk' (by rw [ho]; exact hj)).1, by rw [(hk k hk' (by rw [ho]; exact hj)).2]; exact ho⟩⟩
theorem Kept.blkAt {X : World → (Nat → Nat) → Prop} (h : Kept X) (j : Nat) (hj : j / 10 = 3) (b t : Nat) (cs : Array Value) : Kept (fun w own => X w own ∧ own b = j ∧ Blk w b t cs) :=
  fun w own w' own' hk hx => by
    have := hk b hx.2.2.lt (by rw [hx.2.1]; exact hj)
    exact ⟨h w own w' own' hk hx.1, by rw [this.2]; exact hx.2.1, hx.2.2.of_eq this.1⟩

section
variable {w0 w w' : World} {g1 : Nat} {L1 : Lnk} {X Y : World → (Nat → Nat) → Prop}
theorem EndO.holdAt {t size n c : Nat} {A : Option Addr} {xs : List Value} (h : EndO w0 g1 L1 X w) (hX : Kept X) (j : Nat) (hnr : NewRow t size xs w A n c w') : EndO w0 g1 L1 (fun w own => X w own ∧ Row w own j t size A n xs) w' := by
  obtain ⟨own, hB, h1, hx⟩ := h
  have st := StepG.of_grown 4 own hnr.grown j
  exact ⟨_, hB.stepG st (by omega), h1.other st (by omega), hX.step st (by omega) hx, hnr.row own w.heap.size j (Nat.le_refl _)⟩
theorem EndO.store {b t : Nat} {cs : Array Value} (h : EndO w0 g1 L1 (fun w own => Y w own ∧ own b = 32 ∧ Blk w b t cs) w) (hY : ∀ w own w' own', Step 32 w own w' own' → Y w own → Y w' own') (o : Nat) (u : Value) :
    EndO w0 g1 L1 (fun w own => Y w own ∧ own b = 32 ∧ Blk w b t (cs.setIfInBounds o u)) (w.setCell ⟨b, o, none⟩ u) := by
  obtain ⟨own, hB, h1, hy, ho, hb⟩ := h
  have st : Step 32 w own (w.setCell ⟨b, o, none⟩ u) own := (Step.refl _ _ _).setCell ho u
  have stg := st.toG (l := 3) (by omega)
  exact ⟨own, hB.stepG stg (by omega), h1.other stg (by omega), hY _ _ _ _ st hy, ho, hb.set_ o u⟩
end

/-- what LinkQuiet knows of its end -/
def QuietOk (e0 : Nat) (L : Lnk) : Prop := L.epoch = e0 ∧ L.r.acked = 0 ∧ L.s.sent = L.s.ds.length
theorem QuietOk.off {e0 : Nat} {L : Lnk} (h : QuietOk e0 L) (d : ByteArray) : QuietOk e0 { L with s := L.s.off d } := by
  refine ⟨h.1, h.2.1, ?_⟩
  have := h.2.2
  show (L.s.off d).sent = (L.s.off d).ds.length
  unfold Snd.off
  split
  · exact this
  · split
    · exact this
    · simp [this]
theorem QuietOk.frame {e0 : Nat} {L : Lnk} (h : QuietOk e0 L) (he : e0 ≠ 0) :
    L.frames.length = (if L.s.ds.length = 0 then 1 else L.s.ds.length) ∧ ∀ (k : Nat) (f : Frm), L.frames[k]? = some f → f.epoch = (e0 : Int) ∧ f.ack = 0 ∧ f.seq = (if L.s.ds.length = 0 then 0 else (k : Int) + 1) := by
  obtain ⟨h1, h2, h3⟩ := h
  unfold Lnk.frames
  rw [if_neg (by rw [h1]; exact he)]
  by_cases h0 : L.s.ds = []
  · rw [if_pos h0, h0]
    refine ⟨rfl, fun k f hk => ?_⟩
    cases k with
    | zero =>
      simp at hk
      subst hk
      exact ⟨by rw [h1], by simp [h2], rfl⟩
    | succ k => simp at hk
  · have hne : L.s.ds.length ≠ 0 := fun e => h0 (List.eq_nil_of_length_eq_zero e)
    rw [if_neg h0, if_neg hne]
    refine ⟨frs_length _ _ _ _, fun k f hk => ?_⟩
    have hkl : k < L.s.ds.length := by
      have := (List.getElem?_eq_some_iff.1 hk).1
      rwa [frs_length] at this
    rw [frs_get _ _ _ _ _ hkl] at hk
    injection hk with hk
    subst hk
    rw [if_neg hne]
    exact ⟨by rw [h1], by simp [h2], by simp; omega⟩

set_option maxHeartbeats 4000000 in
set_option maxRecDepth 10000 in
theorem quiet12_walk (x0 x1 x2 : Int) (A : Option Addr) (c : Nat) (l : List ByteArray) (w : World) (hr : Rd w 1 A l.length (l.map Value.string)) :
    Calls Try.prog 15 #[.agg #[.int .i64 x0, .int .i64 x1, .int .i64 x2], .slice A l.length c] w (BoolRet w true) := by
  have Hr := Lib.hid hr; clear hr
  generalize hN : l.length = m at *
  have HN := Lib.hid hN; clear hN
  have hP := (Pre.start w).alloc Kept.none 70 #[.int .i64 x0, .int .i64 x1, .int .i64 x2]
  go_enter Try.func15, Try.ntmps15
  go_wp2_with fail
  generalize w.alloc (.cells #[.int .i64 x0, .int .i64 x1, .int .i64 x2] 70) = W0 at hP ⊢
  generalize w.heap.size = bx at hP ⊢
  have hP := hP.weaken (Y := fun _ _ => True) (fun _ _ _ => trivial)
  refine (pre_new hP Kept.none x0 x1 x2 false).mono ?_
  rintro e w1 ⟨rfl, hE⟩
  generalize W0.heap.size = ga at hE ⊢
  clear hP
  obtain ⟨L0, hL0⟩ : ∃ L0 : Lnk, L0 = Lnk.new x0 x1 x2 false := ⟨_, rfl⟩
  rw [← hL0] at hE
  have hq0 : QuietOk L0.epoch L0 := by rw [hL0]; exact ⟨rfl, rfl, rfl⟩
  have he0 : L0.epoch ≤ 1099511627776 := by obtain ⟨_, _, h, _⟩ := hE; exact h.2.1
  generalize L0.epoch = e0 at hq0 he0
  clear hL0
  go_wp2_with fail
  refine (awake12 w1).mono ?_
  rintro e w2 ⟨rfl, hg⟩
  have hE2 := hE.grown Kept.none hg
  clear hE hg
  by_cases hm : 40 < m
  · go_wp2_with fail
    refine (awake12 w2).mono ?_
    rintro e w3 ⟨rfl, hg⟩
    have hE3 := hE2.grown Kept.none hg
    clear hE2 hg
    go_wp2
    go_ret
    exact ⟨rfl, hE3.end_⟩
  · have Hq0 := Lib.hid hq0; clear hq0
    go_wp2_with fail
    go_loopw [33] (fun v wr => ∃ k : Nat, k ≤ m ∧ v = .int .i64 k ∧ ∃ L : Lnk, Hid (QuietOk e0 L) ∧ EndO w ga L (fun _ _ => True) wr) (fun v _ => m - (intOf v).toNat)
    case atStart => exact ⟨0, by omega, rfl, L0, Hq0, hE2⟩
    case round =>
      clear hE2 Hq0
      obtain ⟨k, hk, rfl, L, Hq, hs⟩ := hrel
      by_cases hlt : k < m
      · have hrd : Rd wr 1 A m (l.map Value.string) := Hr.out.keep (fun b off _ _ hb => hs.end_.block b hb (by simp)) (by omega)
        obtain ⟨b, off, hkl, rfl, c0⟩ := hrd.map_at hlt
        clear hrd
        generalize l[k] = tx at c0
        by_cases ht : 50 < tx.size
        · go_wp2_with fail
          go_ret
          exact ⟨rfl, hs.end_⟩
        · go_wp2_with fail
          refine (endo_offer hs Kept.none tx _ _ rfl rfl).mono ?_
          rintro e w5 ⟨rfl, hE5⟩
          have Hq5 := Lib.hid (Hq.out.off tx)
          clear hs c0 Hq
          generalize ({ L with s := L.s.off tx } : Lnk) = L' at hE5 Hq5
          go_wp2_with fail
          go_roundw
          case rel => exact ⟨k + 1, by omega, by go_num, L', Hq5, hE5⟩
          case measure => simp [intOf]; omega
      · obtain rfl : k = m := by omega
        obtain ⟨F, hF⟩ : ∃ F, L.frames = F := ⟨_, rfl⟩
        have HF := Lib.hid hF
        have hfb : F.length ≤ 1099511627776 := by
          rw [← hF]
          obtain ⟨own, _, hl, _⟩ := hs
          exact lnk_frames_le hl
        clear hF
        obtain ⟨fl, hfl⟩ : ∃ fl, F.length = fl := ⟨_, rfl⟩
        rw [hfl] at hfb
        have Hfl := Lib.hid hfl; clear hfl
        have hep : (L.epoch : Int) = (e0 : Int) := by rw [Hq.out.1]
        have Hep := Lib.hid hep; clear hep
        obtain ⟨dl, hdl⟩ : ∃ dl, L.s.ds.length = dl := ⟨_, rfl⟩
        have Hdl := Lib.hid (show (L.s.ds.length : Int) = (dl : Int) by rw [hdl])
        have hdlb : dl ≤ 16 := by
          obtain ⟨own, _, ⟨_, _, _, _, _, hsn, _⟩, _⟩ := hs
          obtain ⟨_, o2, _, _, _, o6⟩ := hsn.ok
          omega
        have hdf : e0 ≠ 0 → fl = (if dl = 0 then 1 else dl) ∧ ∀ (k : Nat) (f : Frm), F[k]? = some f → f.epoch = (e0 : Int) ∧ f.ack = 0 ∧ f.seq = (if dl = 0 then 0 else (k : Int) + 1) := fun h => by
          have := Hq.out.frame h
          rw [HF.out, Hfl.out, hdl] at this
          exact this
        have hd0 : e0 = 0 → fl = 0 := fun h => by
          rw [← Hfl.out, ← HF.out]
          unfold Lnk.frames
          rw [if_pos (by rw [Hq.out.1]; exact h)]
          rfl
        have Hdf := Lib.hid hdf; clear hdf
        have Hd0 := Lib.hid hd0; clear hd0
        clear hdl
        go_wp2_with fail
        refine (endo_frames hs).mono ?_
        rw [HF.out]
        rintro e w5 ⟨A5, c5, rfl, hnr⟩
        rw [Hfl.out] at hnr ⊢
        have hE5 := hs.holdAt Kept.none 32 hnr
        have HK5 := Lib.hid (Kept.rowAt Kept.none 32 rfl 78 4 A5 fl (fcells F))
        clear hs hnr
        go_wp2_with fail
        refine (endo_frames hE5).mono ?_
        rw [HF.out]
        rintro e w6 ⟨A6, c6, rfl, hnr⟩
        rw [Hfl.out] at hnr ⊢
        have hE6 := hE5.hold HK5.out hnr
        have HK6 := Lib.hid (Kept.row HK5.out 78 4 A6 fl (fcells F))
        clear hE5 hnr
        have hra : Rd w6 4 A5 fl (fcells F) := by obtain ⟨own, _, _, h⟩ := hE6; exact h.1.2.rd
        have hrb : Rd w6 4 A6 fl (fcells F) := by obtain ⟨own, _, _, h⟩ := hE6; exact h.2.rd
        go_wp2_with fail
        refine (sameFrames_yes _ _ _ _ _ _ _ hra hrb hfb).mono ?_
        rintro e w7 ⟨rfl, mm, rfl⟩
        have hE7 := hE6.grown HK6.out (grown_drewN _ mm)
        clear hE6 hra hrb
        generalize w6.drewN mm = W7 at hE7 ⊢
        go_wp2_with fail
        refine (endo_epoch hE7 (e0 : Int) Hep.out).mono ?_
        rintro e w8 ⟨rfl, rfl⟩
        by_cases hz : e0 = 0
        · have hfz := Hd0.out hz
          have hbz : ((e0 : Int) == 0) = true := by simpa using hz
          clear hz
          subst hfz
          go_wp2
          go_ret
          exact ⟨rfl, hE7.end_⟩
        · have hbz : ((e0 : Int) == 0) = false := by simpa using hz
          obtain ⟨hfd, hfr⟩ := Hdf.out hz
          have Hfr := Lib.hid hfr; clear hfr hz Hdf Hd0
          have hmx : (fl : Int) = max (dl : Int) 1 := by rw [hfd]; split <;> omega
          have hfl1 : 1 ≤ fl := by rw [hfd]; split <;> omega
          have Hfd := Lib.hid hfd; clear hfd
          go_wp2_with fail
          refine (endo_unacked hE7 (dl : Int) Hdl.out).mono ?_
          rintro e w8 ⟨rfl, rfl⟩
          have hbm : ((fl : Int) != max (dl : Int) 1) = false := by rw [hmx]; simp
          clear hmx
          obtain ⟨b, off, cs, hA5, hcs, hE7'⟩ : ∃ b off cs, A5 = some ⟨b, off, none⟩ ∧ (∀ j u, (fcells F)[j]? = some u → cs[off + j]? = some u) ∧ EndO w ga L (fun w own => (True ∧ Row w own 30 78 4 A6 fl (fcells F)) ∧ own b = 32 ∧ Blk w b 78 cs) W7 := by
            obtain ⟨own, hB, hL, ⟨_, hr5⟩, hr6⟩ := hE7
            obtain ⟨b, off, cs, e, ho, hb, hc⟩ := hr5.2 hfl1
            exact ⟨b, off, cs, e, hc, own, hB, hL, ⟨trivial, hr6⟩, ho, hb⟩
          clear hE7 HK5 HK6
          subst hA5
          have Hcs := Lib.hid hcs; clear hcs
          go_wp2_with fail
          go_loopw [66] (fun v wr => ∃ k : Nat, k ≤ fl ∧ v = .int .i64 k ∧ ∃ cs', Hid (∀ i, off + k * 4 ≤ i → cs'[i]? = cs[i]?) ∧ EndO w ga L (fun w own => (True ∧ Row w own 30 78 4 A6 fl (fcells F)) ∧ own b = 32 ∧ Blk w b 78 cs') wr) (fun v _ => fl - (intOf v).toNat)
          case atStart => exact ⟨0, by omega, rfl, cs, Lib.hid (fun _ _ => rfl), hE7'⟩
          case round =>
            clear hE7'
            obtain ⟨j, hj, rfl, cs', Hcs', hs⟩ := hrel
            by_cases hlt2 : j < fl
            · obtain ⟨f, hf⟩ : ∃ f, F[j]? = some f := ⟨F[j]'(by rw [Hfl.out]; exact hlt2), by simp [Hfl.out, hlt2]⟩
              obtain ⟨hf0, hf2, hf1⟩ := Hfr.out j f hf
              have hfc := fcells_get j F (by rw [Hfl.out]; exact hlt2)
              have hfj : F[j]'(by rw [Hfl.out]; exact hlt2) = f := by
                rw [List.getElem?_eq_getElem (by rw [Hfl.out]; exact hlt2)] at hf
                exact Option.some.inj hf
              rw [hfj, hf0, hf1, hf2] at hfc
              have hbk := EndO.blk hs (fun _ _ h => h.2.2)
              have x0 : wr.cell? ⟨b, off + j * 4, none⟩ = some (.int .i64 (e0 : Int)) := by rw [hbk.cell, Hcs'.out _ (by omega)]; exact Hcs.out _ _ hfc.1
              have x1 : wr.cell? ⟨b, off + j * 4 + 1, none⟩ = some (.int .i64 (if dl = 0 then 0 else (j : Int) + 1)) := by rw [hbk.cell, Hcs'.out _ (by omega)]; exact Hcs.out _ _ hfc.2.1
              have x2 : wr.cell? ⟨b, off + j * 4 + 2, none⟩ = some (.int .i64 0) := by rw [hbk.cell, Hcs'.out _ (by omega)]; exact Hcs.out _ _ hfc.2.2.1
              have x3 : wr.cell? ⟨b, off + j * 4 + 3, none⟩ = some (.string f.data) := by rw [hbk.cell, Hcs'.out _ (by omega)]; exact Hcs.out _ _ hfc.2.2.2
              clear hf hf0 hf1 hf2 hfj hbk
              generalize f.data = fd at x3 hfc
              have Hfc := Lib.hid hfc; clear hfc
              have hKs := Kept.blkAt (Kept.row Kept.none 78 4 A6 fl (fcells F)) 32 rfl b 78 cs'
              have HKs := Lib.hid hKs; clear hKs
              have hY : ∀ (w1 : World) (own1 : Nat → Nat) (w2 : World) (own2 : Nat → Nat), Step 32 w1 own1 w2 own2 → (True ∧ Row w1 own1 30 78 4 A6 fl (fcells F)) → (True ∧ Row w2 own2 30 78 4 A6 fl (fcells F)) := fun w1 own1 w2 own2 st h => ⟨trivial, h.2.step st (by omega)⟩
              have HY := Lib.hid hY; clear hY
              have hj0 : (0 : Int) ≤ (j : Int) := by omega
              have hjn : (j : Int) < (fl : Int) := by omega
              have hw1 := wrapI ((j : Int) + 1) (by omega)
              by_cases hd : dl = 0
              · rw [if_pos hd] at x1
                have Hfc' := Hfc.out
                rw [if_pos hd] at Hfc'
                have Hfc' := Lib.hid Hfc'
                have hd1 : decide (0 < dl) = false := by simp; omega
                have hd2 : ((dl : Int) == 0) = true := by simpa using hd
                have hd3 : ¬ 0 < dl := by omega
                clear hd
                have hEf := hs.alloc HKs.out 78 #[.int .i64 (e0 : Int), .int .i64 0, .int .i64 0, .string fd]
                have HKf := Lib.hid (Kept.blk HKs.out wr.heap.size 78 #[.int .i64 (e0 : Int), .int .i64 0, .int .i64 0, .string fd])
                clear hs
                go_wp2_with fail
                clear x0 x1 x2 x3
                generalize wr.alloc (.cells #[.int .i64 (e0 : Int), .int .i64 0, .int .i64 0, .string fd] 78) = Wf at hEf ⊢
                generalize wr.heap.size = bf at hEf HKf ⊢
                have hbf := hEf.blk (fun _ _ h => h.2.2)
                have y0 : Wf.cell? ⟨bf, 0, none⟩ = some (.int .i64 (e0 : Int)) := hbf.cell 0
                have y1 : Wf.cell? ⟨bf, 1, none⟩ = some (.int .i64 0) := hbf.cell 1
                have y2 : Wf.cell? ⟨bf, 2, none⟩ = some (.int .i64 0) := hbf.cell 2
                clear hbf
                go_quiet ((first
                  | (go_at_call 53; exact quiet_same (endo_epoch (hEf.grown HKf.out (grown_drewN _ _)) (e0 : Int) Hep.out))
                  | (go_at_call 54; exact quiet_same (endo_unacked (hEf.grown HKf.out (grown_drewN _ _)) (dl : Int) Hdl.out))))
                clear y0 y1 y2 hw1
                generalize hWg : Wf.drewN _ = Wg
                have hEg : EndO w ga L (fun w own => (True ∧ Row w own 30 78 4 A6 fl (fcells F)) ∧ own b = 32 ∧ Blk w b 78 cs') Wg := by rw [← hWg]; exact (hEf.grown HKf.out (grown_drewN Wf _)).weaken (fun _ _ h => h.1)
                clear hWg
                clear hEf
                have hbg := EndO.blk hEg (fun _ _ h => h.2.2)
                have v0 : Wg.cell? ⟨b, off + j * 4, none⟩ = some (.int .i64 (e0 : Int)) := by rw [hbg.cell, Hcs'.out _ (by omega)]; exact Hcs.out _ _ Hfc'.out.1
                have v1 : Wg.cell? ⟨b, off + j * 4 + 1, none⟩ = some (.int .i64 0) := by rw [hbg.cell, Hcs'.out _ (by omega)]; exact Hcs.out _ _ Hfc'.out.2.1
                have v2 : Wg.cell? ⟨b, off + j * 4 + 2, none⟩ = some (.int .i64 0) := by rw [hbg.cell, Hcs'.out _ (by omega)]; exact Hcs.out _ _ Hfc'.out.2.2.1
                have v3 : Wg.cell? ⟨b, off + j * 4 + 3, none⟩ = some (.string fd) := by rw [hbg.cell, Hcs'.out _ (by omega)]; exact Hcs.out _ _ Hfc'.out.2.2.2
                have r0 := hbg.free (off + j * 4)
                have r1 := hbg.free (off + j * 4 + 1)
                have r2 := hbg.free (off + j * 4 + 2)
                have r3 := hbg.free (off + j * 4 + 3)
                clear hbg
                go_wp2_with fail
                go_roundw
                case rel =>
                  refine ⟨j + 1, by omega, by go_num, _, Lib.hid (fun i hi => ?_), (((hEg.store HY.out _ _).store HY.out _ _).store HY.out _ _).store HY.out _ _⟩
                  rw [Array.getElem?_setIfInBounds_ne (by omega), Array.getElem?_setIfInBounds_ne (by omega), Array.getElem?_setIfInBounds_ne (by omega), Array.getElem?_setIfInBounds_ne (by omega)]
                  exact Hcs'.out i (by omega)
                case measure => simp [intOf]; omega
              · rw [if_neg hd] at x1
                have Hfc' := Hfc.out
                rw [if_neg hd] at Hfc'
                have Hfc' := Lib.hid Hfc'
                have hd1 : 0 < dl := by omega
                have hd2 : decide (0 < dl) = true := by simpa using hd1
                have hd3 : ((dl : Int) == 0) = false := by simpa using hd
                clear hd
                have hEf := hs.alloc HKs.out 78 #[.int .i64 (e0 : Int), .int .i64 ((j : Int) + 1), .int .i64 0, .string fd]
                have HKf := Lib.hid (Kept.blk HKs.out wr.heap.size 78 #[.int .i64 (e0 : Int), .int .i64 ((j : Int) + 1), .int .i64 0, .string fd])
                clear hs
                go_wp2_with fail
                clear x0 x1 x2 x3
                generalize wr.alloc (.cells #[.int .i64 (e0 : Int), .int .i64 ((j : Int) + 1), .int .i64 0, .string fd] 78) = Wf at hEf ⊢
                generalize wr.heap.size = bf at hEf HKf ⊢
                have hbf := hEf.blk (fun _ _ h => h.2.2)
                have y0 : Wf.cell? ⟨bf, 0, none⟩ = some (.int .i64 (e0 : Int)) := hbf.cell 0
                have y1 : Wf.cell? ⟨bf, 1, none⟩ = some (.int .i64 ((j : Int) + 1)) := hbf.cell 1
                have y2 : Wf.cell? ⟨bf, 2, none⟩ = some (.int .i64 0) := hbf.cell 2
                clear hbf
                go_quiet ((first
                  | (go_at_call 53; exact quiet_same (endo_epoch (hEf.grown HKf.out (grown_drewN _ _)) (e0 : Int) Hep.out))
                  | (go_at_call 54; exact quiet_same (endo_unacked (hEf.grown HKf.out (grown_drewN _ _)) (dl : Int) Hdl.out))))
                clear y0 y1 y2 hw1
                generalize hWg : Wf.drewN _ = Wg
                have hEg : EndO w ga L (fun w own => (True ∧ Row w own 30 78 4 A6 fl (fcells F)) ∧ own b = 32 ∧ Blk w b 78 cs') Wg := by rw [← hWg]; exact (hEf.grown HKf.out (grown_drewN Wf _)).weaken (fun _ _ h => h.1)
                clear hWg
                clear hEf
                have hbg := EndO.blk hEg (fun _ _ h => h.2.2)
                have v0 : Wg.cell? ⟨b, off + j * 4, none⟩ = some (.int .i64 (e0 : Int)) := by rw [hbg.cell, Hcs'.out _ (by omega)]; exact Hcs.out _ _ Hfc'.out.1
                have v1 : Wg.cell? ⟨b, off + j * 4 + 1, none⟩ = some (.int .i64 ((j : Int) + 1)) := by rw [hbg.cell, Hcs'.out _ (by omega)]; exact Hcs.out _ _ Hfc'.out.2.1
                have v2 : Wg.cell? ⟨b, off + j * 4 + 2, none⟩ = some (.int .i64 0) := by rw [hbg.cell, Hcs'.out _ (by omega)]; exact Hcs.out _ _ Hfc'.out.2.2.1
                have v3 : Wg.cell? ⟨b, off + j * 4 + 3, none⟩ = some (.string fd) := by rw [hbg.cell, Hcs'.out _ (by omega)]; exact Hcs.out _ _ Hfc'.out.2.2.2
                have r0 := hbg.free (off + j * 4)
                have r1 := hbg.free (off + j * 4 + 1)
                have r2 := hbg.free (off + j * 4 + 2)
                have r3 := hbg.free (off + j * 4 + 3)
                clear hbg
                go_wp2_with fail
                go_roundw
                case rel =>
                  refine ⟨j + 1, by omega, by go_num, _, Lib.hid (fun i hi => ?_), (((hEg.store HY.out _ _).store HY.out _ _).store HY.out _ _).store HY.out _ _⟩
                  rw [Array.getElem?_setIfInBounds_ne (by omega), Array.getElem?_setIfInBounds_ne (by omega), Array.getElem?_setIfInBounds_ne (by omega), Array.getElem?_setIfInBounds_ne (by omega)]
                  exact Hcs'.out i (by omega)
                case measure => simp [intOf]; omega
            · obtain rfl : j = fl := by omega
              go_wp2_with fail
              refine (endo_frames hs).mono ?_
              rw [HF.out]
              rintro e w8 ⟨A8, c8, rfl, hnr⟩
              rw [Hfl.out] at hnr ⊢
              have hE8 := hs.hold (Kept.blkAt (Kept.row Kept.none 78 4 A6 j (fcells F)) 32 rfl b 78 cs') hnr
              have hra : Rd w8 4 A8 j (fcells F) := by obtain ⟨own, _, _, h⟩ := hE8; exact h.2.rd
              have hrb : Rd w8 4 A6 j (fcells F) := by obtain ⟨own, _, _, h⟩ := hE8; exact h.1.1.2.rd
              clear hs hnr
              go_wp2_with fail
              refine (sameFrames_yes _ _ _ _ _ _ _ hra hrb hfb).mono ?_
              rintro e w9 ⟨rfl, mm2, rfl⟩
              clear hra hrb
              go_wp2
              go_ret
              exact ⟨rfl, grown_tr hE8.end_ (grown_drewN _ mm2)⟩
end Go.Proofs.Ytjloipjchcaloaa
