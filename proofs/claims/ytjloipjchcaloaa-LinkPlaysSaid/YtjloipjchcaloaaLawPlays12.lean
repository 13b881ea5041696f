/- The walk of LinkPlays. -/
import Derived.Test.YtjloipjchcaloaaEndP
import Derived.Test.YtjloipjchcaloaaLawSame
namespace Go.Proofs.Ytjloipjchcaloaa
open Go.RowKit
set_option linter.unusedVariables false

theorem off_sent12 (s : Snd) (d : ByteArray) : (s.off d).sent ≤ s.sent + 1 := by
  unfold Snd.off
  split
  · omega
  · split
    · omega
    · exact Nat.le_refl _

set_option maxHeartbeats 4000000 in
set_option maxRecDepth 10000 in
theorem plays12_great (x0 x1 x2 : Int) (p : Bool) (A : Option Addr) (c : Nat) (l : List Act6) (w : World) (hr : Rd w 6 A l.length (a6cells l)) (hgr : great6 l = true) :
    Calls Try.prog 12 #[.agg #[.int .i64 x0, .int .i64 x1, .int .i64 x2], .bool p, .slice A l.length c] w (BoolRet w true) := by
  have hg3 : ∀ W, Rd W 6 A l.length (a6cells l) → Calls Try.prog 47 #[.slice A l.length c] W (BoolRet W true) := fun W h => by
    have := great12 A c l W h
    rwa [hgr] at this
  have Hg3 := Lib.hid hg3; clear hg3
  have Hr := Lib.hid hr; clear hr
  clear hgr
  generalize hN : l.length = m at *
  have HN := Lib.hid hN; clear hN
  have hP := (Pre.start w).alloc Kept.none 70 #[.int .i64 x0, .int .i64 x1, .int .i64 x2]
  go_enter Try.func12, Try.ntmps12
  go_wp2_with fail
  generalize w.alloc (.cells #[.int .i64 x0, .int .i64 x1, .int .i64 x2] 70) = W0 at hP ⊢
  generalize w.heap.size = bx at hP ⊢
  have hK := Kept.blk Kept.none bx 70 #[.int .i64 x0, .int .i64 x1, .int .i64 x2]
  have HK := Lib.hid hK; clear hK
  have hPd : Pre w _ W0.drew := hP.grown HK.out (grown_drewN W0 1)
  have hcl : ∀ W (g1 : Nat) (L1 : Lnk), EndO w g1 L1 (fun w own => True ∧ own bx = 31 ∧ Blk w bx 70 #[.int .i64 x0, .int .i64 x1, .int .i64 x2]) W → W.cell? ⟨bx, 0, none⟩ = some (.int .i64 x0) ∧ W.cell? ⟨bx, 1, none⟩ = some (.int .i64 x1) ∧ W.cell? ⟨bx, 2, none⟩ = some (.int .i64 x2) := fun W g1 L1 h => by
    have hb := h.blk (fun _ _ h => h.2.2)
    exact ⟨hb.cell 0, hb.cell 1, hb.cell 2⟩
  have Hcl := Lib.hid hcl; clear hcl
  have hcl2 : ∀ W (g1 g2 : Nat) (L1 L2 : Lnk), EndR w g1 L1 g2 L2 (fun w own => True ∧ own bx = 31 ∧ Blk w bx 70 #[.int .i64 x0, .int .i64 x1, .int .i64 x2]) W → W.cell? ⟨bx, 0, none⟩ = some (.int .i64 x0) ∧ W.cell? ⟨bx, 1, none⟩ = some (.int .i64 x1) ∧ W.cell? ⟨bx, 2, none⟩ = some (.int .i64 x2) := fun W g1 g2 L1 L2 h => by
    have hb := h.blk (fun _ _ h => h.2.2)
    exact ⟨hb.cell 0, hb.cell 1, hb.cell 2⟩
  have Hcl2 := Lib.hid hcl2; clear hcl2
  have hb0 := hPd.blk (fun _ _ h => h.2.2)
  have y0 : W0.drew.cell? ⟨bx, 0, none⟩ = some (.int .i64 x0) := hb0.cell 0
  have y1 : W0.drew.cell? ⟨bx, 1, none⟩ = some (.int .i64 x1) := hb0.cell 1
  have y2 : W0.drew.cell? ⟨bx, 2, none⟩ = some (.int .i64 x2) := hb0.cell 2
  clear hb0 hP
  go_region_held3 (fun w' => w'.cell? ⟨bx, 0, none⟩ = some (.int .i64 x0) ∧ w'.cell? ⟨bx, 1, none⟩ = some (.int .i64 x1) ∧ w'.cell? ⟨bx, 2, none⟩ = some (.int .i64 x2)) (first | (go_keep; done) | (refine ⟨?_, ?_, ?_⟩ <;> assumption))
   (first
    | (go_at_call 45
       refine (endr_new2 hE1 HK.out x0 x1 x2 p).mono ?_
       rintro e w2 ⟨rfl, hE2⟩
       have kk2 := Hcl2.out _ _ _ _ _ hE2
       rcases kk2 with ⟨s0, s1, s2⟩)
    | (go_at_call 44
       refine (pre_new hPd HK.out x0 x1 x2 p).mono ?_
       rintro e w1 ⟨rfl, hE1⟩
       have kk1 := Hcl.out _ _ _ hE1
       rcases kk1 with ⟨r0, r1, r2⟩))
  have ht := hE2.weaken (Y := fun _ _ => True) (fun _ _ _ => trivial)
  clear hE2 hE1 hPd y0 y1 y2 s0 s1 s2 r0 r1 r2 Hcl Hcl2 HK
  have hga : W0.drew.heap.size = W0.heap.size := rfl
  rw [hga] at ht
  clear hga
  generalize W0.heap.size = ga at ht ⊢
  generalize w1.heap.size = gb at ht ⊢
  obtain ⟨L0, hL0⟩ : ∃ L0 : Lnk, L0 = Lnk.new x0 x1 x2 p := ⟨_, rfl⟩
  rw [← hL0] at ht
  have hak0 : L0.r.acked ≤ 0 ∧ L0.s.sent ≤ 0 := by rw [hL0]; exact ⟨Nat.le_refl _, Nat.le_refl _⟩
  clear hL0
  go_wp2_with fail
  refine (awake12 w2).mono ?_
  rintro e w3 ⟨rfl, hg⟩
  have ht3 := ht.grown Kept.none hg
  clear ht hg
  go_wp2_with fail
  refine (Hg3.out w3 (Hr.out.keep (fun b off _ _ hb => ht3.end_.block b hb (by simp)) (by omega))).mono ?_
  rintro e w4 ⟨rfl, hg⟩
  have ht4 := ht3.grown Kept.none hg
  clear ht3 hg
  go_wp2_with fail
  refine (awake12 w4).mono ?_
  rintro e w5 ⟨rfl, hg⟩
  have ht5 := ht4.grown Kept.none hg
  clear ht4 hg
  go_wp2
  go_ret
  exact ⟨rfl, ht5.end_⟩

set_option maxHeartbeats 4000000 in
set_option maxRecDepth 10000 in
theorem plays12_play (x0 x1 x2 : Int) (p : Bool) (A : Option Addr) (c : Nat) (l : List Act6) (w : World) (hr : Rd w 6 A l.length (a6cells l)) (hgr : great6 l = false) :
    Calls Try.prog 12 #[.agg #[.int .i64 x0, .int .i64 x1, .int .i64 x2], .bool p, .slice A l.length c] w (BoolRet w true) := by
  have hg3 : ∀ W, Rd W 6 A l.length (a6cells l) → Calls Try.prog 47 #[.slice A l.length c] W (BoolRet W false) := fun W h => by
    have := great12 A c l W h
    rwa [hgr] at this
  have Hg3 := Lib.hid hg3; clear hg3
  have Hr := Lib.hid hr; clear hr
  have hl100 : l.length ≤ 100 := by
    simp only [great6, Bool.or_eq_false_iff, decide_eq_false_iff_not] at hgr
    omega
  clear hgr
  generalize hN : l.length = m at *
  have HN := Lib.hid hN; clear hN
  have hP := (Pre.start w).alloc Kept.none 70 #[.int .i64 x0, .int .i64 x1, .int .i64 x2]
  go_enter Try.func12, Try.ntmps12
  go_wp2_with fail
  generalize w.alloc (.cells #[.int .i64 x0, .int .i64 x1, .int .i64 x2] 70) = W0 at hP ⊢
  generalize w.heap.size = bx at hP ⊢
  have hK := Kept.blk Kept.none bx 70 #[.int .i64 x0, .int .i64 x1, .int .i64 x2]
  have HK := Lib.hid hK; clear hK
  have hPd : Pre w _ W0.drew := hP.grown HK.out (grown_drewN W0 1)
  have hcl : ∀ W (g1 : Nat) (L1 : Lnk), EndO w g1 L1 (fun w own => True ∧ own bx = 31 ∧ Blk w bx 70 #[.int .i64 x0, .int .i64 x1, .int .i64 x2]) W → W.cell? ⟨bx, 0, none⟩ = some (.int .i64 x0) ∧ W.cell? ⟨bx, 1, none⟩ = some (.int .i64 x1) ∧ W.cell? ⟨bx, 2, none⟩ = some (.int .i64 x2) := fun W g1 L1 h => by
    have hb := h.blk (fun _ _ h => h.2.2)
    exact ⟨hb.cell 0, hb.cell 1, hb.cell 2⟩
  have Hcl := Lib.hid hcl; clear hcl
  have hcl2 : ∀ W (g1 g2 : Nat) (L1 L2 : Lnk), EndR w g1 L1 g2 L2 (fun w own => True ∧ own bx = 31 ∧ Blk w bx 70 #[.int .i64 x0, .int .i64 x1, .int .i64 x2]) W → W.cell? ⟨bx, 0, none⟩ = some (.int .i64 x0) ∧ W.cell? ⟨bx, 1, none⟩ = some (.int .i64 x1) ∧ W.cell? ⟨bx, 2, none⟩ = some (.int .i64 x2) := fun W g1 g2 L1 L2 h => by
    have hb := h.blk (fun _ _ h => h.2.2)
    exact ⟨hb.cell 0, hb.cell 1, hb.cell 2⟩
  have Hcl2 := Lib.hid hcl2; clear hcl2
  have hb0 := hPd.blk (fun _ _ h => h.2.2)
  have y0 : W0.drew.cell? ⟨bx, 0, none⟩ = some (.int .i64 x0) := hb0.cell 0
  have y1 : W0.drew.cell? ⟨bx, 1, none⟩ = some (.int .i64 x1) := hb0.cell 1
  have y2 : W0.drew.cell? ⟨bx, 2, none⟩ = some (.int .i64 x2) := hb0.cell 2
  clear hb0 hP
  go_region_held3 (fun w' => w'.cell? ⟨bx, 0, none⟩ = some (.int .i64 x0) ∧ w'.cell? ⟨bx, 1, none⟩ = some (.int .i64 x1) ∧ w'.cell? ⟨bx, 2, none⟩ = some (.int .i64 x2)) (first | (go_keep; done) | (refine ⟨?_, ?_, ?_⟩ <;> assumption))
   (first
    | (go_at_call 45
       refine (endr_new2 hE1 HK.out x0 x1 x2 p).mono ?_
       rintro e w2 ⟨rfl, hE2⟩
       have kk2 := Hcl2.out _ _ _ _ _ hE2
       rcases kk2 with ⟨s0, s1, s2⟩)
    | (go_at_call 44
       refine (pre_new hPd HK.out x0 x1 x2 p).mono ?_
       rintro e w1 ⟨rfl, hE1⟩
       have kk1 := Hcl.out _ _ _ hE1
       rcases kk1 with ⟨r0, r1, r2⟩))
  have ht := hE2.weaken (Y := fun _ _ => True) (fun _ _ _ => trivial)
  clear hE2 hE1 hPd y0 y1 y2 s0 s1 s2 r0 r1 r2 Hcl Hcl2 HK
  have hga : W0.drew.heap.size = W0.heap.size := rfl
  rw [hga] at ht
  clear hga
  generalize W0.heap.size = ga at ht ⊢
  generalize w1.heap.size = gb at ht ⊢
  obtain ⟨L0, hL0⟩ : ∃ L0 : Lnk, L0 = Lnk.new x0 x1 x2 p := ⟨_, rfl⟩
  rw [← hL0] at ht
  have hak0 : L0.r.acked ≤ 0 ∧ L0.s.sent ≤ 0 := by rw [hL0]; exact ⟨Nat.le_refl _, Nat.le_refl _⟩
  clear hL0
  go_wp2_with fail
  refine (awake12 w2).mono ?_
  rintro e w3 ⟨rfl, hg⟩
  have ht3 := ht.grown Kept.none hg
  clear ht hg
  go_wp2_with fail
  refine (Hg3.out w3 (Hr.out.keep (fun b off _ _ hb => ht3.end_.block b hb (by simp)) (by omega))).mono ?_
  rintro e w4 ⟨rfl, hg⟩
  have ht4 := ht3.grown Kept.none hg
  clear ht3 hg
  go_wp2_with fail
  go_loopw [47] (fun v wr => ∃ k : Nat, k ≤ m ∧ v = .int .i64 k ∧ ∃ L : Lnk, (L.r.acked ≤ k ∧ L.s.sent ≤ k) ∧ EndR w ga L gb L (fun _ _ => True) wr) (fun v _ => m - (intOf v).toNat)
  case atStart => exact ⟨0, by omega, rfl, L0, hak0, ht4⟩
  case round =>
    clear ht4 hak0 Hg3
    obtain ⟨k, hk, rfl, L, ⟨hak, hsk⟩, hs⟩ := hrel
    by_cases hlt : k < m
    · have hkl : k < l.length := by have := HN.out; omega
      have hrd : Rd wr 6 A l.length (a6cells l) := by
        have := HN.out; rw [this]
        exact Hr.out.keep (fun b off _ _ hb => hs.end_.block b hb (by simp)) (by omega)
      obtain ⟨b, off, a, rfl, hla, c0, c1, c2, c3, c4, c5⟩ := acts6_at hrd hkl
      clear hrd hla
      generalize a.kind = kd at c0
      generalize a.text = tx at c1
      generalize a.f.epoch = fe at c2
      generalize a.f.seq = fs at c3
      generalize a.f.ack = fa at c4
      generalize a.f.data = fd at c5
      have hc := hs.alloc Kept.none 80 #[.int .i64 kd, .string tx, .int .i64 fe, .int .i64 fs, .int .i64 fa, .string fd]
      clear hs
      have HKc := Lib.hid (Kept.blk Kept.none wr.heap.size 80 #[.int .i64 kd, .string tx, .int .i64 fe, .int .i64 fs, .int .i64 fa, .string fd])
      have hbk : ∀ W (g1 g2 : Nat) (L1 L2 : Lnk), EndR w g1 L1 g2 L2 (fun w' own => True ∧ own wr.heap.size = 31 ∧ Blk w' wr.heap.size 80 #[.int .i64 kd, .string tx, .int .i64 fe, .int .i64 fs, .int .i64 fa, .string fd]) W → Blk W wr.heap.size 80 #[.int .i64 kd, .string tx, .int .i64 fe, .int .i64 fs, .int .i64 fa, .string fd] := fun W g1 g2 L1 L2 h => h.blk (fun _ _ h => h.2.2)
      have Hbk := Lib.hid hbk; clear hbk
      have hak2 : L.r.acked ≤ 1125899906842624 := by omega
      by_cases h1 : kd = 1
      · subst h1
        go_wp2_with fail
        generalize wr.alloc (.cells #[.int .i64 1, .string tx, .int .i64 fe, .int .i64 fs, .int .i64 fa, .string fd] 80) = Wk at hc ⊢
        generalize wr.heap.size = bk at hc HKc Hbk ⊢
        have hcd : EndR w ga L gb L _ Wk.drew := hc.grown HKc.out (grown_drewN Wk 1)
        have z1 : Wk.drew.cell? ⟨bk, 1, none⟩ = some (.string tx) := (Hbk.out _ _ _ _ _ hcd).cell 1
        obtain ⟨gs, gr, hp⟩ := hcd.parts_
        clear hc hcd
        have kk := hp.cells
        obtain ⟨_, e1, _⟩ := kk
        obtain ⟨oe, hoe⟩ : ∃ oe, L.s.offE = oe := ⟨_, rfl⟩
        have Hoe := Lib.hid hoe; clear hoe
        have hs3' : L.s.sent ≤ 300 := by omega
        go_region_held3 (fun w' => w'.cell? ⟨gb, 1, none⟩ = some (.pointer (some ⟨gs, 0, none⟩)) ∧ w'.cell? ⟨bk, 1, none⟩ = some (.string tx)) (first | (go_keep; done) | (constructor <;> assumption))
         ((go_at_call 40
           refine (endp_offer2 hp HKc.out tx hs3' _ oe _ rfl Hoe.out rfl).mono ?_
           rintro e w5 ⟨rfl, hp5⟩
           have hE5 := hp5.close
           have z2 : w5.cell? ⟨bk, 1, none⟩ = some (.string tx) := (Hbk.out _ _ _ _ _ hE5).cell 1
           have kk5 := hp5.cells
           rcases kk5 with ⟨_, e15, _⟩))
        clear hp hp5 z1 e1 e15
        go_wp2_with fail
        refine (endr_offer1 hE5 HKc.out tx oe _ Hoe.out rfl).mono ?_
        rintro e wz ⟨rfl, hE2⟩
        obtain ⟨L', hL', hak', hsk'⟩ : ∃ L' : Lnk, { L with s := L.s.off tx } = L' ∧ L'.r.acked ≤ k + 1 ∧ L'.s.sent ≤ k + 1 := ⟨_, rfl, by show L.r.acked ≤ k + 1; omega, by show (L.s.off tx).sent ≤ k + 1; have := off_sent12 L.s tx; omega⟩
        rw [hL'] at hE2
        have hT := hE2.weaken (Y := fun _ _ => True) (fun _ _ _ => trivial)
        clear hE2 hE5 z2 Hoe hL' HKc Hbk hak hak2 hsk
        go_wp2_with fail
        obtain ⟨F, hF⟩ : ∃ F, L'.frames = F := ⟨_, rfl⟩
        have HF := Lib.hid hF; clear hF
        have hfb : F.length ≤ 1099511627776 := by
          rw [← HF.out]
          obtain ⟨own, _, hl, _⟩ := hT
          exact lnk_frames_le hl
        obtain ⟨fl, hfl⟩ : ∃ fl, F.length = fl := ⟨_, rfl⟩
        rw [hfl] at hfb
        have Hfl := Lib.hid hfl; clear hfl
        obtain ⟨dl, hdl⟩ : ∃ dl, L'.s.ds.length = dl := ⟨_, rfl⟩
        have Hdl := Lib.hid hdl
        have Hdl2 := Lib.hid (show (L'.s.ds.length : Int) = (dl : Int) by rw [hdl])
        clear hdl
        obtain ⟨ql, hql⟩ : ∃ ql, L'.r.q.length = ql := ⟨_, rfl⟩
        have Hql := Lib.hid hql
        have Hql2 := Lib.hid (show (L'.r.q.length : Int) = (ql : Int) by rw [hql])
        clear hql
        have ha3 : L'.r.acked ≤ 300 := by omega
        have hs3 : L'.s.sent ≤ 300 := by omega
        obtain ⟨gs, gr, hp⟩ := (hT.grown Kept.none (grown_drewN wz 1) : EndR w ga L' gb L' (fun _ _ => True) wz.drew).parts_
        clear hT
        obtain ⟨e0, e1, e2⟩ := hp.cells
        go_wp2_with fail
        go_region_held3 (fun w' => w'.cell? ⟨gb, 0, none⟩ = some (.int .i64 (L'.epoch : Int)) ∧ w'.cell? ⟨gb, 1, none⟩ = some (.pointer (some ⟨gs, 0, none⟩)) ∧ w'.cell? ⟨gb, 2, none⟩ = some (.pointer (some ⟨gr, 0, none⟩))) (first | (go_keep; done) | (refine ⟨?_, ?_, ?_⟩ <;> assumption))
         (first
          | (go_at_call 53
             refine (endr_epoch1 hp.close _ rfl).mono ?_
             rintro e w7 ⟨rfl, rfl⟩)
          | (go_at_call 54
             refine (endr_unacked1 hp.close (dl : Int) Hdl2.out).mono ?_
             rintro e w7 ⟨rfl, rfl⟩)
          | (go_at_call 55
             refine (endp_left hp hs3 dl Hdl.out).mono ?_
             rintro e w7 ⟨A7, c7, rfl, hnr7⟩
             have hp7 := hp.grown Kept.none hnr7.grown
             have kk7 := hp7.cells
             rcases kk7 with ⟨a0, a1, a2⟩
             clear hnr7)
          | (go_at_call 56
             refine (endr_waiting1 hp7.close (ql : Int) Hql2.out).mono ?_
             rintro e w8 ⟨rfl, rfl⟩)
          | (go_at_call 36
             refine (endp_look hp7 ha3 ql Hql.out).mono ?_
             rintro e w8 ⟨A8, c8, rfl, hnr8⟩
             have hp8 := hp7.grown Kept.none hnr8.grown
             have kk8 := hp8.cells
             rcases kk8 with ⟨b0, b1, b2⟩
             clear hnr8)
          | (go_at_call 58
             refine (frames_is (endr_frames1 hp8.close) HF.out Hfl.out).mono ?_
             rintro e w9 ⟨A9, c9, rfl, hnr9⟩
             have hp9 := hp8.hold Kept.none hnr9
             have HK9 := Lib.hid (Kept.row Kept.none 78 4 A9 fl (fcells F))
             have kk9 := hp9.cells
             rcases kk9 with ⟨d0, d1, d2⟩
             clear hnr9)
          | (go_at_call 59
             refine (frames_is (endr_frames2 hp9.close hs3 ha3) HF.out Hfl.out).mono ?_
             rintro e wA ⟨AA, cA, rfl, hnrA⟩
             have hpA := hp9.hold HK9.out hnrA
             have HKA := Lib.hid (Kept.row HK9.out 78 4 AA fl (fcells F))
             have kkA := hpA.cells
             rcases kkA with ⟨f0, f1, f2⟩
             clear hnrA)
          | (go_at_call 57
             refine (sameFrames_yes _ _ _ _ _ _ _ (hpA.row (fun _ _ h => h.1.2)) (hpA.row (fun _ _ h => h.2)) hfb).mono ?_
             rintro e wB ⟨rfl, mm, hmm⟩
             have hpB := hpA.grown HKA.out (hmm ▸ grown_drewN _ mm)
             have kkB := hpB.cells
             rcases kkB with ⟨m0, m1, m2⟩
             clear hmm))
        have hTz := hpB.close.weaken (Y := fun _ _ => True) (fun _ _ _ => trivial)
        clear hp hp7 hp8 hp9 hpA hpB e0 e1 e2 a0 a1 a2 b0 b1 b2 d0 d1 d2 f0 f1 f2 m0 m1 m2
        go_wp2_with fail
        go_roundw
        case rel => exact ⟨k + 1, by omega, by go_num, L', ⟨hak', hsk'⟩, hTz⟩
        case measure => simp [intOf]; omega
      · by_cases h2 : kd = 2
        · subst h2
          go_wp2_with fail
          generalize wr.alloc (.cells #[.int .i64 2, .string tx, .int .i64 fe, .int .i64 fs, .int .i64 fa, .string fd] 80) = Wk at hc ⊢
          generalize wr.heap.size = bk at hc HKc Hbk ⊢
          by_cases hm : MayOk fe fs fa fd
          · refine (may_yes _ _ _ _ _ hm).mono ?_
            obtain ⟨i1, i2, i3, i4, _⟩ := hm
            have i4' : fs ≤ 9223372036854775807 := by omega
            have ha3' : L.r.acked ≤ 300 := by omega
            have hs3' : L.s.sent ≤ 300 := by omega
            rintro e w4 ⟨rfl, hg⟩
            have hc4 := hc.grown HKc.out hg
            clear hc hg
            have hcd : EndR w ga L gb L _ w4.drew := hc4.grown HKc.out (grown_drewN w4 1)
            have kk := Hbk.out _ _ _ _ _ hcd
            have z2 : w4.drew.cell? ⟨bk, 2, none⟩ = some (.int .i64 fe) := kk.cell 2
            have z3 : w4.drew.cell? ⟨bk, 3, none⟩ = some (.int .i64 fs) := kk.cell 3
            have z4 : w4.drew.cell? ⟨bk, 4, none⟩ = some (.int .i64 fa) := kk.cell 4
            have z5 : w4.drew.cell? ⟨bk, 5, none⟩ = some (.string fd) := kk.cell 5
            clear kk
            clear hc4
            go_wp2_with fail
            go_region_held3 (fun w' => w'.cell? ⟨bk, 2, none⟩ = some (.int .i64 fe) ∧ w'.cell? ⟨bk, 3, none⟩ = some (.int .i64 fs) ∧ w'.cell? ⟨bk, 4, none⟩ = some (.int .i64 fa) ∧ w'.cell? ⟨bk, 5, none⟩ = some (.string fd)) (first | (go_keep; done) | (refine ⟨?_, ?_, ?_, ?_⟩ <;> assumption))
             (first
              | (go_at_call 51
                 refine (endr_hear2 hE1 HKc.out fe fs fa fd ha3' hs3' i2 i1 i3 i4').mono ?_
                 rintro e wz ⟨rfl, hE2⟩
                 have kk := Hbk.out _ _ _ _ _ hE2
                 have r2 : wz.cell? ⟨bk, 2, none⟩ = some (.int .i64 fe) := kk.cell 2
                 have r3 : wz.cell? ⟨bk, 3, none⟩ = some (.int .i64 fs) := kk.cell 3
                 have r4 : wz.cell? ⟨bk, 4, none⟩ = some (.int .i64 fa) := kk.cell 4
                 have r5 : wz.cell? ⟨bk, 5, none⟩ = some (.string fd) := kk.cell 5
                 clear kk)
              | (go_at_call 50
                 refine (endr_hear1 hcd HKc.out fe fs fa fd hak2).mono ?_
                 rintro e w5 ⟨rfl, hE1⟩
                 have kk := Hbk.out _ _ _ _ _ hE1
                 have s2 : w5.cell? ⟨bk, 2, none⟩ = some (.int .i64 fe) := kk.cell 2
                 have s3 : w5.cell? ⟨bk, 3, none⟩ = some (.int .i64 fs) := kk.cell 3
                 have s4 : w5.cell? ⟨bk, 4, none⟩ = some (.int .i64 fa) := kk.cell 4
                 have s5 : w5.cell? ⟨bk, 5, none⟩ = some (.string fd) := kk.cell 5
                 clear kk))
            obtain ⟨L', hL', hak', hsk'⟩ : ∃ L' : Lnk, L.hear fe fs fa fd = L' ∧ L'.r.acked ≤ k + 1 ∧ L'.s.sent ≤ k + 1 := ⟨_, rfl, by have := hear_acked L fe fs fa fd; omega, by have := hear_sent L fe fs fa fd; omega⟩
            rw [hL'] at hE2
            have hT := hE2.weaken (Y := fun _ _ => True) (fun _ _ _ => trivial)
            clear hE2 hE1 hcd z2 z3 z4 z5 r2 r3 r4 r5 s2 s3 s4 s5 i1 i2 i3 i4 i4' ha3' hs3' hL' HKc Hbk hak hak2 hsk
            go_wp2_with fail
            obtain ⟨F, hF⟩ : ∃ F, L'.frames = F := ⟨_, rfl⟩
            have HF := Lib.hid hF; clear hF
            have hfb : F.length ≤ 1099511627776 := by
              rw [← HF.out]
              obtain ⟨own, _, hl, _⟩ := hT
              exact lnk_frames_le hl
            obtain ⟨fl, hfl⟩ : ∃ fl, F.length = fl := ⟨_, rfl⟩
            rw [hfl] at hfb
            have Hfl := Lib.hid hfl; clear hfl
            obtain ⟨dl, hdl⟩ : ∃ dl, L'.s.ds.length = dl := ⟨_, rfl⟩
            have Hdl := Lib.hid hdl
            have Hdl2 := Lib.hid (show (L'.s.ds.length : Int) = (dl : Int) by rw [hdl])
            clear hdl
            obtain ⟨ql, hql⟩ : ∃ ql, L'.r.q.length = ql := ⟨_, rfl⟩
            have Hql := Lib.hid hql
            have Hql2 := Lib.hid (show (L'.r.q.length : Int) = (ql : Int) by rw [hql])
            clear hql
            have ha3 : L'.r.acked ≤ 300 := by omega
            have hs3 : L'.s.sent ≤ 300 := by omega
            obtain ⟨gs, gr, hp⟩ := (hT.grown Kept.none (grown_drewN wz 1) : EndR w ga L' gb L' (fun _ _ => True) wz.drew).parts_
            clear hT
            obtain ⟨e0, e1, e2⟩ := hp.cells
            go_wp2_with fail
            go_region_held3 (fun w' => w'.cell? ⟨gb, 0, none⟩ = some (.int .i64 (L'.epoch : Int)) ∧ w'.cell? ⟨gb, 1, none⟩ = some (.pointer (some ⟨gs, 0, none⟩)) ∧ w'.cell? ⟨gb, 2, none⟩ = some (.pointer (some ⟨gr, 0, none⟩))) (first | (go_keep; done) | (refine ⟨?_, ?_, ?_⟩ <;> assumption))
             (first
              | (go_at_call 53
                 refine (endr_epoch1 hp.close _ rfl).mono ?_
                 rintro e w7 ⟨rfl, rfl⟩)
              | (go_at_call 54
                 refine (endr_unacked1 hp.close (dl : Int) Hdl2.out).mono ?_
                 rintro e w7 ⟨rfl, rfl⟩)
              | (go_at_call 55
                 refine (endp_left hp hs3 dl Hdl.out).mono ?_
                 rintro e w7 ⟨A7, c7, rfl, hnr7⟩
                 have hp7 := hp.grown Kept.none hnr7.grown
                 have kk7 := hp7.cells
                 rcases kk7 with ⟨a0, a1, a2⟩
                 clear hnr7)
              | (go_at_call 56
                 refine (endr_waiting1 hp7.close (ql : Int) Hql2.out).mono ?_
                 rintro e w8 ⟨rfl, rfl⟩)
              | (go_at_call 36
                 refine (endp_look hp7 ha3 ql Hql.out).mono ?_
                 rintro e w8 ⟨A8, c8, rfl, hnr8⟩
                 have hp8 := hp7.grown Kept.none hnr8.grown
                 have kk8 := hp8.cells
                 rcases kk8 with ⟨b0, b1, b2⟩
                 clear hnr8)
              | (go_at_call 58
                 refine (frames_is (endr_frames1 hp8.close) HF.out Hfl.out).mono ?_
                 rintro e w9 ⟨A9, c9, rfl, hnr9⟩
                 have hp9 := hp8.hold Kept.none hnr9
                 have HK9 := Lib.hid (Kept.row Kept.none 78 4 A9 fl (fcells F))
                 have kk9 := hp9.cells
                 rcases kk9 with ⟨d0, d1, d2⟩
                 clear hnr9)
              | (go_at_call 59
                 refine (frames_is (endr_frames2 hp9.close hs3 ha3) HF.out Hfl.out).mono ?_
                 rintro e wA ⟨AA, cA, rfl, hnrA⟩
                 have hpA := hp9.hold HK9.out hnrA
                 have HKA := Lib.hid (Kept.row HK9.out 78 4 AA fl (fcells F))
                 have kkA := hpA.cells
                 rcases kkA with ⟨f0, f1, f2⟩
                 clear hnrA)
              | (go_at_call 57
                 refine (sameFrames_yes _ _ _ _ _ _ _ (hpA.row (fun _ _ h => h.1.2)) (hpA.row (fun _ _ h => h.2)) hfb).mono ?_
                 rintro e wB ⟨rfl, mm, hmm⟩
                 have hpB := hpA.grown HKA.out (hmm ▸ grown_drewN _ mm)
                 have kkB := hpB.cells
                 rcases kkB with ⟨m0, m1, m2⟩
                 clear hmm))
            have hTz := hpB.close.weaken (Y := fun _ _ => True) (fun _ _ _ => trivial)
            clear hp hp7 hp8 hp9 hpA hpB e0 e1 e2 a0 a1 a2 b0 b1 b2 d0 d1 d2 f0 f1 f2 m0 m1 m2
            go_wp2_with fail
            go_roundw
            case rel => exact ⟨k + 1, by omega, by go_num, L', ⟨hak', hsk'⟩, hTz⟩
            case measure => simp [intOf]; omega
          · refine (may_no _ _ _ _ _ hm).mono ?_
            clear hm
            rintro e w4 ⟨v, hv, rfl, hg⟩
            have hc4 := hc.grown HKc.out hg
            clear hc hg
            have hv1 : (v == 0) = false := by simpa using hv
            have hv2 : (v != 0) = true := by simpa using hv
            clear hv
            go_wp2
            go_ret
            exact ⟨rfl, hc4.end_⟩
        · by_cases h3 : kd = 3
          · subst h3
            go_wp2_with fail
            generalize wr.alloc (.cells #[.int .i64 3, .string tx, .int .i64 fe, .int .i64 fs, .int .i64 fa, .string fd] 80) = Wk at hc ⊢
            generalize wr.heap.size = bk at hc HKc Hbk ⊢
            obtain ⟨pv, hpv⟩ : ∃ pv, L.r.popV = pv := ⟨_, rfl⟩
            obtain ⟨pb, hpb⟩ : ∃ pb, L.r.popB = pb := ⟨_, rfl⟩
            have Hpv := Lib.hid hpv; clear hpv
            have Hpb := Lib.hid hpb; clear hpb
            refine (endr_pop1 hc HKc.out pv pb _ Hpv.out Hpb.out rfl).mono ?_
            rintro e w5 ⟨rfl, hE1⟩
            clear hc
            obtain ⟨gs, gr, hp⟩ := hE1.parts_
            have kk := hp.cells
            obtain ⟨_, _, e2⟩ := kk
            have ha3' : L.r.acked ≤ 300 := by omega
            go_wp2_with fail
            refine (endp_pop2 hp HKc.out ha3' pv pb _ Hpv.out Hpb.out rfl).mono ?_
            rintro e wz ⟨rfl, hp2⟩
            have hE2 := hp2.close
            obtain ⟨L', hL', hak', hsk'⟩ : ∃ L' : Lnk, { L with r := L.r.pop } = L' ∧ L'.r.acked ≤ k + 1 ∧ L'.s.sent ≤ k + 1 := ⟨_, rfl, by show L.r.acked ≤ k + 1; omega, by show L.s.sent ≤ k + 1; omega⟩
            rw [hL'] at hE2
            have hT := hE2.weaken (Y := fun _ _ => True) (fun _ _ _ => trivial)
            clear hE2 hE1 hp hp2 e2 Hpv Hpb ha3' hL' HKc Hbk hak hak2 hsk
            go_wp2_with fail
            obtain ⟨F, hF⟩ : ∃ F, L'.frames = F := ⟨_, rfl⟩
            have HF := Lib.hid hF; clear hF
            have hfb : F.length ≤ 1099511627776 := by
              rw [← HF.out]
              obtain ⟨own, _, hl, _⟩ := hT
              exact lnk_frames_le hl
            obtain ⟨fl, hfl⟩ : ∃ fl, F.length = fl := ⟨_, rfl⟩
            rw [hfl] at hfb
            have Hfl := Lib.hid hfl; clear hfl
            obtain ⟨dl, hdl⟩ : ∃ dl, L'.s.ds.length = dl := ⟨_, rfl⟩
            have Hdl := Lib.hid hdl
            have Hdl2 := Lib.hid (show (L'.s.ds.length : Int) = (dl : Int) by rw [hdl])
            clear hdl
            obtain ⟨ql, hql⟩ : ∃ ql, L'.r.q.length = ql := ⟨_, rfl⟩
            have Hql := Lib.hid hql
            have Hql2 := Lib.hid (show (L'.r.q.length : Int) = (ql : Int) by rw [hql])
            clear hql
            have ha3 : L'.r.acked ≤ 300 := by omega
            have hs3 : L'.s.sent ≤ 300 := by omega
            obtain ⟨gs, gr, hp⟩ := (hT.grown Kept.none (grown_drewN wz 1) : EndR w ga L' gb L' (fun _ _ => True) wz.drew).parts_
            clear hT
            obtain ⟨e0, e1, e2⟩ := hp.cells
            go_wp2_with fail
            go_region_held3 (fun w' => w'.cell? ⟨gb, 0, none⟩ = some (.int .i64 (L'.epoch : Int)) ∧ w'.cell? ⟨gb, 1, none⟩ = some (.pointer (some ⟨gs, 0, none⟩)) ∧ w'.cell? ⟨gb, 2, none⟩ = some (.pointer (some ⟨gr, 0, none⟩))) (first | (go_keep; done) | (refine ⟨?_, ?_, ?_⟩ <;> assumption))
             (first
              | (go_at_call 53
                 refine (endr_epoch1 hp.close _ rfl).mono ?_
                 rintro e w7 ⟨rfl, rfl⟩)
              | (go_at_call 54
                 refine (endr_unacked1 hp.close (dl : Int) Hdl2.out).mono ?_
                 rintro e w7 ⟨rfl, rfl⟩)
              | (go_at_call 55
                 refine (endp_left hp hs3 dl Hdl.out).mono ?_
                 rintro e w7 ⟨A7, c7, rfl, hnr7⟩
                 have hp7 := hp.grown Kept.none hnr7.grown
                 have kk7 := hp7.cells
                 rcases kk7 with ⟨a0, a1, a2⟩
                 clear hnr7)
              | (go_at_call 56
                 refine (endr_waiting1 hp7.close (ql : Int) Hql2.out).mono ?_
                 rintro e w8 ⟨rfl, rfl⟩)
              | (go_at_call 36
                 refine (endp_look hp7 ha3 ql Hql.out).mono ?_
                 rintro e w8 ⟨A8, c8, rfl, hnr8⟩
                 have hp8 := hp7.grown Kept.none hnr8.grown
                 have kk8 := hp8.cells
                 rcases kk8 with ⟨b0, b1, b2⟩
                 clear hnr8)
              | (go_at_call 58
                 refine (frames_is (endr_frames1 hp8.close) HF.out Hfl.out).mono ?_
                 rintro e w9 ⟨A9, c9, rfl, hnr9⟩
                 have hp9 := hp8.hold Kept.none hnr9
                 have HK9 := Lib.hid (Kept.row Kept.none 78 4 A9 fl (fcells F))
                 have kk9 := hp9.cells
                 rcases kk9 with ⟨d0, d1, d2⟩
                 clear hnr9)
              | (go_at_call 59
                 refine (frames_is (endr_frames2 hp9.close hs3 ha3) HF.out Hfl.out).mono ?_
                 rintro e wA ⟨AA, cA, rfl, hnrA⟩
                 have hpA := hp9.hold HK9.out hnrA
                 have HKA := Lib.hid (Kept.row HK9.out 78 4 AA fl (fcells F))
                 have kkA := hpA.cells
                 rcases kkA with ⟨f0, f1, f2⟩
                 clear hnrA)
              | (go_at_call 57
                 refine (sameFrames_yes _ _ _ _ _ _ _ (hpA.row (fun _ _ h => h.1.2)) (hpA.row (fun _ _ h => h.2)) hfb).mono ?_
                 rintro e wB ⟨rfl, mm, hmm⟩
                 have hpB := hpA.grown HKA.out (hmm ▸ grown_drewN _ mm)
                 have kkB := hpB.cells
                 rcases kkB with ⟨m0, m1, m2⟩
                 clear hmm))
            have hTz := hpB.close.weaken (Y := fun _ _ => True) (fun _ _ _ => trivial)
            clear hp hp7 hp8 hp9 hpA hpB e0 e1 e2 a0 a1 a2 b0 b1 b2 d0 d1 d2 f0 f1 f2 m0 m1 m2
            go_wp2_with fail
            go_roundw
            case rel => exact ⟨k + 1, by omega, by go_num, L', ⟨hak', hsk'⟩, hTz⟩
            case measure => simp [intOf]; omega
          · have h1' : (kd == 1) = false := by simpa using h1
            have h2' : (kd == 2) = false := by simpa using h2
            have h3' : (kd == 3) = false := by simpa using h3
            go_wp2_with fail
            generalize wr.alloc (.cells #[.int .i64 kd, .string tx, .int .i64 fe, .int .i64 fs, .int .i64 fa, .string fd] 80) = wz at hc ⊢
            generalize wr.heap.size = bk at hc HKc Hbk ⊢
            have hE2 := hc
            obtain ⟨L', hL', hak', hsk'⟩ : ∃ L' : Lnk, L = L' ∧ L'.r.acked ≤ k + 1 ∧ L'.s.sent ≤ k + 1 := ⟨_, rfl, by omega, by omega⟩
            rw [hL'] at hE2
            have hT := hE2.weaken (Y := fun _ _ => True) (fun _ _ _ => trivial)
            clear hE2 hc hL' HKc Hbk hak hak2 hsk
            obtain ⟨F, hF⟩ : ∃ F, L'.frames = F := ⟨_, rfl⟩
            have HF := Lib.hid hF; clear hF
            have hfb : F.length ≤ 1099511627776 := by
              rw [← HF.out]
              obtain ⟨own, _, hl, _⟩ := hT
              exact lnk_frames_le hl
            obtain ⟨fl, hfl⟩ : ∃ fl, F.length = fl := ⟨_, rfl⟩
            rw [hfl] at hfb
            have Hfl := Lib.hid hfl; clear hfl
            obtain ⟨dl, hdl⟩ : ∃ dl, L'.s.ds.length = dl := ⟨_, rfl⟩
            have Hdl := Lib.hid hdl
            have Hdl2 := Lib.hid (show (L'.s.ds.length : Int) = (dl : Int) by rw [hdl])
            clear hdl
            obtain ⟨ql, hql⟩ : ∃ ql, L'.r.q.length = ql := ⟨_, rfl⟩
            have Hql := Lib.hid hql
            have Hql2 := Lib.hid (show (L'.r.q.length : Int) = (ql : Int) by rw [hql])
            clear hql
            have ha3 : L'.r.acked ≤ 300 := by omega
            have hs3 : L'.s.sent ≤ 300 := by omega
            obtain ⟨gs, gr, hp⟩ := (hT.grown Kept.none (grown_drewN wz 1) : EndR w ga L' gb L' (fun _ _ => True) wz.drew).parts_
            clear hT
            obtain ⟨e0, e1, e2⟩ := hp.cells
            go_wp2_with fail
            go_region_held3 (fun w' => w'.cell? ⟨gb, 0, none⟩ = some (.int .i64 (L'.epoch : Int)) ∧ w'.cell? ⟨gb, 1, none⟩ = some (.pointer (some ⟨gs, 0, none⟩)) ∧ w'.cell? ⟨gb, 2, none⟩ = some (.pointer (some ⟨gr, 0, none⟩))) (first | (go_keep; done) | (refine ⟨?_, ?_, ?_⟩ <;> assumption))
             (first
              | (go_at_call 53
                 refine (endr_epoch1 hp.close _ rfl).mono ?_
                 rintro e w7 ⟨rfl, rfl⟩)
              | (go_at_call 54
                 refine (endr_unacked1 hp.close (dl : Int) Hdl2.out).mono ?_
                 rintro e w7 ⟨rfl, rfl⟩)
              | (go_at_call 55
                 refine (endp_left hp hs3 dl Hdl.out).mono ?_
                 rintro e w7 ⟨A7, c7, rfl, hnr7⟩
                 have hp7 := hp.grown Kept.none hnr7.grown
                 have kk7 := hp7.cells
                 rcases kk7 with ⟨a0, a1, a2⟩
                 clear hnr7)
              | (go_at_call 56
                 refine (endr_waiting1 hp7.close (ql : Int) Hql2.out).mono ?_
                 rintro e w8 ⟨rfl, rfl⟩)
              | (go_at_call 36
                 refine (endp_look hp7 ha3 ql Hql.out).mono ?_
                 rintro e w8 ⟨A8, c8, rfl, hnr8⟩
                 have hp8 := hp7.grown Kept.none hnr8.grown
                 have kk8 := hp8.cells
                 rcases kk8 with ⟨b0, b1, b2⟩
                 clear hnr8)
              | (go_at_call 58
                 refine (frames_is (endr_frames1 hp8.close) HF.out Hfl.out).mono ?_
                 rintro e w9 ⟨A9, c9, rfl, hnr9⟩
                 have hp9 := hp8.hold Kept.none hnr9
                 have HK9 := Lib.hid (Kept.row Kept.none 78 4 A9 fl (fcells F))
                 have kk9 := hp9.cells
                 rcases kk9 with ⟨d0, d1, d2⟩
                 clear hnr9)
              | (go_at_call 59
                 refine (frames_is (endr_frames2 hp9.close hs3 ha3) HF.out Hfl.out).mono ?_
                 rintro e wA ⟨AA, cA, rfl, hnrA⟩
                 have hpA := hp9.hold HK9.out hnrA
                 have HKA := Lib.hid (Kept.row HK9.out 78 4 AA fl (fcells F))
                 have kkA := hpA.cells
                 rcases kkA with ⟨f0, f1, f2⟩
                 clear hnrA)
              | (go_at_call 57
                 refine (sameFrames_yes _ _ _ _ _ _ _ (hpA.row (fun _ _ h => h.1.2)) (hpA.row (fun _ _ h => h.2)) hfb).mono ?_
                 rintro e wB ⟨rfl, mm, hmm⟩
                 have hpB := hpA.grown HKA.out (hmm ▸ grown_drewN _ mm)
                 have kkB := hpB.cells
                 rcases kkB with ⟨m0, m1, m2⟩
                 clear hmm))
            have hTz := hpB.close.weaken (Y := fun _ _ => True) (fun _ _ _ => trivial)
            clear hp hp7 hp8 hp9 hpA hpB e0 e1 e2 a0 a1 a2 b0 b1 b2 d0 d1 d2 f0 f1 f2 m0 m1 m2
            go_wp2_with fail
            go_roundw
            case rel => exact ⟨k + 1, by omega, by go_num, L', ⟨hak', hsk'⟩, hTz⟩
            case measure => simp [intOf]; omega
    · obtain rfl : k = m := by omega
      go_wp2
      go_ret
      exact ⟨rfl, hs.end_⟩

theorem plays12_walk (x0 x1 x2 : Int) (p : Bool) (A : Option Addr) (c : Nat) (l : List Act6) (w : World) (hr : Rd w 6 A l.length (a6cells l)) :
    Calls Try.prog 12 #[.agg #[.int .i64 x0, .int .i64 x1, .int .i64 x2], .bool p, .slice A l.length c] w (BoolRet w true) := by
  cases hg : great6 l with
  | true => exact plays12_great x0 x1 x2 p A c l w hr hg
  | false => exact plays12_play x0 x1 x2 p A c l w hr hg
end Go.Proofs.Ytjloipjchcaloaa
