/- The walk of LinkPair. -/
import Derived.Test.YtjloipjchcaloaaLawEnds
import Derived.Test.YtjloipjchcaloaaAw12
import Derived.Test.YtjloipjchcaloaaPairLaw3
namespace Go.Proofs.Ytjloipjchcaloaa
open Go.RowKit
set_option linter.unusedVariables false

theorem Kept.road (x0 x1 : Int) (bx : Nat) (th bk : List Frm) (g : List ByteArray) (A1 : Option Addr) (c1 : Nat) (A2 : Option Addr) (c2 : Nat) (A3 : Option Addr) (c3 : Nat) : Kept (Road x0 x1 bx th bk g A1 c1 A2 c2 A3 c3) := by
  intro w own w' own' hk h
  obtain ⟨h1, h2, h3, h4, h5⟩ := h
  have hb := hk bx h5.lt (by omega)
  exact ⟨h1.keep fun k hk' ho => ⟨(hk k hk' (by omega)).1, by rw [(hk k hk' (by omega)).2]; exact ho⟩, h2.keep fun k hk' ho => ⟨(hk k hk' (by omega)).1, by rw [(hk k hk' (by omega)).2]; exact ho⟩,
    h3.keep fun k hk' ho => ⟨(hk k hk' (by omega)).1, by rw [(hk k hk' (by omega)).2]; exact ho⟩, by rw [hb.2]; exact h4, h5.of_eq hb.1⟩

theorem pick_index (p : Int) (tl : Nat) (h : 0 < tl) : ∃ r : Nat, r < tl ∧ (wrap64 (IntKind.u16.wrap (p.tdiv 2))).tmod (tl : Int) = (r : Int) := by
  have h0 : 0 ≤ wrap64 (IntKind.u16.wrap (p.tdiv 2)) := by
    have : IntKind.u16.wrap (p.tdiv 2) = (p.tdiv 2) % 65536 := by simp [IntKind.wrap, IntKind.bits, IntKind.signed]
    rw [this]
    generalize p.tdiv 2 = q
    unfold wrap64
    omega
  have h1 := Int.tmod_nonneg (tl : Int) h0
  have h2 := Int.tmod_lt_of_pos (wrap64 (IntKind.u16.wrap (p.tdiv 2))) (show (0 : Int) < (tl : Int) by omega)
  exact ⟨((wrap64 (IntKind.u16.wrap (p.tdiv 2))).tmod (tl : Int)).toNat, by omega, by omega⟩

/-- a frame of those that are on their way -/
theorem own_frame {w : World} {own : Nat → Nat} {i : Nat} {A : Option Addr} {l : List Frm} {c : Nat} (h : OwnS w own i 78 4 A l.length c (fcells l)) {k : Nat} (hk : k < l.length) :
    ∃ b off f, A = some ⟨b, off, none⟩ ∧ l[k]? = some f ∧ f ∈ l ∧ w.cell? ⟨b, off + k * 4, none⟩ = some (.int .i64 f.epoch) ∧ w.cell? ⟨b, off + k * 4 + 1, none⟩ = some (.int .i64 f.seq) ∧ w.cell? ⟨b, off + k * 4 + 2, none⟩ = some (.int .i64 f.ack) ∧ w.cell? ⟨b, off + k * 4 + 3, none⟩ = some (.string f.data) := by
  obtain ⟨b, off, f, e, hf, h0, h1, h2, h3⟩ := frame_at h.row.rd hk
  exact ⟨b, off, f, e, hf, List.mem_of_getElem? hf, h0, h1, h2, h3⟩

set_option maxHeartbeats 4000000 in
set_option maxRecDepth 10000 in
theorem pair12_bad (x0 x1 : Int) (A : Option Addr) (m c : Nat) (P : Option Addr) (n cp : Nat) (w : World) (hbad : 30 < m ∨ (¬ 30 < m ∧ 200 < n)) :
    Calls Try.prog 13 #[.agg #[.int .i64 x0, .int .i64 x1], .slice A m c, .slice P n cp] w (BoolRet w true) := by
  have hP := (Pre.start w).alloc Kept.none 36 #[.int .i64 x0, .int .i64 x1]
  go_enter Try.func13, Try.ntmps13
  go_wp2_with fail
  generalize w.alloc (.cells #[.int .i64 x0, .int .i64 x1] 36) = W0 at hP ⊢
  generalize w.heap.size = bx at hP ⊢
  have hK := Kept.blk Kept.none bx 36 #[.int .i64 x0, .int .i64 x1]
  have HK := Lib.hid hK; clear hK
  have hPd : Pre w _ W0.drew := hP.grown HK.out (grown_drewN W0 1)
  have hcl : ∀ W (g1 : Nat) (L1 : Lnk), EndO w g1 L1 (fun w own => True ∧ own bx = 31 ∧ Blk w bx 36 #[.int .i64 x0, .int .i64 x1]) W → W.cell? ⟨bx, 0, none⟩ = some (.int .i64 x0) ∧ W.cell? ⟨bx, 1, none⟩ = some (.int .i64 x1) := fun W g1 L1 h => by
    have hb := h.blk (fun _ _ h => h.2.2)
    exact ⟨hb.cell 0, hb.cell 1⟩
  have Hcl := Lib.hid hcl; clear hcl
  have hcl2 : ∀ W (g1 g2 : Nat) (L1 L2 : Lnk), Ends w g1 L1 g2 L2 (fun w own => True ∧ own bx = 31 ∧ Blk w bx 36 #[.int .i64 x0, .int .i64 x1]) W → W.cell? ⟨bx, 0, none⟩ = some (.int .i64 x0) ∧ W.cell? ⟨bx, 1, none⟩ = some (.int .i64 x1) := fun W g1 g2 L1 L2 h => by
    have hb := h.blk (fun _ _ h => h.2.2)
    exact ⟨hb.cell 0, hb.cell 1⟩
  have Hcl2 := Lib.hid hcl2; clear hcl2
  have hb0 := hPd.blk (fun _ _ h => h.2.2)
  have y0 : W0.drew.cell? ⟨bx, 0, none⟩ = some (.int .i64 x0) := hb0.cell 0
  have y1 : W0.drew.cell? ⟨bx, 1, none⟩ = some (.int .i64 x1) := hb0.cell 1
  clear hb0 hP
  go_region_held3 (fun w' => w'.cell? ⟨bx, 0, none⟩ = some (.int .i64 x0) ∧ w'.cell? ⟨bx, 1, none⟩ = some (.int .i64 x1)) (first | (go_keep; done) | (constructor <;> assumption))
   (first
    | (go_at_call 44
       refine (endo_new2 hE1 HK.out 0 x0 x1 true).mono ?_
       rintro e w2 ⟨rfl, hE2⟩
       have kk2 := Hcl2.out _ _ _ _ _ hE2
       rcases kk2 with ⟨s0, s1⟩)
    | (go_at_call 44
       refine (pre_new hPd HK.out 1 x0 x1 false).mono ?_
       rintro e w1 ⟨rfl, hE1⟩
       have kk1 := Hcl.out _ _ _ hE1
       rcases kk1 with ⟨r0, r1⟩))
  clear hE1 hPd y0 y1 s0 s1 r0 r1 Hcl Hcl2
  rcases hbad with h | ⟨h1, h2⟩
  all_goals
    go_wp2_with fail
    refine (awake12 w2).mono ?_
    rintro e w3 ⟨rfl, hg⟩
    have hE3 := hE2.grown HK.out hg
    clear hE2 hg
    go_wp2_with fail
    refine (awake12 w3).mono ?_
    rintro e w4 ⟨rfl, hg⟩
    have hE4 := hE3.grown HK.out hg
    clear hE3 hg
    go_wp2
    go_ret
    exact ⟨rfl, hE4.end_⟩

set_option maxHeartbeats 16000000 in
set_option maxRecDepth 10000 in
theorem pair12_play (x0 x1 : Int) (A : Option Addr) (c : Nat) (l : List ByteArray) (P : Option Addr) (cp : Nat) (ps : List Int) (w : World) (hr : Rd w 1 A l.length (l.map Value.string)) (hlc : l.length ≤ c) (hcm : c ≤ maxLen) (hrp : Rd w 1 P ps.length (ps.map (Value.int .u16))) (h30 : ¬ 30 < l.length) (h200 : ¬ 200 < ps.length) :
    Calls Try.prog 13 #[.agg #[.int .i64 x0, .int .i64 x1], .slice A l.length c, .slice P ps.length cp] w (BoolRet w true) := by
  obtain ⟨i0, hi, hz0, hz1, hz2⟩ := info_parts Try.info9
  obtain ⟨j0, hj, hy0, hy1, hy2⟩ := info_parts Try.info78
  have Hr := Lib.hid hr; clear hr
  have Hrp := Lib.hid hrp; clear hrp
  generalize hN : l.length = m at *
  have HN := Lib.hid hN; clear hN
  generalize hM : ps.length = n at *
  have HM := Lib.hid hM; clear hM
  have hEE : ∀ W, Rd W 1 A m (l.map Value.string) → Calls Try.prog 60 #[.agg #[.int .i64 x0, .int .i64 x1], .slice A m c] W (BoolRet W true) := fun W h => by
    have := HN.out
    subst this
    exact ends60_walk x0 x1 A c l W h (by omega)
  have HEE := Lib.hid hEE; clear hEE
  have hd30 : decide ((30 : Int) < (m : Int)) = false := by simp; omega
  have hd200 : decide ((200 : Int) < (n : Int)) = false := by simp; omega
  have hP := (Pre.start w).alloc Kept.none 36 #[.int .i64 x0, .int .i64 x1]
  go_enter Try.func13, Try.ntmps13
  go_wp2_with fail
  generalize w.alloc (.cells #[.int .i64 x0, .int .i64 x1] 36) = W0 at hP ⊢
  generalize w.heap.size = bx at hP ⊢
  have hK := Kept.blk Kept.none bx 36 #[.int .i64 x0, .int .i64 x1]
  have HK := Lib.hid hK; clear hK
  have hPd : Pre w _ W0.drew := hP.grown HK.out (grown_drewN W0 1)
  have hcl : ∀ W (g1 : Nat) (L1 : Lnk), EndO w g1 L1 (fun w own => True ∧ own bx = 31 ∧ Blk w bx 36 #[.int .i64 x0, .int .i64 x1]) W → W.cell? ⟨bx, 0, none⟩ = some (.int .i64 x0) ∧ W.cell? ⟨bx, 1, none⟩ = some (.int .i64 x1) := fun W g1 L1 h => by
    have hb := h.blk (fun _ _ h => h.2.2)
    exact ⟨hb.cell 0, hb.cell 1⟩
  have Hcl := Lib.hid hcl; clear hcl
  have hcl2 : ∀ W (g1 g2 : Nat) (L1 L2 : Lnk), Ends w g1 L1 g2 L2 (fun w own => True ∧ own bx = 31 ∧ Blk w bx 36 #[.int .i64 x0, .int .i64 x1]) W → W.cell? ⟨bx, 0, none⟩ = some (.int .i64 x0) ∧ W.cell? ⟨bx, 1, none⟩ = some (.int .i64 x1) := fun W g1 g2 L1 L2 h => by
    have hb := h.blk (fun _ _ h => h.2.2)
    exact ⟨hb.cell 0, hb.cell 1⟩
  have Hcl2 := Lib.hid hcl2; clear hcl2
  have hb0 := hPd.blk (fun _ _ h => h.2.2)
  have y0 : W0.drew.cell? ⟨bx, 0, none⟩ = some (.int .i64 x0) := hb0.cell 0
  have y1 : W0.drew.cell? ⟨bx, 1, none⟩ = some (.int .i64 x1) := hb0.cell 1
  clear hb0 hP
  go_region_held3 (fun w' => w'.cell? ⟨bx, 0, none⟩ = some (.int .i64 x0) ∧ w'.cell? ⟨bx, 1, none⟩ = some (.int .i64 x1)) (first | (go_keep; done) | (constructor <;> assumption))
   (first
    | (go_at_call 44
       refine (endo_new2 hE1 HK.out 0 x0 x1 true).mono ?_
       rintro e w2 ⟨rfl, hE2⟩
       have kk2 := Hcl2.out _ _ _ _ _ hE2
       rcases kk2 with ⟨s0, s1⟩)
    | (go_at_call 44
       refine (pre_new hPd HK.out 1 x0 x1 false).mono ?_
       rintro e w1 ⟨rfl, hE1⟩
       have kk1 := Hcl.out _ _ _ hE1
       rcases kk1 with ⟨r0, r1⟩))
  have ht : Ends w W0.drew.heap.size (Lnk.new 1 x0 x1 false) w1.heap.size (Lnk.new 0 x0 x1 true) (Road x0 x1 bx [] [] [] none 0 none 0 none 0) w2 := by
    obtain ⟨own, hB, h1, h2, _, hb1, hb2⟩ := hE2
    exact ⟨own, hB, h1, h2, OwnS.nil _ _ _ _ _, OwnS.nil _ _ _ _ _, OwnS.nil _ _ _ _ _, hb1, hb2⟩
  clear hE2 hE1 hPd y0 y1 s0 s1 r0 r1 Hcl Hcl2 HK
  have hga : W0.drew.heap.size = W0.heap.size := rfl
  rw [hga] at ht
  clear hga
  generalize W0.heap.size = ga at ht ⊢
  generalize w1.heap.size = gb at ht ⊢
  have hs0 : ((0 : Nat) : Int) = ((Lnk.new 1 x0 x1 false).s.sent : Int) := rfl
  have hpr := Lib.hid (PR.start l x0 x1)
  generalize Lnk.new 1 x0 x1 false = A0 at ht hpr hs0
  have Hs0 := Lib.hid hs0; clear hs0
  generalize Lnk.new 0 x0 x1 true = B0 at ht hpr
  go_wp2_with fail
  refine (awake12 w2).mono ?_
  rintro e w3 ⟨rfl, hg⟩
  have ht3 := ht.grown (Kept.road _ _ _ _ _ _ _ _ _ _ _ _) hg
  clear ht hg
  go_wp2_with fail
  go_loopg [52] m (fun gk v52 wx => ∃ k : Nat, k + gk = m ∧ v52 = .int .i64 k ∧ w3 = wx)
  case atStart => exact ⟨0, by omega, rfl, rfl⟩
  case round =>
    obtain ⟨k, hk, rfl, rfl⟩ := hrel
    by_cases hlt : k < m
    · have hrd : Rd w3 1 A m (l.map Value.string) := Hr.out.keep (fun b off _ _ hb => ht3.end_.block b hb (by simp)) (by omega)
      obtain ⟨b, off, hkl, rfl, c0⟩ := hrd.map_at hlt
      clear hrd
      generalize l[k] = tx at c0
      by_cases hbig : 50 < tx.size
      · go_wp2_with fail
        go_ret
        exact ⟨rfl, ht3.end_⟩
      · go_wp2_with fail
        go_roundg (gk - 1)
        case measure => omega
        case rel => exact ⟨k + 1, by omega, by go_num, rfl⟩
    · obtain rfl : m = k := by omega
      clear hk
      go_wp2_with fail
      go_loopg [11, 12, 13, 14, 62] n (fun gk v11 v12 v13 v14 v62 wx => ∃ i : Nat, i + gk = n ∧ v62 = .int .i64 i ∧ ∃ (A1 B1 : Lnk) (th bk : List Frm) (g : List ByteArray) (At : Option Addr) (ct : Nat) (Ab : Option Addr) (cb : Nat) (Ag : Option Addr) (cg : Nat),
        v14 = .int .i64 A1.s.sent ∧ v13 = .slice Ag g.length cg ∧ v11 = .slice At th.length ct ∧ v12 = .slice Ab bk.length cb ∧ th.length ≤ 216 ∧ bk.length ≤ 216 ∧ Hid (PR l A1 B1 g th bk) ∧ Ends w ga A1 gb B1 (Road x0 x1 bx th bk g At ct Ab cb Ag cg) wx)
      case atStart => exact ⟨0, by omega, rfl, A0, B0, [], [], [], none, 0, none, 0, none, 0, by rw [← Hs0.out]; rfl, rfl, rfl, rfl, by simp, by simp, hpr, ht3⟩
      case round =>
        clear ht3 hpr Hs0
        obtain ⟨i, hin, rfl, A1, B1, th, bk, g, At, ct, Ab, cb, Ag, cg, rfl, rfl, rfl, rfl, hth, hbk, Hpr, hs⟩ := hrel
        obtain ⟨gK, rfl⟩ : ∃ gK, gK = gk := ⟨_, rfl⟩
        by_cases hlt : i < n
        · have hd63 : decide ((i : Int) < (n : Int)) = true := by simp; omega
          have hil : i < ps.length := by have := HM.out; omega
          have hrd : Rd wr 1 P n (ps.map (Value.int .u16)) := Hrp.out.keep (fun b off _ _ hb => hs.end_.block b hb (by simp)) (by omega)
          obtain ⟨pb, po, _, rfl, c0⟩ := hrd.map_at hlt
          clear hrd
          generalize ps[i] = p at c0
          go_upto_block 4 with fail
          go_cut [14] (fun s14 wx => ∃ A2 : Lnk, s14 = .int .i64 A2.s.sent ∧ Hid (PR l A2 B1 g th bk) ∧ Ends w ga A2 gb B1 (Road x0 x1 bx th bk g At ct Ab cb Ag cg) wx)
          case first =>
            have hst := Hpr.out.ok.asent
            rw [HN.out] at hst
            have HKx := Lib.hid (Kept.road x0 x1 bx th bk g At ct Ab cb Ag cg)
            clear c0
            go_wp2_with fail
            go_loopg [14] (m - A1.s.sent) (fun gk v14 wx => ∃ A2 : Lnk, A2.s.sent + gk = m ∧ v14 = .int .i64 A2.s.sent ∧ Hid (PR l A2 B1 g th bk) ∧ Ends w ga A2 gb B1 (Road x0 x1 bx th bk g At ct Ab cb Ag cg) wx)
            case atStart => exact ⟨A1, by omega, rfl, Hpr, hs⟩
            case round =>
              clear hs Hpr
              obtain ⟨A2, hsm, rfl, Hpo, hs⟩ := hrel
              by_cases hlt2 : A2.s.sent < m
              · have hrd : Rd wr 1 A m (l.map Value.string) := Hr.out.keep (fun b off _ _ hb => hs.end_.block b hb (by simp)) (by omega)
                obtain ⟨b, off, hkl, rfl, c0⟩ := hrd.map_at hlt2
                clear hrd
                obtain ⟨sn, hsn⟩ : ∃ sn, A2.s.sent = sn := ⟨_, rfl⟩
                obtain ⟨oe, hoe⟩ : ∃ oe, A2.s.offE = oe := ⟨_, rfl⟩
                obtain ⟨tx, htx⟩ : ∃ tx, l[A2.s.sent] = tx := ⟨_, rfl⟩
                by_cases h0 : oe = 0
                · obtain ⟨hp2, hn2⟩ := Hpo.out.offer hkl (hoe.trans h0)
                  rw [htx] at hp2 hn2 c0
                  obtain ⟨s', hs'⟩ : ∃ s', A2.s.off tx = s' := ⟨_, rfl⟩
                  rw [hs'] at hp2 hn2
                  have Hp2 := Lib.hid hp2; clear hp2
                  have Hs' := Lib.hid hs'; clear hs'
                  rw [hsn] at c0 hsm hn2 hlt2 ⊢
                  have Hn2 := Lib.hid hn2; clear hn2
                  subst h0
                  have Hoe := Lib.hid hoe; clear hoe htx
                  clear hsn hkl
                  go_wp2_with fail
                  refine (ends_offer1 hs HKx.out tx 0 s' Hoe.out Hs'.out).mono ?_
                  rintro e w5 ⟨rfl, hE5⟩
                  clear hs c0
                  go_wp2_with fail
                  go_roundg (gk - 1)
                  case measure => omega
                  case rel => exact ⟨{ A2 with s := s' }, by have := Hn2.out; show s'.sent + _ = m; omega, by show _ = Value.int .i64 (s'.sent : Int); rw [Hn2.out]; go_num, Hp2, hE5⟩
                · have hof := off_same (s := A2.s) tx (by rw [hoe]; exact h0)
                  rw [htx] at c0
                  have hb0 : (oe == 0) = false := by simpa using h0
                  rw [hsn] at c0 hsm hlt2 ⊢
                  have Hsn := Lib.hid hsn; clear hsn
                  have Hoe := Lib.hid hoe; clear hoe htx h0
                  have Hof := Lib.hid hof; clear hof
                  clear hkl
                  go_wp2_with fail
                  refine (ends_offer1 hs HKx.out tx oe A2.s Hoe.out Hof.out).mono ?_
                  rintro e w5 ⟨rfl, hE5⟩
                  clear hs c0
                  go_wp2_with fail
                  go_meet
                  exact ⟨A2, by rw [Hsn.out], Hpo, hE5⟩
              · have hsn : A2.s.sent = m := by omega
                have Hsn := Lib.hid hsn
                rw [hsn]
                clear hsn
                go_wp2_with fail
                go_meet
                exact ⟨A2, by rw [Hsn.out], Hpo, hs⟩
          case rest =>
            clear hs Hpr c0
            obtain ⟨A2, rfl, Hpr, hs⟩ := hcut
            obtain ⟨sn, hsn⟩ : ∃ sn, A2.s.sent = sn := ⟨_, rfl⟩
            rw [hsn]
            have Hsn := Lib.hid hsn; clear hsn
            obtain ⟨pv, hpv⟩ : ∃ pv, B1.r.popV = pv := ⟨_, rfl⟩
            obtain ⟨pb, hpb⟩ : ∃ pb, B1.r.popB = pb := ⟨_, rfl⟩
            have hR4 := R4.start Hpr.out.ok Hpr.out.room
            rw [hpv, hpb] at hR4
            have HR4 := Lib.hid hR4; clear hR4
            have Hpv := Lib.hid hpv; clear hpv
            have Hpb := Lib.hid hpb; clear hpb
            have hgm := Hpr.out.ok.got_le
            rw [HN.out] at hgm
            go_wp2_with fail
            refine (ends_pop2 hs (Kept.road x0 x1 bx th bk g At ct Ab cb Ag cg) pv pb _ Hpv.out Hpb.out rfl).mono ?_
            rintro e w6 ⟨rfl, hE6⟩
            clear hs
            go_upto_block 6 with fail
            go_cut [13, 17, 18] (fun s13 s17 s18 wx => ∃ (g' : List ByteArray) (Ag' : Option Addr) (cg' : Nat) (B2 : Lnk), s13 = .slice Ag' g'.length cg' ∧ Hid (PR l A2 B2 g' th bk) ∧ Ends w ga A2 gb B2 (Road x0 x1 bx th bk g' At ct Ab cb Ag' cg') wx)
            case first =>
              go_wp2_with fail
              go_loopg [13, 17, 18] (m + 1 - g.length) (fun gk v7 v11 v12 wx => ∃ (g' : List ByteArray) (Ag' : Option Addr) (cg' : Nat) (s : ByteArray) (ok : Bool) (B3 : Lnk), g'.length + gk = m + 1 ∧ v7 = .slice Ag' g'.length cg' ∧ v11 = .string s ∧ v12 = .bool ok ∧ Hid (R4 l A2 B1 g' s ok B3) ∧ Ends w ga A2 gb B3 (Road x0 x1 bx th bk g' At ct Ab cb Ag' cg') wx)
              case atStart => exact ⟨g, Ag, cg, pv, pb, _, by omega, rfl, rfl, rfl, HR4, hE6⟩
              case round =>
                clear hE6 HR4
                obtain ⟨g', Ag', cg', s, ok, B3, hg4, rfl, rfl, rfl, HR4, hs⟩ := hrel
                cases ok with
                | true =>
                  have hgl := HR4.out.len
                  rw [HN.out] at hgl
                  have hst := HR4.out.step
                  obtain ⟨pv2, hpv⟩ : ∃ pv, B3.r.popV = pv := ⟨_, rfl⟩
                  obtain ⟨pb2, hpb⟩ : ∃ pb, B3.r.popB = pb := ⟨_, rfl⟩
                  rw [hpv, hpb] at hst
                  have Hst := Lib.hid hst; clear hst
                  have Hpv2 := Lib.hid hpv; clear hpv
                  have Hpb2 := Lib.hid hpb; clear hpb
                  obtain ⟨own, hB, h1, h2, hO32, hO33, hO, hob, hbb⟩ := hs
                  have hnews : Rd (wr.alloc (.cells #[.string s] 9)) 1 (some ⟨wr.heap.size, 0, none⟩) 1 [.string s] := Rd.of_blk (Blk.new wr 9 _) (by simp) (fun j u h => by simpa using h)
                  have HO32 := Lib.hid hO32; clear hO32
                  have HO33 := Lib.hid hO33; clear hO33
                  obtain ⟨gn, hgn⟩ : ∃ gn, g'.length = gn := ⟨_, rfl⟩
                  rw [hgn] at hO hg4 hgl ⊢
                  have Hgn := Lib.hid hgn; clear hgn
                  go_wp2_with (at_builtin; refine wpList_mine rfl (.tmp 92) (.tmp 94) 22 rfl 9 i0 (.string ByteArray.empty) 1 16 Try.underlying22 hi hz0 hz1 hz2 rfl (by decide) own 34 Ag' gn cg' _ (by rfl) (hO.alloc _) (some ⟨wr.heap.size, 0, none⟩) 1 1 [.string s] (by rfl) hnews (by simp [Value.oneCell']) (by unfold maxLen; omega) (by omega) ?_; intro A6 c6 w6 own6 hO6 st6)
                  have st := ((Step.refl 34 wr own).alloc (.cells #[.string s] 9)).trans st6
                  have hob6 := st.other (j := 31) (by omega) hbb.lt hob
                  have hE6 : Ends w ga A2 gb B3 (Road x0 x1 bx th bk (g' ++ [s]) At ct Ab cb A6 c6) w6 := by
                    refine ⟨own6, hB.step st (by omega), h1.other (st.toG (l := 3) rfl) (by omega), h2.other (st.toG (l := 3) rfl) (by omega), HO32.out.step st (by omega), HO33.out.step st (by omega), ?_, hob6.2, hbb.of_eq hob6.1⟩
                    rw [List.length_append, Hgn.out, List.map_append]
                    exact hO6
                  clear hO hO6 st st6 hB h1 h2 HO32 HO33 hnews hob hbb hob6
                  go_wp2_with fail
                  refine (ends_pop2 hE6 (Kept.road _ _ _ _ _ _ _ _ _ _ _ _) pv2 pb2 _ Hpv2.out Hpb2.out rfl).mono ?_
                  rintro e w7 ⟨rfl, hE7⟩
                  clear hE6
                  go_wp2_with fail
                  go_roundg (gk - 1)
                  case measure => omega
                  case rel => exact ⟨g' ++ [s], A6, c6, pv2, pb2, _, by rw [List.length_append, Hgn.out]; simp; omega, by rw [List.length_append, Hgn.out]; rfl, rfl, rfl, Hst, hE7⟩
                | false =>
                  go_wp2_with fail
                  go_meet
                  exact ⟨g', Ag', cg', B3, rfl, Lib.hid (Hpr.out.popped HR4.out), hs⟩
            case rest =>
              clear hE6 HR4 Hpr Hpv Hpb hgm
              obtain ⟨g', Ag', cg', B2, rfl, Hpr, hs⟩ := hcut
              have hgm := Hpr.out.ok.got_le
              have hgT := Hpr.out.ok.gotT
              rw [HN.out] at hgm
              have hra : Rd wc 1 Ag' g'.length (g'.map Value.string) := by
                obtain ⟨own, _, _, _, _, _, hO, _⟩ := hs
                exact hO.row.rd
              have hrb : Rd wc 1 A g'.length (g'.map Value.string) := by
                have h1 : Rd wc 1 A m (l.map Value.string) := Hr.out.keep (fun b off _ _ hb => hs.end_.block b hb (by simp)) (by omega)
                have h2 := h1.take hgm
                rwa [← hgT] at h2
              clear hgT
              obtain ⟨gl, hgl⟩ : ∃ gl, g'.length = gl := ⟨_, rfl⟩
              rw [hgl] at hra hrb hgm ⊢
              have Hgl := Lib.hid hgl; clear hgl
              have hgc : gl ≤ c := by omega
              have hgb : gl ≤ 1099511627776 := by omega
              have hmxc : c ≤ maxLen := hcm
              unfold maxLen at hmxc
              go_wp2_with fail
              refine (same_yes _ _ _ _ _ _ _ hra hrb hgb).mono ?_
              rintro e w7 ⟨rfl, mm, rfl⟩
              have hs7 := hs.grown (Kept.road _ _ _ _ _ _ _ _ _ _ _ _) (grown_drewN _ mm)
              clear hs hra hrb
              generalize wc.drewN mm = W7 at hs7 ⊢
              go_upto_if 112 with fail
              go_cut [11] (fun s11 wx => ∃ (th' : List Frm) (At' : Option Addr) (ct' : Nat), s11 = .slice At' th'.length ct' ∧ th'.length ≤ 216 ∧ Hid (PR l A2 B2 g' th' bk) ∧ Ends w ga A2 gb B2 (Road x0 x1 bx th' bk g' At' ct' Ab cb Ag' cg') wx)
              case first =>
                by_cases hl200 : th.length < 200
                · obtain ⟨F, hF⟩ : ∃ F, A2.frames = F := ⟨_, rfl⟩
                  have hfl16 := frames_le16 Hpr.out.ok.aok
                  have hpt := Hpr.out.addThere
                  rw [hF] at hfl16 hpt
                  have HF := Lib.hid hF; clear hF
                  have Hpt := Lib.hid hpt; clear hpt
                  obtain ⟨fl, hfl⟩ : ∃ fl, F.length = fl := ⟨_, rfl⟩
                  rw [hfl] at hfl16
                  have Hfl := Lib.hid hfl; clear hfl
                  obtain ⟨tl, htl⟩ : ∃ tl, th.length = tl := ⟨_, rfl⟩
                  rw [htl] at hl200 ⊢
                  have Htl := Lib.hid htl; clear htl
                  go_wp2_with fail
                  refine (ends_frames1 hs7).mono ?_
                  rw [HF.out]
                  rintro e w8 ⟨A8, c8, rfl, hnr⟩
                  rw [Hfl.out] at hnr ⊢
                  have hs8 := hs7.grown (Kept.road _ _ _ _ _ _ _ _ _ _ _ _) hnr.grown
                  have hrF := (hnr.row (fun _ => 0) W7.heap.size 40 (Nat.le_refl _)).rd
                  clear hs7 hnr
                  obtain ⟨own, hB, h1, h2, hO, hO33, hO34, hob, hbb⟩ := hs8
                  rw [Htl.out] at hO
                  have HO33 := Lib.hid hO33; clear hO33
                  have HO34 := Lib.hid hO34; clear hO34
                  go_wp2_with (at_builtin; refine wpList_mine rfl (.tmp 113) (.tmp 115) 87 rfl 78 j0 (.agg #[.int .i64 0, .int .i64 0, .int .i64 0, .string ByteArray.empty]) 4 40 Try.underlying87 hj hy0 hy1 hy2 rfl (by decide) own 32 At tl ct _ (by rfl) hO A8 fl c8 (fcells F) (by rfl) hrF (fcells_one F) (by unfold maxLen; omega) (by omega) ?_; intro A9 c9 w9 own9 hO9 st9)
                  have hob9 := st9.other (j := 31) (by omega) hbb.lt hob
                  have hE9 : Ends w ga A2 gb B2 (Road x0 x1 bx (th ++ F) bk g' A9 c9 Ab cb Ag' cg') w9 := by
                    refine ⟨own9, hB.step st9 (by omega), h1.other (st9.toG (l := 3) rfl) (by omega), h2.other (st9.toG (l := 3) rfl) (by omega), ?_, HO33.out.step st9 (by omega), HO34.out.step st9 (by omega), hob9.2, hbb.of_eq hob9.1⟩
                    rw [List.length_append, Htl.out, Hfl.out, fcells_append]
                    exact hO9
                  clear hO hO9 st9 hB h1 h2 HO33 HO34 hrF hob hbb hob9
                  go_wp2_with fail
                  go_meet
                  exact ⟨th ++ F, A9, c9, by rw [List.length_append, Htl.out, Hfl.out], by rw [List.length_append, Htl.out, Hfl.out]; omega, Hpt, hE9⟩
                · go_wp2_with fail
                  go_meet
                  exact ⟨th, At, ct, rfl, hth, Hpr, hs7⟩
              case rest =>
                clear hs7 Hpr hth
                obtain ⟨th', At', ct', rfl, hth, Hpr, hs⟩ := hcut
                go_upto_if 119 with fail
                go_cut [12] (fun s12 wx => ∃ (bk' : List Frm) (Ab' : Option Addr) (cb' : Nat), s12 = .slice Ab' bk'.length cb' ∧ bk'.length ≤ 216 ∧ Hid (PR l A2 B2 g' th' bk') ∧ Ends w ga A2 gb B2 (Road x0 x1 bx th' bk' g' At' ct' Ab' cb' Ag' cg') wx)
                case first =>
                  by_cases hl200 : bk.length < 200
                  · obtain ⟨F, hF⟩ : ∃ F, B2.frames = F := ⟨_, rfl⟩
                    have hfl16 : B2.frames.length ≤ 16 := by
                      obtain ⟨own, _, _, ⟨_, _, _, _, _, hsn, _⟩, _⟩ := hs
                      exact frames_le16 hsn.ok
                    have hpt := Hpr.out.addBack
                    rw [hF] at hfl16 hpt
                    have HF := Lib.hid hF; clear hF
                    have Hpt := Lib.hid hpt; clear hpt
                    obtain ⟨fl, hfl⟩ : ∃ fl, F.length = fl := ⟨_, rfl⟩
                    rw [hfl] at hfl16
                    have Hfl := Lib.hid hfl; clear hfl
                    obtain ⟨tl, htl⟩ : ∃ tl, bk.length = tl := ⟨_, rfl⟩
                    rw [htl] at hl200 ⊢
                    have Htl := Lib.hid htl; clear htl
                    go_wp2_with fail
                    refine (ends_frames2 hs).mono ?_
                    rw [HF.out]
                    rintro e w8 ⟨A8, c8, rfl, hnr⟩
                    rw [Hfl.out] at hnr ⊢
                    have hs8 := hs.grown (Kept.road _ _ _ _ _ _ _ _ _ _ _ _) hnr.grown
                    have hrF := (hnr.row (fun _ => 0) wc.heap.size 40 (Nat.le_refl _)).rd
                    clear hs hnr
                    obtain ⟨own, hB, h1, h2, hO32, hO, hO34, hob, hbb⟩ := hs8
                    rw [Htl.out] at hO
                    have HO32 := Lib.hid hO32; clear hO32
                    have HO34 := Lib.hid hO34; clear hO34
                    go_wp2_with (at_builtin; refine wpList_mine rfl (.tmp 120) (.tmp 122) 87 rfl 78 j0 (.agg #[.int .i64 0, .int .i64 0, .int .i64 0, .string ByteArray.empty]) 4 40 Try.underlying87 hj hy0 hy1 hy2 rfl (by decide) own 33 Ab tl cb _ (by rfl) hO A8 fl c8 (fcells F) (by rfl) hrF (fcells_one F) (by unfold maxLen; omega) (by omega) ?_; intro A9 c9 w9 own9 hO9 st9)
                    have hob9 := st9.other (j := 31) (by omega) hbb.lt hob
                    have hE9 : Ends w ga A2 gb B2 (Road x0 x1 bx th' (bk ++ F) g' At' ct' A9 c9 Ag' cg') w9 := by
                      refine ⟨own9, hB.step st9 (by omega), h1.other (st9.toG (l := 3) rfl) (by omega), h2.other (st9.toG (l := 3) rfl) (by omega), HO32.out.step st9 (by omega), ?_, HO34.out.step st9 (by omega), hob9.2, hbb.of_eq hob9.1⟩
                      rw [List.length_append, Htl.out, Hfl.out, fcells_append]
                      exact hO9
                    clear hO hO9 st9 hB h1 h2 HO32 HO34 hrF hob hbb hob9
                    go_wp2_with fail
                    go_meet
                    exact ⟨bk ++ F, A9, c9, by rw [List.length_append, Htl.out, Hfl.out], by rw [List.length_append, Htl.out, Hfl.out]; omega, Hpt, hE9⟩
                  · go_wp2_with fail
                    go_meet
                    exact ⟨bk, Ab, cb, rfl, hbk, Hpr, hs⟩
                case rest =>
                  clear hs Hpr hbk
                  obtain ⟨bk', Ab', cb', rfl, hbk, Hpr, hs⟩ := hcut
                  obtain ⟨tl, htl⟩ : ∃ tl, th'.length = tl := ⟨_, rfl⟩
                  rw [htl] at hth ⊢
                  have Htl := Lib.hid htl; clear htl
                  obtain ⟨bl, hbl⟩ : ∃ bl, bk'.length = bl := ⟨_, rfl⟩
                  rw [hbl] at hbk ⊢
                  have Hbl := Lib.hid hbl; clear hbl
                  go_upto_region 28 with fail
                  go_cut [131] (fun s131 wx => ∃ bb : Bool, s131 = .bool bb ∧ Hid (bb = true → 0 < tl) ∧ wc = wx)
                  case first =>
                    by_cases hq : bits BinOp.and IntKind.u16 p 1 = 0
                    · by_cases ht : 0 < tl
                      · go_wp2_with fail
                        go_meet
                        exact ⟨true, rfl, Lib.hid (fun _ => ht), rfl⟩
                      · have hd0 : decide (0 < tl) = false := by simpa using ht
                        go_wp2_with fail
                        go_meet
                        exact ⟨false, rfl, Lib.hid (fun h => by cases h), rfl⟩
                    · have hqb : (bits BinOp.and IntKind.u16 p 1 == 0) = false := by simpa using hq
                      go_wp2_with fail
                      go_meet
                      exact ⟨false, rfl, Lib.hid (fun h => by cases h), rfl⟩
                  case rest =>
                    obtain ⟨bb, rfl, Hbb, rfl⟩ := hcut
                    go_upto_if 131 with fail
                    go_cut [] (fun wx => ∃ B3 : Lnk, Hid (PR l A2 B3 g' th' bk') ∧ Ends w ga A2 gb B3 (Road x0 x1 bx th' bk' g' At' ct' Ab' cb' Ag' cg') wx)
                    case first =>
                      cases bb with
                      | true =>
                        have ht := Hbb.out rfl
                        obtain ⟨r, hrt, hr⟩ := pick_index p tl ht
                        obtain ⟨own, hB, h1, h2, hO, hrest⟩ := hs
                        obtain ⟨b, off, f, rfl, hf, hmem, d0, d1, d2, d3⟩ := own_frame hO (by rw [Htl.out]; exact hrt)
                        have hs : Ends w ga A2 gb B2 (Road x0 x1 bx th' bk' g' (some ⟨b, off, none⟩) ct' Ab' cb' Ag' cg') wc := ⟨own, hB, h1, h2, hO, hrest⟩
                        have hpb := Hpr.out.bhear hmem
                        clear hf hmem hO hrest hB h1 h2
                        have hak : B2.r.acked ≤ 1125899906842624 := by have := Hpr.out.acked.2; have := HN.out; omega
                        generalize f.epoch = fe at d0 hpb
                        generalize f.seq = fs at d1 hpb
                        generalize f.ack = fa at d2 hpb
                        generalize f.data = fd at d3 hpb
                        have Hpb := Lib.hid hpb; clear hpb
                        have htl0 : (0 : Int) < (tl : Int) := by omega
                        have htz : ((tl : Int) == 0) = false := by simp; omega
                        go_wp2_with fail
                        refine (ends_hear2 hs (Kept.road _ _ _ _ _ _ _ _ _ _ _ _) fe fs fa fd hak).mono ?_
                        rintro e w9 ⟨rfl, hE9⟩
                        clear hs d0 d1 d2 d3
                        go_wp2_with fail
                        go_meet
                        exact ⟨_, Hpb, hE9⟩
                      | false =>
                        go_wp2_with fail
                        go_meet
                        exact ⟨B2, Hpr, hs⟩
                    case rest =>
                      clear hs Hpr Hbb
                      obtain ⟨B3, Hpr, hs⟩ := hcut
                      go_upto_region 30 with fail
                      go_cut [150] (fun s150 wx => ∃ bb : Bool, s150 = .bool bb ∧ Hid (bb = true → 0 < bl) ∧ wc = wx)
                      case first =>
                        by_cases hq : bits BinOp.and IntKind.u16 p 1 = 1
                        · by_cases ht : 0 < bl
                          · go_wp2_with fail
                            go_meet
                            exact ⟨true, rfl, Lib.hid (fun _ => ht), rfl⟩
                          · have hd0 : decide (0 < bl) = false := by simpa using ht
                            go_wp2_with fail
                            go_meet
                            exact ⟨false, rfl, Lib.hid (fun h => by cases h), rfl⟩
                        · have hqb : (bits BinOp.and IntKind.u16 p 1 == 1) = false := by simpa using hq
                          go_wp2_with fail
                          go_meet
                          exact ⟨false, rfl, Lib.hid (fun h => by cases h), rfl⟩
                      case rest =>
                        obtain ⟨bb, rfl, Hbb, rfl⟩ := hcut
                        go_upto_if 150 with fail
                        cases bb with
                        | true =>
                          have ht := Hbb.out rfl
                          obtain ⟨r, hrt, hr⟩ := pick_index p bl ht
                          obtain ⟨own, hB, h1, h2, hO1, hO, hrest⟩ := hs
                          obtain ⟨b, off, f, rfl, hf, hmem, d0, d1, d2, d3⟩ := own_frame hO (by rw [Hbl.out]; exact hrt)
                          have hs : Ends w ga A2 gb B3 (Road x0 x1 bx th' bk' g' At' ct' (some ⟨b, off, none⟩) cb' Ag' cg') wc := ⟨own, hB, h1, h2, hO1, hO, hrest⟩
                          have hpb := And.intro ((Hpr.out.ok.ahear (Hpr.out.back f hmem)).2.1.trans Hsn.out) (Hpr.out.ahear hmem)
                          clear hf hmem hO hrest hB h1 h2 hO1
                          have hak : A2.r.acked ≤ 1125899906842624 := by rw [Hpr.out.acked.1]; omega
                          generalize f.epoch = fe at d0 hpb
                          generalize f.seq = fs at d1 hpb
                          generalize f.ack = fa at d2 hpb
                          generalize f.data = fd at d3 hpb
                          have Hpb := Lib.hid hpb; clear hpb
                          have htl0 : (0 : Int) < (bl : Int) := by omega
                          have htz : ((bl : Int) == 0) = false := by simp; omega
                          go_wp2_with fail
                          refine (ends_hear1 hs (Kept.road _ _ _ _ _ _ _ _ _ _ _ _) fe fs fa fd hak).mono ?_
                          rintro e w9 ⟨rfl, hE9⟩
                          clear hs d0 d1 d2 d3
                          go_wp2_with fail
                          have Hpr2 := Lib.hid Hpb.out.2
                          have Hsn3 := Lib.hid Hpb.out.1
                          clear Hpb Hpr Hsn
                          go_roundg (gK - 1)
                          case measure => omega
                          case rel => exact ⟨i + 1, by omega, by go_num, _, B3, th', bk', g', At', ct', _, cb', Ag', cg', by rw [Hsn3.out], by rw [Hgl.out], by rw [Htl.out], by rw [Hbl.out], by rw [Htl.out]; exact hth, by rw [Hbl.out]; exact hbk, Hpr2, hE9⟩
                        | false =>
                          go_wp2_with fail
                          go_roundg (gK - 1)
                          case measure => omega
                          case rel => exact ⟨i + 1, by omega, by go_num, A2, B3, th', bk', g', At', ct', Ab', cb', Ag', cg', by rw [Hsn.out], by rw [Hgl.out], by rw [Htl.out], by rw [Hbl.out], by rw [Htl.out]; exact hth, by rw [Hbl.out]; exact hbk, Hpr, hs⟩
        · obtain rfl : i = n := by omega
          have hbx : Blk wr bx 36 #[.int .i64 x0, .int .i64 x1] := by
            obtain ⟨own, _, _, _, _, _, _, _, hb⟩ := hs
            exact hb
          have y0 : wr.cell? ⟨bx, 0, none⟩ = some (.int .i64 x0) := hbx.cell 0
          have y1 : wr.cell? ⟨bx, 1, none⟩ = some (.int .i64 x1) := hbx.cell 1
          clear hbx
          go_wp2_with fail
          refine (HEE.out wr (Hr.out.keep (fun b off _ _ hb => hs.end_.block b hb (by simp)) (by omega))).mono ?_
          rintro e w9 ⟨rfl, hg⟩
          go_wp2
          go_ret
          exact ⟨rfl, grown_tr hs.end_ hg⟩

theorem pair12_walk (x0 x1 : Int) (A : Option Addr) (c : Nat) (l : List ByteArray) (P : Option Addr) (cp : Nat) (ps : List Int) (w : World) (hr : Rd w 1 A l.length (l.map Value.string)) (hlc : l.length ≤ c) (hcm : c ≤ maxLen) (hrp : Rd w 1 P ps.length (ps.map (Value.int .u16)))
    (hwp : ∀ z ∈ ps, (Lit.int .u16 z).wf = true) :
    Calls Try.prog 13 #[.agg #[.int .i64 x0, .int .i64 x1], .slice A l.length c, .slice P ps.length cp] w (BoolRet w true) := by
  by_cases h30 : 30 < l.length
  · exact pair12_bad x0 x1 A l.length c P ps.length cp w (.inl h30)
  · by_cases h200 : 200 < ps.length
    · exact pair12_bad x0 x1 A l.length c P ps.length cp w (.inr ⟨h30, h200⟩)
    · exact pair12_play x0 x1 A c l P cp ps w hr hlc hcm hrp h30 h200
end Go.Proofs.Ytjloipjchcaloaa
