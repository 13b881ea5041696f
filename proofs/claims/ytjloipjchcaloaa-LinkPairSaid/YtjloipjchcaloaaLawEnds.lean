/- The walk of pairEnds: without losses all that is offered is popped. -/
import Derived.Test.YtjloipjchcaloaaEndO
import Derived.Test.YtjloipjchcaloaaAw11
import Derived.Test.YtjloipjchcaloaaPairLaw2
import Derived.Deep.LoopGhost
import Derived.Deep.CutRange
import Derived.Deep.DeepCutAuto
import Derived.Deep.CutBlock
import Derived.Outline
namespace Go.Proofs.Ytjloipjchcaloaa
open Go.RowKit
set_option linter.unusedVariables false

/-- what was popped lies in a slice of the call's own -/
def Got (g : List ByteArray) (A : Option Addr) (c : Nat) (w : World) (own : Nat → Nat) : Prop := OwnS w own 34 9 1 A g.length c (g.map Value.string)
theorem Kept.got (g : List ByteArray) (A : Option Addr) (c : Nat) : Kept (Got g A c) :=
  fun w own w' own' hk h => OwnS.keep h fun k hk' ho => ⟨(hk k hk' (by omega)).1, by rw [(hk k hk' (by omega)).2]; exact ho⟩

set_option maxHeartbeats 8000000 in
set_option maxRecDepth 10000 in
theorem ends60_walk (x0 x1 : Int) (A : Option Addr) (c : Nat) (l : List ByteArray) (w : World) (hr : Rd w 1 A l.length (l.map Value.string)) (h30 : l.length ≤ 30) :
    Calls Try.prog 60 #[.agg #[.int .i64 x0, .int .i64 x1], .slice A l.length c] w (BoolRet w true) := by
  obtain ⟨i0, hi, hz0, hz1, hz2⟩ := info_parts Try.info9
  have Hr := Lib.hid hr; clear hr
  generalize hN : l.length = m at *
  have HN := Lib.hid hN; clear hN
  have hP := (Pre.start w).alloc Kept.none 36 #[.int .i64 x0, .int .i64 x1]
  go_enter Try.func60, Try.ntmps60
  go_wp2_with fail
  generalize w.alloc (.cells #[.int .i64 x0, .int .i64 x1] 36) = W0 at hP ⊢
  generalize w.heap.size = bx at hP ⊢
  have hK := Kept.blk Kept.none bx 36 #[.int .i64 x0, .int .i64 x1]
  have HK := Lib.hid hK; clear hK
  have hPd : Pre w _ W0.drew := hP.grown HK.out (grown_drewN W0 1)
  have hcl : ∀ W (g1 : Nat) (L1 : Lnk), EndO w g1 L1 (fun w own => True ∧ own bx = 31 ∧ Blk w bx 36 #[.int .i64 x0, .int .i64 x1]) W → W.cell? ⟨bx, 0, none⟩ = some (.int .i64 x0) ∧ W.cell? ⟨bx, 1, none⟩ = some (.int .i64 x1) := fun W g1 L1 h => by
    have hb := h.blk (fun _ _ h => h.2.2)
    exact ⟨hb.cell 0, hb.cell 1⟩
  have Hcl := Lib.hid hcl; clear hcl
  have hcl2 : ∀ W (g1 g2 : Nat) (L1 L2 : Lnk), Ends w g1 L1 g2 L2 (fun w own => True ∧ own bx = 31 ∧ Blk w bx 36 #[.int .i64 x0, .int .i64 x1]) W → W.cell? ⟨bx, 0, none⟩ = some (.int .i64 x0) ∧ W.cell? ⟨bx, 1, none⟩ = some (.int .i64 x1) := fun W g1 g2 L1 L2 h => by
    have hb := h.blk (fun _ _ h => h.2.2)
    exact ⟨hb.cell 0, hb.cell 1⟩
  have Hcl2 := Lib.hid hcl2; clear hcl2
  have hb0 := hPd.blk (fun _ _ h => h.2.2)
  have y0 : W0.drew.cell? ⟨bx, 0, none⟩ = some (.int .i64 x0) := hb0.cell 0
  have y1 : W0.drew.cell? ⟨bx, 1, none⟩ = some (.int .i64 x1) := hb0.cell 1
  clear hb0 hP
  go_region_held3 (fun w' => w'.cell? ⟨bx, 0, none⟩ = some (.int .i64 x0) ∧ w'.cell? ⟨bx, 1, none⟩ = some (.int .i64 x1)) (first | (go_keep; done) | (constructor <;> assumption))
   (first
    | (go_at_call 44
       refine (endo_new2 hE1 HK.out 0 x0 x1 true).mono ?_
       rintro e w2 ⟨rfl, hE2⟩
       have kk2 := Hcl2.out _ _ _ _ _ hE2
       rcases kk2 with ⟨s0, s1⟩)
    | (go_at_call 44
       refine (pre_new hPd HK.out 1 x0 x1 false).mono ?_
       rintro e w1 ⟨rfl, hE1⟩
       have kk1 := Hcl.out _ _ _ hE1
       rcases kk1 with ⟨r0, r1⟩))
  have ht : Ends w W0.drew.heap.size (Lnk.new 1 x0 x1 false) w1.heap.size (Lnk.new 0 x0 x1 true) (Got [] none 0) w2 := by
    obtain ⟨own, hB, h1, h2, _⟩ := hE2
    exact ⟨own, hB, h1, h2, OwnS.nil _ _ _ _ _⟩
  clear hE2 hE1 hPd y0 y1 s0 s1 r0 r1 Hcl Hcl2 HK
  have hga : W0.drew.heap.size = W0.heap.size := rfl
  rw [hga] at ht
  clear hga
  generalize W0.heap.size = ga at ht ⊢
  generalize w1.heap.size = gb at ht ⊢
  have hs0 : ((0 : Nat) : Int) = ((Lnk.new 1 x0 x1 false).s.sent : Int) := rfl
  have hpe := Lib.hid (PE.start l x0 x1)
  generalize Lnk.new 1 x0 x1 false = A0 at ht hpe hs0
  have Hs0 := Lib.hid hs0; clear hs0
  generalize Lnk.new 0 x0 x1 true = B0 at ht hpe
  go_wp2_with fail
  go_loopg [7, 8, 35] (2 * m + 2) (fun gk v7 v8 v35 wr => ∃ i : Nat, i + gk = 2 * m + 2 ∧ v35 = .int .i64 i ∧ ∃ (A1 B1 : Lnk) (g : List ByteArray) (Ag : Option Addr) (cg : Nat), v8 = .int .i64 A1.s.sent ∧ v7 = .slice Ag g.length cg ∧ Hid (PE l i A1 B1 g) ∧ Ends w ga A1 gb B1 (Got g Ag cg) wr)
  case atStart => exact ⟨0, by omega, rfl, A0, B0, [], none, 0, by rw [← Hs0.out]; rfl, rfl, hpe, ht⟩
  case round =>
    clear ht hpe Hs0
    obtain ⟨i, hi2, rfl, A1, B1, g, Ag, cg, rfl, rfl, Hpe, hs⟩ := hrel
    obtain ⟨gK, rfl⟩ : ∃ gK, gK = gk := ⟨_, rfl⟩
    by_cases hlt : i < 2 * m + 2
    · have hd36 : decide ((i : Int) < 2 * (m : Int) + 2) = true := by simp; omega
      go_upto_block 2 with fail
      go_cut [8] (fun s8 wx => ∃ A2 : Lnk, s8 = .int .i64 A2.s.sent ∧ Hid (PO l A2 B1 g ∧ (A2.s.sent = l.length ∨ 1 ≤ A2.s.ds.length)) ∧ Ends w ga A2 gb B1 (Got g Ag cg) wx)
      case first =>
        have hst := Hpe.out.ok.asent
        rw [HN.out] at hst
        have Hpo : Hid (PO l A1 B1 g) := Lib.hid ⟨Hpe.out.ok, Hpe.out.base⟩
        have HfL : Hid (∀ A2 : Lnk, PairOk l A2 B1 g → A2.s.offE ≠ 0 → 1 ≤ A2.s.ds.length) := Lib.hid fun A2 h h0 => h.full (by have := HN.out; omega) h0
        clear Hpe
        go_wp2_with fail
        go_loopg [8] (m - A1.s.sent) (fun gk2 v8 wx => ∃ A2 : Lnk, A2.s.sent + gk2 = m ∧ v8 = .int .i64 A2.s.sent ∧ Hid (PO l A2 B1 g) ∧ Ends w ga A2 gb B1 (Got g Ag cg) wx)
        case atStart => exact ⟨A1, by omega, rfl, Hpo, hs⟩
        case round =>
          clear hs Hpo
          obtain ⟨A2, hsm, rfl, Hpo, hs⟩ := hrel
          by_cases hlt2 : A2.s.sent < m
          · have hrd : Rd wr 1 A m (l.map Value.string) := Hr.out.keep (fun b off _ _ hb => hs.end_.block b hb (by simp)) (by omega)
            obtain ⟨b, off, hkl, rfl, c0⟩ := hrd.map_at hlt2
            clear hrd
            obtain ⟨sn, hsn⟩ : ∃ sn, A2.s.sent = sn := ⟨_, rfl⟩
            obtain ⟨oe, hoe⟩ : ∃ oe, A2.s.offE = oe := ⟨_, rfl⟩
            obtain ⟨tx, htx⟩ : ∃ tx, l[A2.s.sent] = tx := ⟨_, rfl⟩
            by_cases h0 : oe = 0
            · obtain ⟨hp2, hn2⟩ := Hpo.out.step hkl (hoe.trans h0)
              rw [htx] at hp2 hn2 c0
              obtain ⟨s', hs'⟩ : ∃ s', A2.s.off tx = s' := ⟨_, rfl⟩
              rw [hs'] at hp2 hn2
              have Hp2 := Lib.hid hp2; clear hp2
              have Hs' := Lib.hid hs'; clear hs'
              rw [hsn] at c0 hsm hn2 hlt2 ⊢
              have Hn2 := Lib.hid hn2; clear hn2
              subst h0
              have Hoe := Lib.hid hoe; clear hoe htx
              clear hsn hkl
              go_wp2_with fail
              refine (ends_offer1 hs (Kept.got g Ag cg) tx 0 s' Hoe.out Hs'.out).mono ?_
              rintro e w5 ⟨rfl, hE5⟩
              clear hs c0
              go_wp2_with fail
              go_roundg (gk - 1)
              case measure => omega
              case rel => exact ⟨{ A2 with s := s' }, by have := Hn2.out; show s'.sent + _ = m; omega, by show _ = Value.int .i64 (s'.sent : Int); rw [Hn2.out]; go_num, Hp2, hE5⟩
            · have hof := off_same (s := A2.s) tx (by rw [hoe]; exact h0)
              have hfu := HfL.out A2 Hpo.out.ok (by rw [hoe]; exact h0)
              rw [htx] at c0
              have hb0 : (oe == 0) = false := by simpa using h0
              rw [hsn] at c0 hsm hlt2 ⊢
              have Hsn := Lib.hid hsn; clear hsn
              have Hoe := Lib.hid hoe; clear hoe htx h0
              have Hof := Lib.hid hof; clear hof
              have Hfu := Lib.hid hfu; clear hfu hkl
              go_wp2_with fail
              refine (ends_offer1 hs (Kept.got g Ag cg) tx oe A2.s Hoe.out Hof.out).mono ?_
              rintro e w5 ⟨rfl, hE5⟩
              clear hs c0
              go_wp2_with fail
              go_meet
              exact ⟨A2, by rw [Hsn.out], Lib.hid ⟨Hpo.out, .inr Hfu.out⟩, hE5⟩
          · have hsn : A2.s.sent = m := by omega
            have Hsn := Lib.hid hsn
            rw [hsn]
            clear hsn
            go_wp2_with fail
            go_meet
            exact ⟨A2, by rw [Hsn.out], Lib.hid ⟨Hpo.out, .inl (by rw [Hsn.out, HN.out])⟩, hs⟩
      case rest =>
        clear hs
        obtain ⟨A2, rfl, Hpo, hs⟩ := hcut
        have hfne := Hpo.out.1.ok.aframes_ne
        have hakA : A2.r.acked ≤ 1125899906842624 := by rw [Hpo.out.1.ok.ar.1]; omega
        obtain ⟨F, hF⟩ : ∃ F, A2.frames = F := ⟨_, rfl⟩
        have HF := Lib.hid hF
        have hfb : F.length ≤ 1099511627776 := by
          rw [← hF]
          obtain ⟨own, _, hl, _⟩ := hs
          exact lnk_frames_le hl
        rw [hF] at hfne
        clear hF
        obtain ⟨fl, hfl⟩ : ∃ fl, F.length = fl := ⟨_, rfl⟩
        rw [hfl] at hfb hfne
        have Hfl := Lib.hid hfl; clear hfl
        go_wp2_with fail
        refine (ends_frames1 hs).mono ?_
        rw [HF.out]
        rintro e w5 ⟨A5, c5, rfl, hnr⟩
        rw [Hfl.out] at hnr ⊢
        have hE5 := hs.hold (Kept.got g Ag cg) hnr
        have HKr := Lib.hid (fun (g' : List ByteArray) (Ag' : Option Addr) (cg' : Nat) => Kept.row (Kept.got g' Ag' cg') 78 4 A5 fl (fcells F))
        clear hs hnr
        obtain ⟨b5, o5, rfl⟩ : ∃ b5 o5, A5 = some ⟨b5, o5, none⟩ := by
          obtain ⟨own, _, _, _, _, hr⟩ := hE5
          obtain ⟨b, off, _, e, _⟩ := hr.2 (by omega)
          exact ⟨b, off, e⟩
        have HR3 := Lib.hid (R3.start Hpo.out.1.ok Hpe.out.room)
        go_wp2_with fail
        go_loopg [55] fl (fun gk v55 wx => ∃ k : Nat, k + gk = fl ∧ v55 = .int .i64 k ∧ ∃ B2 : Lnk, Hid (R3 l A2 B1 g k B2) ∧ Ends w ga A2 gb B2 (fun w own => Got g Ag cg w own ∧ Row w own 30 78 4 (some ⟨b5, o5, none⟩) fl (fcells F)) wx)
        case atStart => exact ⟨0, by omega, rfl, B1, HR3, hE5⟩
        case round =>
          clear hE5 HR3
          obtain ⟨k, hk3, rfl, B2, HR3, hs⟩ := hrel
          by_cases hlt3 : k < fl
          · obtain ⟨f, hf⟩ : ∃ f, F[k]? = some f := ⟨F[k]'(by rw [Hfl.out]; exact hlt3), by simp [Hfl.out, hlt3]⟩
            obtain ⟨c0, c1, c2, c3⟩ := held_frame hs hlt3 hf
            have hst := HR3.out.step Hpe.out.q Hpo.out.1.base (HF.out ▸ hf)
            obtain ⟨hm1, hm2⟩ := HR3.out.mid (HF.out ▸ hf)
            rw [HN.out] at hm1 hm2
            generalize f.epoch = fe at c0 hst hm2
            generalize f.seq = fs at c1 hst hm2
            generalize f.ack = fa at c2 hst hm2
            generalize f.data = fd at c3 hst hm2
            clear hf
            have hmk1 : B2.r.acked ≤ 1125899906842624 := by omega
            obtain ⟨B3, hB3⟩ : ∃ B3, B2.hear fe fs fa fd = B3 := ⟨_, rfl⟩
            rw [hB3] at hst hm2
            have HB3 := Lib.hid hB3; clear hB3
            have hmk2 : B3.r.acked ≤ 1125899906842624 := by omega
            obtain ⟨B4, hB4⟩ : ∃ B4, B3.hear fe fs fa fd = B4 := ⟨_, rfl⟩
            rw [hB4] at hst
            have HB4 := Lib.hid hB4; clear hB4
            have Hst := Lib.hid hst; clear hst hm1 hm2
            have hEf := hs.alloc (HKr.out g Ag cg) 78 #[.int .i64 fe, .int .i64 fs, .int .i64 fa, .string fd]
            have HKf := Lib.hid (Kept.blk (HKr.out g Ag cg) wr.heap.size 78 #[.int .i64 fe, .int .i64 fs, .int .i64 fa, .string fd])
            clear hs
            go_wp2_with fail
            refine (ends_hear2 hEf HKf.out fe fs fa fd hmk1).mono ?_
            rw [HB3.out]
            rintro e w6 ⟨rfl, hE6⟩
            clear hEf c0 c1 c2 c3
            have hbf := hE6.blk (fun _ _ h => h.2.2)
            generalize wr.heap.size = bf at hE6 hbf HKf ⊢
            have q0 : w6.cell? ⟨bf, 0, none⟩ = some (.int .i64 fe) := hbf.cell 0
            have q1 : w6.cell? ⟨bf, 1, none⟩ = some (.int .i64 fs) := hbf.cell 1
            have q2 : w6.cell? ⟨bf, 2, none⟩ = some (.int .i64 fa) := hbf.cell 2
            have q3 : w6.cell? ⟨bf, 3, none⟩ = some (.string fd) := hbf.cell 3
            clear hbf
            go_wp2_with fail
            refine (ends_hear2 hE6 HKf.out fe fs fa fd hmk2).mono ?_
            rw [HB4.out]
            rintro e w7 ⟨rfl, hE7⟩
            have hE8 := hE7.weaken (fun _ _ h => h.1)
            clear hE6 hE7 q0 q1 q2 q3
            go_wp2_with fail
            go_roundg (gk - 1)
            case measure => omega
            case rel => exact ⟨k + 1, by omega, by go_num, B4, Hst, hE8⟩
          · obtain rfl : k = fl := by omega
            obtain ⟨pv, hpv⟩ : ∃ pv, B2.r.popV = pv := ⟨_, rfl⟩
            obtain ⟨pb, hpb⟩ : ∃ pb, B2.r.popB = pb := ⟨_, rfl⟩
            have hR4 := R4.start HR3.out.ok HR3.out.room
            rw [hpv, hpb] at hR4
            have HR4 := Lib.hid hR4; clear hR4
            have Hpv := Lib.hid hpv; clear hpv
            have Hpb := Lib.hid hpb; clear hpb
            have hgm := Hpo.out.1.ok.got_le
            rw [HN.out] at hgm
            go_wp2_with fail
            refine (ends_pop2 hs (HKr.out g Ag cg) pv pb _ Hpv.out Hpb.out rfl).mono ?_
            rintro e w6 ⟨rfl, hE6⟩
            clear hs
            go_wp2_with fail
            go_loopg [7, 11, 12] (m + 1 - g.length) (fun gk v7 v11 v12 wx => ∃ (g' : List ByteArray) (Ag' : Option Addr) (cg' : Nat) (s : ByteArray) (ok : Bool) (B3 : Lnk), g'.length + gk = m + 1 ∧ v7 = .slice Ag' g'.length cg' ∧ v11 = .string s ∧ v12 = .bool ok ∧ Hid (R4 l A2 B2 g' s ok B3) ∧ Ends w ga A2 gb B3 (fun w own => Got g' Ag' cg' w own ∧ Row w own 30 78 4 (some ⟨b5, o5, none⟩) k (fcells F)) wx)
            case atStart => exact ⟨g, Ag, cg, pv, pb, _, by omega, rfl, rfl, rfl, HR4, hE6⟩
            case round =>
              clear hE6 HR4
              obtain ⟨g', Ag', cg', s, ok, B3, hg4, rfl, rfl, rfl, HR4, hs⟩ := hrel
              cases ok with
              | true =>
                have hgl := HR4.out.len
                rw [HN.out] at hgl
                have hst := HR4.out.step
                obtain ⟨pv2, hpv⟩ : ∃ pv, B3.r.popV = pv := ⟨_, rfl⟩
                obtain ⟨pb2, hpb⟩ : ∃ pb, B3.r.popB = pb := ⟨_, rfl⟩
                rw [hpv, hpb] at hst
                have Hst := Lib.hid hst; clear hst
                have Hpv2 := Lib.hid hpv; clear hpv
                have Hpb2 := Lib.hid hpb; clear hpb
                obtain ⟨own, hB, h1, h2, hO, hrw⟩ := hs
                have hO : OwnS wr own 34 9 1 Ag' g'.length cg' (g'.map Value.string) := hO
                have hnews : Rd (wr.alloc (.cells #[.string s] 9)) 1 (some ⟨wr.heap.size, 0, none⟩) 1 [.string s] := Rd.of_blk (Blk.new wr 9 _) (by simp) (fun j u h => by simpa using h)
                have Hrw := Lib.hid hrw; clear hrw
                obtain ⟨gn, hgn⟩ : ∃ gn, g'.length = gn := ⟨_, rfl⟩
                rw [hgn] at hO hg4 hgl ⊢
                have Hgn := Lib.hid hgn; clear hgn
                go_wp2_with (at_builtin; refine wpList_mine rfl (.tmp 77) (.tmp 79) 22 rfl 9 i0 (.string ByteArray.empty) 1 16 Try.underlying22 hi hz0 hz1 hz2 rfl (by decide) own 34 Ag' gn cg' _ (by rfl) (hO.alloc _) (some ⟨wr.heap.size, 0, none⟩) 1 1 [.string s] (by rfl) hnews (by simp [Value.oneCell']) (by unfold maxLen; omega) (by omega) ?_; intro A6 c6 w6 own6 hO6 st6)
                have st := ((Step.refl 34 wr own).alloc (.cells #[.string s] 9)).trans st6
                have hE6 : Ends w ga A2 gb B3 (fun w own => Got (g' ++ [s]) A6 c6 w own ∧ Row w own 30 78 4 (some ⟨b5, o5, none⟩) k (fcells F)) w6 := by
                  refine ⟨own6, hB.step st (by omega), h1.other (st.toG (l := 3) rfl) (by omega), h2.other (st.toG (l := 3) rfl) (by omega), ?_, Hrw.out.step st (by omega)⟩
                  unfold Got
                  rw [List.length_append, Hgn.out, List.map_append]
                  exact hO6
                clear hO hO6 st st6 hB h1 h2 Hrw hnews
                go_wp2_with fail
                refine (ends_pop2 hE6 (HKr.out _ _ _) pv2 pb2 _ Hpv2.out Hpb2.out rfl).mono ?_
                rintro e w7 ⟨rfl, hE7⟩
                clear hE6
                go_wp2_with fail
                go_roundg (gk - 1)
                case measure => omega
                case rel => exact ⟨g' ++ [s], A6, c6, pv2, pb2, _, by rw [List.length_append, Hgn.out]; simp; omega, by rw [List.length_append, Hgn.out]; rfl, rfl, rfl, Hst, hE7⟩
              | false =>
                obtain ⟨hfr, hpn⟩ := PE.next (fd := ByteArray.empty) Hpe.out Hpo.out.1 Hpo.out.2 HR3.out hfne HR4.out
                have hse := HR4.out.sent
                obtain ⟨ak, hak⟩ : ∃ ak : Int, (B3.r.acked : Int) = ak := ⟨_, rfl⟩
                rw [hak] at hfr hpn hse
                clear hak
                have Hfr := Lib.hid hfr; clear hfr
                obtain ⟨A3, hA3⟩ : ∃ A3, A2.hear 1 0 ak ByteArray.empty = A3 := ⟨_, rfl⟩
                rw [hA3] at hpn hse
                have HA3 := Lib.hid hA3; clear hA3
                have Hse := Lib.hid (show (A3.s.sent : Int) = (A2.s.sent : Int) by rw [hse]); clear hse
                have Hpn := Lib.hid hpn; clear hpn
                go_wp2_with fail
                refine (ends_frames2 hs).mono ?_
                rw [Hfr.out]
                rintro e w6 ⟨A7, c7, rfl, hnr⟩
                have hE6 := (hs.weaken (fun _ _ h => h.1)).hold (Kept.got g' Ag' cg') hnr
                have HK7 := Lib.hid (Kept.row (Kept.got g' Ag' cg') 78 4 A7 1 (fcells [⟨1, 0, ak, ByteArray.empty⟩]))
                clear hs hnr
                obtain ⟨b7, o7, rfl⟩ : ∃ b7 o7, A7 = some ⟨b7, o7, none⟩ := by
                  obtain ⟨own, _, _, _, _, hr⟩ := hE6
                  obtain ⟨b, off, _, e, _⟩ := hr.2 (by simp)
                  exact ⟨b, off, e⟩
                have hE6' : Ends w ga A2 gb B3 (fun w own => Got g' Ag' cg' w own ∧ Row w own 30 78 4 (some ⟨b7, o7, none⟩) 1 (fcells [⟨1, 0, ak, ByteArray.empty⟩])) w6 := hE6
                have kk := held_frame hE6' (k := 0) Nat.zero_lt_one (f := ⟨1, 0, ak, ByteArray.empty⟩) rfl
                simp only [Nat.zero_mul, Nat.add_zero] at kk
                obtain ⟨y0, y1, y2, y3⟩ := kk
                clear hE6
                go_wp2_with fail
                refine wp_loop_rounds 2 ?_
                rw [rounds_succ]
                have hEf := hE6'.alloc HK7.out 78 #[.int .i64 1, .int .i64 0, .int .i64 ak, .string ByteArray.empty]
                have HKf := Lib.hid (Kept.blk HK7.out w6.heap.size 78 #[.int .i64 1, .int .i64 0, .int .i64 ak, .string ByteArray.empty])
                clear hE6'
                go_wp2_with fail
                refine (ends_hear1 hEf HKf.out 1 0 ak ByteArray.empty hakA).mono ?_
                rw [HA3.out]
                rintro e w7 ⟨rfl, hE7⟩
                have hE8 := hE7.weaken (fun _ _ h => h.1.1)
                clear hEf hE7 y0 y1 y2 y3
                go_wp2_with fail
                rw [rounds_succ]
                go_wp2_with fail
                go_roundg (gK - 1)
                case measure => omega
                case rel => exact ⟨i + 1, by omega, by go_num, A3, B3, g', Ag', cg', by rw [Hse.out], rfl, Hpn, hE8⟩
    · obtain rfl : i = 2 * m + 2 := by omega
      obtain ⟨hgl, hdl⟩ := Hpe.out.done (by have := HN.out; omega)
      have Hdl := Lib.hid (show (A1.s.ds.length : Int) = 0 by rw [hdl]; rfl); clear hdl
      subst hgl
      rw [HN.out]
      have hra : Rd wr 1 Ag m (g.map Value.string) := by
        obtain ⟨own, _, _, _, hO⟩ := hs
        have := OwnS.row (show OwnS wr own 34 9 1 Ag g.length cg (g.map Value.string) from hO)
        rw [HN.out] at this
        exact this.rd
      have hrb : Rd wr 1 A m (g.map Value.string) := Hr.out.keep (fun b off _ _ hb => hs.end_.block b hb (by simp)) (by omega)
      have hmb : m ≤ 1099511627776 := by omega
      go_wp2_with fail
      refine (same_yes Ag A m cg c g wr hra hrb hmb).mono ?_
      rintro e w5 ⟨rfl, mm, rfl⟩
      have hs5 := hs.grown (Kept.got g Ag cg) (grown_drewN _ mm)
      clear hra hrb hs
      go_wp2_with fail
      refine (ends_unacked1 hs5 0 Hdl.out).mono ?_
      rintro e w6 ⟨rfl, rfl⟩
      go_wp2
      go_ret
      exact ⟨rfl, hs5.end_⟩
end Go.Proofs.Ytjloipjchcaloaa
