/- The walk of the reference's Keys. -/
import Derived.Test.YtihnldhdpiokhaaIns
namespace Go.Proofs.Ytihnldhdpiokhaa
open Go.RowKit
set_option linter.unusedVariables false

set_option maxHeartbeats 8000000 in
set_option maxRecDepth 10000 in
theorem keys29 (A : Option Addr) (c : Nat) (l : List Upd) (w : World) (h : Rd w 4 A l.length (ucells l)) (hw : ∀ u ∈ l, UpdWf u) (hn : l.length ≤ 1000000) {ks : List ByteArray} (hks : KeysOf (stOf l) ks) :
    Calls Try.prog 29 #[.slice A l.length c] w (StrRet w ks) := by
  obtain ⟨i9, hi, hz0, hz1, hz2⟩ := info_parts Try.info9o
  have H := Lib.hid h; clear h
  have Hw := Lib.hid hw; clear hw
  have hfin : ∀ (e : Ending) (w' : World), (∃ (os : List ByteArray) (A' : Option Addr) (c' : Nat), KSet (Pk (fun u => hasV (stOf l) u.key) l l.length) os ∧ e = .returned (.slice A' os.length c') ∧ NewRow 9 1 (os.map Value.string) w A' os.length c' w') → StrRet w ks e w' := by
    rintro e w' ⟨os, A', c', h1, h2, h3⟩
    have := KSet.unique (keys_pk h1) hks
    subst this
    exact ⟨A', c', h2, h3⟩
  have Hfin := Lib.hid hfin; clear hfin hks
  generalize StrRet w ks = R at *
  obtain ⟨sel, hsel⟩ : ∃ sel : Upd → Prop, sel = fun u => hasV (stOf l) u.key := ⟨_, rfl⟩
  rw [← hsel] at Hfin
  obtain ⟨n, hN⟩ : ∃ n, l.length = n := ⟨_, rfl⟩
  rw [hN] at hn Hfin ⊢
  have HN := Lib.hid hN; clear hN
  have Hsel := Lib.hid hsel; clear hsel
  go_enter Try.func29, Try.ntmps29
  go_wp2_with fail
  go_loopw [3, 4] (fun v3 v wr => ∃ k : Nat, k ≤ n ∧ v = .int .i64 k ∧ ∃ (g c1 a : Nat) (os : List ByteArray) (own' : Nat → Nat), v3 = .slice (some ⟨g, 0, none⟩) a c1 ∧ Hid (KSet (Pk sel l k) os ∧ os.length = a) ∧ a ≤ k ∧ Step 1 w (fun _ => 0) wr own' ∧ OwnS wr own' 1 9 1 (some ⟨g, 0, none⟩) a c1 (os.map Value.string)) (fun _ v _ => n - (intOf v).toNat)
  case atStart =>
    refine ⟨0, by omega, rfl, _, _, 0, [], give (fun _ => 0) w.heap.size 1, rfl, Lib.hid ⟨Pk.zero sel l, rfl⟩, by omega, ((Step.refl 1 w (fun _ => 0)).give_ 1).alloc _, by simp, .inr ⟨w.heap.size, #[], rfl, give_new (Nat.le_refl _), Blk.new w 9 #[], by omega, by omega, rfl, rfl⟩⟩
  case round =>
    obtain ⟨k, hkn, rfl, g, c1, a, os, own', rfl, Hos, hak, st, hO⟩ := hrel
    have hg := grown_of_step st (by omega)
    by_cases hlt : k < n
    · obtain ⟨b, off, u, rfl, hlu, e0, e1, e2, e3⟩ := upds_at H.out (k := k) (by rw [HN.out]; exact hlt)
      have hwf := Hw.out u (List.mem_of_getElem? hlu)
      have d0 := World.grownBy.cell hg e0 (by simp)
      clear e0 e1 e2 e3
      have hget := fun v hv => get28n u.key (some ⟨b, off, none⟩) c n l wr v HN.out (by have := H.out.kept hg (by omega); rwa [HN.out] at this) Hw.out hwf.1 hn hv
      have Hget := Lib.hid hget; clear hget
      have Hlu := Lib.hid hlu; clear hlu hwf
      obtain ⟨v, hv⟩ : ∃ v, stOf l u.key = v := ⟨_, rfl⟩
      have hgv := Hget.out v hv
      have Hgv := Lib.hid hgv; clear Hget hgv
      have hsu : sel u ↔ v.kind ≠ 0 := by rw [Hsel.out]; show (stOf l u.key).kind ≠ 0 ↔ _; rw [hv]
      have Hsu := Lib.hid hsu; clear hsu hv
      obtain ⟨v1, v2, v3⟩ := v
      obtain ⟨uk, ukd, un, us⟩ := u
      dsimp only at d0 Hgv Hsu
      have Hst := Lib.hid st; have HO := Lib.hid hO
      clear st hO hg
      by_cases hv0 : v1 = 0
      · subst hv0
        go_wp2_with fail
        refine Hgv.out.mono ?_
        rintro e w2 ⟨rfl, hg2⟩
        have Hrel := Lib.hid (show KSet (Pk sel l (k + 1)) os ∧ os.length = a from ⟨Hos.out.1.skip Hlu.out (fun h => (Hsu.out.1 h) rfl), Hos.out.2⟩)
        have Hst2 := Lib.hid (Hst.out.grown hg2 (by simp))
        have HO2 := Lib.hid (HO.out.keep (w' := w2) (own' := own') fun q hq ho => ⟨hg2.block q hq (by simp), ho⟩)
        clear hg2
        go_wp2_with fail
        (rename_i KK hKK; show KK (Act.put _ _ (Value.int .i64 0)) _; refine hKK _ _ ?_; clear hKK KK)
        go_wp2_with fail
        go_roundw
        case rel => exact ⟨k + 1, by omega, by go_num, g, c1, a, os, own', rfl, Hrel, by omega, Hst2.out, HO2.out⟩
        case measure => simp [intOf]; omega
      · have hv0' : (v1 == 0) = false := by simpa using hv0
        go_wp2_with fail
        refine Hgv.out.mono ?_
        rintro e w2 ⟨rfl, hg2⟩
        have Hst2 := Lib.hid (Hst.out.grown hg2 (by simp))
        have HO2 := Lib.hid (HO.out.keep (w' := w2) (own' := own') fun q hq ho => ⟨hg2.block q hq (by simp), ho⟩)
        clear hg2 d0
        go_wp2_with fail
        (rename_i KK hKK; show KK (Act.put _ _ (Value.int .i64 v1)) _; refine hKK _ _ ?_; clear hKK KK)
        go_wp2_with fail
        go_loop [6] (fun v6 => ∃ j : Nat, j ≤ a ∧ v6 = .int .i64 j ∧ Hid (∀ (i : Nat) (x : ByteArray), os[i]? = some x → i < j → ltB x uk)) (fun v6 => a - (intOf v6).toNat)
        case atStart => exact ⟨0, by omega, rfl, Lib.hid (fun i x _ h => absurd h (by omega))⟩
        case round =>
          obtain ⟨j, hja, rfl, Hlo⟩ := hrel
          by_cases hlt2 : j < a
          · obtain ⟨b3, o3, s, e3, hsj, y0⟩ := str_at HO2.out.row.rd hlt2
            injection e3 with e3
            injection e3 with e3 e4
            subst e3; subst e4
            rw [Nat.zero_add] at y0
            have hj0 : (0 : Int) ≤ (j : Int) := by omega
            have hja' : (j : Int) < (a : Int) := by omega
            have Hsj := Lib.hid hsj; clear hsj
            rcases ltB_tri s uk with hcmp | hcmp | hcmp
            · have t1 := less_yes hcmp
              have Hlo2 := Lib.hid (show ∀ (i : Nat) (x : ByteArray), os[i]? = some x → i < j + 1 → ltB x uk from fun i x hx hi => by
                rcases Nat.lt_or_ge i j with h' | h'
                · exact Hlo.out i x hx h'
                · obtain rfl : i = j := by omega
                  have := Hsj.out
                  rw [hx] at this
                  injection this with this
                  rw [this]; exact hcmp)
              clear hcmp
              go_wp2_with fail
              go_round
              case rel => exact ⟨j + 1, by omega, by go_num, Hlo2⟩
              case measure => simp [intOf]; omega
            · subst hcmp
              have t1 := less_no (ltB_irrefl s)
              have Hrel := Lib.hid (show KSet (Pk sel l (k + 1)) os ∧ os.length = a from ⟨Hos.out.1.there Hlu.out Hsj.out, Hos.out.2⟩)
              go_wp2_with fail
              go_roundw
              case rel => exact ⟨k + 1, by omega, by go_num, g, c1, a, os, own', rfl, Hrel, by omega, Hst2.out, HO2.out⟩
              case measure => simp [intOf]; omega
            · have t1 := less_no (s := s) (k := uk) (fun h => ltB_irrefl _ (ltB_trans h hcmp))
              have t2 := same_no (s := s) (k := uk) (fun h => by rw [h] at hcmp; exact ltB_irrefl _ hcmp)
              have hle : a ≤ c1 := HO2.out.le
              have hcm : c1 ≤ maxLen := HO2.out.max
              unfold maxLen at hcm
              have hne : ¬ c1 = j := by omega
              have hrd := HO2.out.rest hlt2
              have hrest : Rd w2 1 (some ⟨g, j, none⟩) (a - j) ((os.drop j).map Value.string) := by
                obtain ⟨g', eg, hr⟩ := hrd
                injection eg with eg
                injection eg with eg
                rw [eg]; exact hr
              have Hrest := Lib.hid (hrest.alloc (by omega) (.cells #[] 9)); clear hrest hrd
              have hk2 := Hos.out.1.put_in Hlu.out (Hsu.out.2 (by simpa using hv0)) j (by rw [Hos.out.2]; omega) Hlo.out (fun x hx => by have := Hsj.out; rw [hx] at this; injection this with this; rw [this]; exact hcmp)
              have hl2 : (os.take j ++ [uk] ++ os.drop j).length = j + 1 + (a - j) := by simp [Hos.out.2]; omega
              have Hrel := Lib.hid (And.intro hk2 hl2); clear hk2 hl2 hcmp
              have hjk : j + 1 + (a - j) ≤ 1000001 := by omega
              have Hln := Lib.hid (show ((os.drop j).map Value.string).length = (a - j) * 1 by simp [Hos.out.2])
              go_wp2_with (first
                | (at_builtin; refine wpList_copied rfl (.tmp 51) (.tmp 54) 31 rfl 9 i9 (.string ByteArray.empty) 1 16 Try.underlying31 hi hz0 hz1 hz2 rfl (by decide) _ _ (a - j) _ ((os.drop j).map Value.string) (by rfl) (by rfl) (Hrest.out) (strs_one _) (by unfold maxLen; omega) (by omega) ?_; intro A' cap' w3 hcp; have hcg := grown_tr (World.grownBy_alloc w2 (.cells #[] 9) none) hcp.grown; have hO3 := HO2.out.grown (b0 := w2.heap.size) (j := 2) hcg (Nat.le_refl _); have hr3 := (NewRow.of_copied hcp Hln.out).row own' w2.heap.size 2 (by simp); have st3 : Step 1 w2 own' w3 (give own' w2.heap.size 2) := ((Step.refl 1 w2 own').give_ 2).grown hcg (by simp); have HO3 := Lib.hid hO3; have Hr3 := Lib.hid hr3; have Hst3 := Lib.hid st3; clear hO3 hr3 st3 hcg hcp)
                | (at_builtin; refine wpList_mine rfl (.tmp 58) (.tmp 60) 31 rfl 9 i9 (.string ByteArray.empty) 1 16 Try.underlying31 hi hz0 hz1 hz2 rfl (by decide) (give own' w2.heap.size 2) 1 (some ⟨g, 0, none⟩) j c1 ((os.take j).map Value.string) (by rfl) ((HO3.out.front (by omega)).alloc _) (some ⟨w3.heap.size, 0, none⟩) 1 1 ([uk].map Value.string) (by rfl) (Rd.of_blk (Blk.new w3 9 #[.string uk]) rfl (fun q u h => by rw [← h]; simp)) (strs_one _) (by unfold maxLen; omega) (by omega) ?_; intro A4 c4 w4 own4 hO4 st4; have HO4 := Lib.hid hO4; have Hr4 := Lib.hid ((Hr3.out.step ((Step.refl 1 w3 (give own' w2.heap.size 2)).alloc (.cells #[.string uk] 9)) (by omega)).step st4 (by omega)); have Hst4 := Lib.hid st4; clear hO4 st4)
                | (at_builtin; refine wpList_mine rfl (.tmp 61) (.tmp 62) 31 rfl 9 i9 (.string ByteArray.empty) 1 16 Try.underlying31 hi hz0 hz1 hz2 rfl (by decide) own4 1 A4 (j + 1) c4 ((os.take j).map Value.string ++ [uk].map Value.string) (by rfl) HO4.out A' (a - j) cap' ((os.drop j).map Value.string) (by rfl) Hr4.out.rd (strs_one _) (by unfold maxLen; omega) (by omega) ?_; intro A5 c5 w5 own5 hO5 st5; have HO5 := Lib.hid hO5; have Hst5 := Lib.hid st5; clear hO5 st5))
              obtain ⟨g5, hg5⟩ := HO5.out.some_ (by omega)
              subst hg5
              go_roundw
              case rel => exact ⟨k + 1, by omega, by go_num, g5, c5, j + 1 + (a - j), os.take j ++ [uk] ++ os.drop j, own5, rfl, Hrel, by omega, (((Hst2.out.trans Hst3.out).trans ((Step.refl 1 w3 (give own' w2.heap.size 2)).alloc _)).trans Hst4.out).trans Hst5.out, by rw [List.map_append, List.map_append]; exact HO5.out⟩
              case measure => simp [intOf]; omega
          · obtain rfl : j = a := by omega
            have hle : j ≤ c1 := HO2.out.le
            have hcm : c1 ≤ maxLen := HO2.out.max
            unfold maxLen at hcm
            have hk2 := Hos.out.1.put_in Hlu.out (Hsu.out.2 (by simpa using hv0)) j (by rw [Hos.out.2]; exact Nat.le_refl _) Hlo.out (fun x hx => by have := (List.getElem?_eq_some_iff.1 hx).1; rw [Hos.out.2] at this; omega)
            rw [List.drop_eq_nil_of_le (by rw [Hos.out.2]; exact Nat.le_refl _), List.append_nil] at hk2
            have hl2 : (os.take j ++ [uk]).length = j + 1 := by simp [Hos.out.2]
            have Hrel := Lib.hid (And.intro hk2 hl2); clear hk2 hl2
            have hjk : j + 1 ≤ 1000001 := by omega
            rcases Decidable.em (j = c1) with hne | hne
            · subst hne
              have hne : True := trivial
              go_wp2_with (first
                | (at_builtin; refine wpList_copied rfl (.tmp 51) (.tmp 54) 31 rfl 9 i9 (.string ByteArray.empty) 1 16 Try.underlying31 hi hz0 hz1 hz2 rfl (by decide) _ _ 0 _ ([] : List Value) (by rfl) (by rfl) (Rd.nil _ _ _) (by simp) (by unfold maxLen; omega) (by omega) ?_; intro A' cap' w3 hcp; have hcg := grown_tr (World.grownBy_alloc w2 (.cells #[] 9) none) hcp.grown; have hO3 := HO2.out.grown (b0 := w2.heap.size) (j := 2) hcg (Nat.le_refl _); have hr3 := (NewRow.of_copied hcp (by simp)).row own' w2.heap.size 2 (by simp); have st3 : Step 1 w2 own' w3 (give own' w2.heap.size 2) := ((Step.refl 1 w2 own').give_ 2).grown hcg (by simp); have HO3 := Lib.hid hO3; have Hr3 := Lib.hid hr3; have Hst3 := Lib.hid st3; clear hO3 hr3 st3 hcg hcp)
                | (at_builtin; refine wpList_mine rfl (.tmp 58) (.tmp 60) 31 rfl 9 i9 (.string ByteArray.empty) 1 16 Try.underlying31 hi hz0 hz1 hz2 rfl (by decide) (give own' w2.heap.size 2) 1 (some ⟨g, 0, none⟩) j _ ((os.take j).map Value.string) (by rfl) ((HO3.out.front (by omega)).alloc _) (some ⟨w3.heap.size, 0, none⟩) 1 1 ([uk].map Value.string) (by rfl) (Rd.of_blk (Blk.new w3 9 #[.string uk]) rfl (fun q u h => by rw [← h]; simp)) (strs_one _) (by unfold maxLen; omega) (by omega) ?_; intro A4 c4 w4 own4 hO4 st4; have HO4 := Lib.hid hO4; have Hr4 := Lib.hid ((Hr3.out.step ((Step.refl 1 w3 (give own' w2.heap.size 2)).alloc (.cells #[.string uk] 9)) (by omega)).step st4 (by omega)); have Hst4 := Lib.hid st4; clear hO4 st4)
                | (at_builtin; refine wpList_mine rfl (.tmp 61) (.tmp 62) 31 rfl 9 i9 (.string ByteArray.empty) 1 16 Try.underlying31 hi hz0 hz1 hz2 rfl (by decide) own4 1 A4 (j + 1) c4 ((os.take j).map Value.string ++ [uk].map Value.string) (by rfl) HO4.out A' 0 cap' ([]) (by rfl) Hr4.out.rd (by simp) (by unfold maxLen; omega) (by omega) ?_; intro A5 c5 w5 own5 hO5 st5; have HO5 := Lib.hid hO5; have Hst5 := Lib.hid st5; clear hO5 st5))
              obtain ⟨g5, hg5⟩ := HO5.out.some_ (by omega)
              subst hg5
              go_roundw
              case rel => exact ⟨k + 1, by omega, by go_num, g5, c5, j + 1, os.take j ++ [uk], own5, rfl, Hrel, by omega, (((Hst2.out.trans Hst3.out).trans ((Step.refl 1 w3 (give own' w2.heap.size 2)).alloc _)).trans Hst4.out).trans Hst5.out, by have := HO5.out; rw [List.map_append]; simpa using this⟩
              case measure => simp [intOf]; omega
            · have hne : ¬ c1 = j := fun e => hne e.symm
              go_wp2_with (first
                | (at_builtin; refine wpList_copied rfl (.tmp 51) (.tmp 54) 31 rfl 9 i9 (.string ByteArray.empty) 1 16 Try.underlying31 hi hz0 hz1 hz2 rfl (by decide) _ _ 0 _ ([] : List Value) (by rfl) (by rfl) (Rd.nil _ _ _) (by simp) (by unfold maxLen; omega) (by omega) ?_; intro A' cap' w3 hcp; have hcg := grown_tr (World.grownBy_alloc w2 (.cells #[] 9) none) hcp.grown; have hO3 := HO2.out.grown (b0 := w2.heap.size) (j := 2) hcg (Nat.le_refl _); have hr3 := (NewRow.of_copied hcp (by simp)).row own' w2.heap.size 2 (by simp); have st3 : Step 1 w2 own' w3 (give own' w2.heap.size 2) := ((Step.refl 1 w2 own').give_ 2).grown hcg (by simp); have HO3 := Lib.hid hO3; have Hr3 := Lib.hid hr3; have Hst3 := Lib.hid st3; clear hO3 hr3 st3 hcg hcp)
                | (at_builtin; refine wpList_mine rfl (.tmp 58) (.tmp 60) 31 rfl 9 i9 (.string ByteArray.empty) 1 16 Try.underlying31 hi hz0 hz1 hz2 rfl (by decide) (give own' w2.heap.size 2) 1 (some ⟨g, 0, none⟩) j _ ((os.take j).map Value.string) (by rfl) ((HO3.out.front (by omega)).alloc _) (some ⟨w3.heap.size, 0, none⟩) 1 1 ([uk].map Value.string) (by rfl) (Rd.of_blk (Blk.new w3 9 #[.string uk]) rfl (fun q u h => by rw [← h]; simp)) (strs_one _) (by unfold maxLen; omega) (by omega) ?_; intro A4 c4 w4 own4 hO4 st4; have HO4 := Lib.hid hO4; have Hr4 := Lib.hid ((Hr3.out.step ((Step.refl 1 w3 (give own' w2.heap.size 2)).alloc (.cells #[.string uk] 9)) (by omega)).step st4 (by omega)); have Hst4 := Lib.hid st4; clear hO4 st4)
                | (at_builtin; refine wpList_mine rfl (.tmp 61) (.tmp 62) 31 rfl 9 i9 (.string ByteArray.empty) 1 16 Try.underlying31 hi hz0 hz1 hz2 rfl (by decide) own4 1 A4 (j + 1) c4 ((os.take j).map Value.string ++ [uk].map Value.string) (by rfl) HO4.out A' 0 cap' ([]) (by rfl) Hr4.out.rd (by simp) (by unfold maxLen; omega) (by omega) ?_; intro A5 c5 w5 own5 hO5 st5; have HO5 := Lib.hid hO5; have Hst5 := Lib.hid st5; clear hO5 st5))
              obtain ⟨g5, hg5⟩ := HO5.out.some_ (by omega)
              subst hg5
              go_roundw
              case rel => exact ⟨k + 1, by omega, by go_num, g5, c5, j + 1, os.take j ++ [uk], own5, rfl, Hrel, by omega, (((Hst2.out.trans Hst3.out).trans ((Step.refl 1 w3 (give own' w2.heap.size 2)).alloc _)).trans Hst4.out).trans Hst5.out, by have := HO5.out; rw [List.map_append]; simpa using this⟩
              case measure => simp [intOf]; omega
    · obtain rfl : k = n := by omega
      have Hst := Lib.hid st; have HO := Lib.hid hO
      clear st hO hg
      go_wp2
      refine Hfin.out _ _ ⟨os, some ⟨g, 0, none⟩, c1, Hos.out.1, by rw [Hos.out.2]; rfl, ?_⟩
      rw [Hos.out.2]
      exact NewRow.of_mine Hst.out HO.out
end Go.Proofs.Ytihnldhdpiokhaa
