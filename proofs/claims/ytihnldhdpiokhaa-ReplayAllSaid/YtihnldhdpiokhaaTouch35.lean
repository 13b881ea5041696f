/- The walk of the reference's Touched. (Printed by mktouch.py.) -/
import Derived.Test.YtihnldhdpiokhaaReads08
import Derived.Test.YtihnldhdpiokhaaTouch17
namespace Go.Proofs.Ytihnldhdpiokhaa
open Go.RowKit
set_option linter.unusedVariables false
attribute [local go_sem ↓] Go.wp_at_zero Go.wp_at_succ

theorem flat_mem : ∀ {l : List Rnd} {u : Upd}, u ∈ flat l → ∃ r ∈ l, u ∈ r.us
  | [], _, h => by cases h
  | r :: l, u, h => by
    rcases List.mem_append.1 (show u ∈ r.us ++ flat l from h) with h | h
    · exact ⟨r, by simp, h⟩
    · obtain ⟨r', h1, h2⟩ := flat_mem h
      exact ⟨r', by simp [h1], h2⟩
theorem touch_pk {l : List Upd} {ks : List ByteArray} (hk : KSet (Pk (fun u => mayU u = 0) l l.length) ks) : KSet (touchP l) ks :=
  hk.cong fun x => by unfold Pk touchP; rw [List.take_length]
/-- what stands while the keys are told -/
def Tc (w : World) (A : Option Addr) (q : Nat) (l : List Upd) (g a c1 : Nat) (os : List ByteArray) (own' : Nat → Nat) (wr : World) : Prop :=
  Step 1 w (fun _ => 0) wr own' ∧ Row wr own' 2 38 4 A q (ucells l) ∧ OwnS wr own' 1 9 1 (some ⟨g, 0, none⟩) a c1 (os.map Value.string)
theorem Tc.drewN {w wr : World} {A : Option Addr} {q g a c1 : Nat} {l : List Upd} {os : List ByteArray} {own' : Nat → Nat} (h : Tc w A q l g a c1 os own' wr) (n : Nat) : Tc w A q l g a c1 os own' (wr.drewN n) :=
  ⟨h.1.drewN n, h.2.1, h.2.2⟩
theorem Tc.grown {w wr w' : World} {A : Option Addr} {q g a c1 : Nat} {l : List Upd} {os : List ByteArray} {own' : Nat → Nat} (h : Tc w A q l g a c1 os own' wr) (hg : wr.grownBy w' none) : Tc w A q l g a c1 os own' w' :=
  ⟨h.1.grown hg (by simp), h.2.1.step ((Step.refl 1 wr own').grown hg (by simp)) (by omega), h.2.2.keep (w' := w') (own' := own') fun q hq ho => ⟨hg.block q hq (by simp), ho⟩⟩
theorem key_cell {w : World} {own : Nat → Nat} {i b off q k : Nat} {l : List Upd} {u : Upd} (hR : Row w own i 38 4 (some ⟨b, off, none⟩) q (ucells l)) (hk : k < q) (hl : l[k]? = some u) : w.cell? ⟨b, off + k * 4, none⟩ = some (.string u.key) := by
  obtain ⟨b', off', u', e, h1, h2, _⟩ := upds_atn hR.rd hk
  injection e with e
  injection e with e1 e2
  subst e1; subst e2
  rw [hl] at h1
  injection h1 with h1
  rw [h1]; exact h2
/-- the key of update k, as it lies -/
theorem Tc.at_ {w wr : World} {A : Option Addr} {q g a c1 : Nat} {l : List Upd} {os : List ByteArray} {own' : Nat → Nat} (h : Tc w A q l g a c1 os own' wr) {k : Nat} (hk : k < q) :
    ∃ b off u, A = some ⟨b, off, none⟩ ∧ l[k]? = some u ∧ wr.cell? ⟨b, off + k * 4, none⟩ = some (.string u.key) ∧ wr.cell? ⟨b, off + k * 4 + 1, none⟩ = some (.int .i64 u.kind) ∧ wr.cell? ⟨b, off + k * 4 + 2, none⟩ = some (.int .i64 u.n) ∧ wr.cell? ⟨b, off + k * 4 + 3, none⟩ = some (.string u.s) :=
  upds_atn h.2.1.rd hk

set_option maxHeartbeats 8000000 in
set_option maxRecDepth 10000 in
theorem touched35 {B : Option Addr} {p : Nat} {rs : List Rnd} {w : World} (h : ArgsAt w none 0 [] B p rs) (d : Nat) {ts : List ByteArray} (ht : KSet (touchP (flat rs)) ts) :
    Calls Try.prog 35 #[.slice B p d] w (StrRet w ts) := by
  obtain ⟨i9, hi, hz0, hz1, hz2⟩ := info_parts Try.info9o
  have hlen := h.len
  obtain ⟨l, hl⟩ : ∃ l, l = flat rs ++ [] := ⟨_, rfl⟩
  have hlf : flat rs = l := by rw [hl, List.append_nil]
  obtain ⟨q, hq⟩ : ∃ q, l.length = q := ⟨_, rfl⟩
  have hflat := flat36 h 0 d q (by rw [← hl]; exact hq)
  rw [← hl] at hflat hlen
  rw [hq] at hlen
  have Hw := Lib.hid (show ∀ u ∈ l, UpdWf u from fun u hu => by
    rw [← hlf] at hu
    obtain ⟨r, hr, hur⟩ := flat_mem hu
    exact (h.wr r hr).2.2.2 u hur)
  have Hflat := Lib.hid hflat
  rw [hlf] at ht
  have hfin : ∀ (e : Ending) (w' : World), (∃ (os : List ByteArray) (A' : Option Addr) (c' : Nat), KSet (Pk (fun u => mayU u = 0) l q) os ∧ e = .returned (.slice A' os.length c') ∧ NewRow 9 1 (os.map Value.string) w A' os.length c' w') → StrRet w ts e w' := by
    rintro e w' ⟨os, A', c', h1, h2, h3⟩
    rw [← hq] at h1
    have := KSet.unique (touch_pk h1) ht
    subst this
    exact ⟨A', c', h2, h3⟩
  have Hfin := Lib.hid hfin; clear hfin ht hl hlf hflat h
  generalize StrRet w ts = R at *
  obtain ⟨sel, hsel⟩ : ∃ sel : Upd → Prop, sel = fun u => mayU u = 0 := ⟨_, rfl⟩
  rw [← hsel] at Hfin
  have Hsel := Lib.hid hsel; clear hsel
  have HQ := Lib.hid hq; clear hq
  go_enter Try.func35, Try.ntmps35
  go_wp2_with fail
  refine Hflat.out.mono ?_
  rintro e w1 ⟨A, cA, rfl, hnr⟩
  have hst1 : Step 1 w (fun _ => 0) w1 (give (fun _ => 0) w.heap.size 2) := ((Step.refl 1 w (fun _ => 0)).give_ 2).grown hnr.grown (by simp)
  have hrow1 := hnr.row (fun _ => 0) w.heap.size 2 (Nat.le_refl _)
  have hs2 : Step 1 w1 (give (fun _ => 0) w.heap.size 2) (w1.alloc (.cells #[] 9)) (give (give (fun _ => 0) w.heap.size 2) w1.heap.size 1) := ((Step.refl 1 w1 _).give_ 1).alloc _
  have ht0 : Tc w A q l w1.heap.size 0 0 [] (give (give (fun _ => 0) w.heap.size 2) w1.heap.size 1) (w1.alloc (.cells #[] 9)) :=
    ⟨hst1.trans hs2, hrow1.step hs2 (by omega), by simp, .inr ⟨w1.heap.size, #[], rfl, give_new (Nat.le_refl _), Blk.new w1 9 #[], by omega, by unfold maxLen; omega, rfl, rfl⟩⟩
  have Ht0 := Lib.hid ht0; clear ht0 hs2 hrow1 hst1 hnr Hflat
  go_wp2_with fail
  go_loopw [4, 5] (fun v4 v wr => ∃ k : Nat, k ≤ q ∧ v = .int .i64 k ∧ ∃ (g c1 a : Nat) (os : List ByteArray) (own' : Nat → Nat), v4 = .slice (some ⟨g, 0, none⟩) a c1 ∧ Hid (KSet (Pk sel l k) os ∧ os.length = a) ∧ a ≤ k ∧ Hid (Tc w A q l g a c1 os own' wr)) (fun _ v _ => q - (intOf v).toNat)
  case atStart => exact ⟨0, by omega, rfl, _, 0, 0, [], _, rfl, Lib.hid ⟨Pk.zero sel l, rfl⟩, by omega, Ht0⟩
  case round =>
    clear Ht0
    obtain ⟨k, hkn, rfl, g, c1, a, os, own', rfl, Hos, hak, HT⟩ := hrel
    by_cases hlt : k < q
    · obtain ⟨b, off, u, rfl, hlu, d0, d1, d2, d3⟩ := HT.out.at_ hlt
      have hwf := Hw.out u (List.mem_of_getElem? hlu)
      have hmay := may27 u wr hwf.1 hwf.2.1
      have hsu : sel u ↔ mayU u = 0 := by rw [Hsel.out]
      obtain ⟨x, hx⟩ : ∃ x, mayU u = x := ⟨_, rfl⟩
      rw [hx] at hmay hsu
      clear hx
      have hk0 : (0 : Int) ≤ (k : Int) := by omega
      have hkq : (k : Int) < (q : Int) := by omega
      have Hlu := Lib.hid hlu; have Hsu := Lib.hid hsu; have Hmay := Lib.hid hmay
      clear hlu hwf hmay hsu
      obtain ⟨uk, ukd, un, us⟩ := u
      dsimp only at d0 d1 d2 d3 Hmay
      by_cases hx0 : x = 0
      · subst hx0
        go_wp2_with fail
        refine Hmay.out.mono ?_
        rintro e w2 ⟨rfl, hg2⟩
        have d0' := World.grownBy.cell hg2 d0 (by simp)
        have HT2 := Lib.hid (HT.out.grown hg2)
        clear hg2 d0 d1 d2 d3 HT
        go_wp2_with fail
        obtain ⟨wo, rfl⟩ : ∃ wo, wo = wr := ⟨_, rfl⟩
        go_loopw [6] (fun v6 wx => ∃ j : Nat, j ≤ a ∧ v6 = .int .i64 j ∧ Hid (∀ (i : Nat) (y : ByteArray), os[i]? = some y → i < j → ltB y uk) ∧ Hid (Tc w (some ⟨b, off, none⟩) q l g a c1 os own' wx) ∧ Hid (wx.cell? ⟨b, off + k * 4, none⟩ = some (.string uk))) (fun v6 _ => a - (intOf v6).toNat)
        case atStart => exact ⟨0, by omega, rfl, Lib.hid (fun i y _ h => absurd h (by omega)), HT2, Lib.hid d0'⟩
        case round =>
          clear HT2 d0'
          obtain ⟨j, hja, rfl, Hlo, HT, Hd⟩ := hrel
          have d0 := Hd.out
          have hj0 : (0 : Int) ≤ (j : Int) := by omega
          by_cases hlt2 : j < a
          · obtain ⟨b3, o3, s, e3, hsj, y0⟩ := str_at HT.out.2.2.row.rd hlt2
            injection e3 with e3
            injection e3 with e3 e4
            subst e3; subst e4
            rw [Nat.zero_add] at y0
            have hja' : (j : Int) < (a : Int) := by omega
            have hjd : decide ((j : Int) < (a : Int)) = true := decide_eq_true hja'
            have Hsj := Lib.hid hsj; clear hsj
            rcases ltB_tri s uk with hcmp | hcmp | hcmp
            · have t1 := less_yes hcmp
              have Hlo2 := Lib.hid (show ∀ (i : Nat) (y : ByteArray), os[i]? = some y → i < j + 1 → ltB y uk from fun i y hy hi => by
                rcases Nat.lt_or_ge i j with h' | h'
                · exact Hlo.out i y hy h'
                · obtain rfl : i = j := by omega
                  have := Hsj.out
                  rw [hy] at this
                  injection this with this
                  rw [this]; exact hcmp)
              clear hcmp
              go_wp2_with fail
              go_quiet (fail)
              go_wp2_with fail
              go_roundw
              case rel => exact ⟨j + 1, by omega, by go_num, Hlo2, Lib.hid (HT.out.drewN _), Lib.hid d0⟩
              case measure => simp [intOf]; omega
            · subst hcmp
              have t1 := less_no (ltB_irrefl s)
              have Hrel := Lib.hid (show KSet (Pk sel l (k + 1)) os ∧ os.length = a from ⟨Hos.out.1.there Hlu.out Hsj.out, Hos.out.2⟩)
              go_wp2_with fail
              go_quiet (fail)
              obtain ⟨wy, hwy⟩ : ∃ wy, wy = wr.drewN nq := ⟨_, rfl⟩
              have HT3 := Lib.hid (show Tc w (some ⟨b, off, none⟩) q l g a c1 os own' wy by rw [hwy]; exact HT.out.drewN _)
              have d0 : wy.cell? ⟨b, off + k * 4, none⟩ = some (.string s) := by rw [hwy]; exact d0
              have y0 : wy.cell? ⟨g, j, none⟩ = some (.string s) := by rw [hwy]; exact y0
              rw [← hwy]
              clear hwy HT Hd
              go_wp2_with fail
              go_quiet (fail)
              go_wp2_with fail
              go_roundw
              case rel => exact ⟨k + 1, by omega, by go_num, g, c1, a, os, own', rfl, Hrel, by omega, Lib.hid (HT3.out.drewN _)⟩
              case measure => simp [intOf]; omega
            · have t1 := less_no (s := s) (k := uk) (fun h => ltB_irrefl _ (ltB_trans h hcmp))
              have t2 := same_no (s := s) (k := uk) (fun h => by rw [h] at hcmp; exact ltB_irrefl _ hcmp)
              have t3 : ¬ s.toList = uk.toList := fun h => by rw [h] at t2; simp at t2
              have hk2 := Hos.out.1.put_in Hlu.out (Hsu.out.2 (by first | rfl | trivial)) j (by rw [Hos.out.2]; omega) Hlo.out (fun y hy => by have := Hsj.out; rw [hy] at this; injection this with this; rw [this]; exact hcmp)
              have hl2 : (os.take j ++ [uk] ++ os.drop j).length = j + 1 + (a - j) := by simp [Hos.out.2]; omega
              have Hrel := Lib.hid (And.intro hk2 hl2); clear hk2 hl2 hcmp
              go_wp2_with fail
              go_quiet (fail)
              obtain ⟨wy, hwy⟩ : ∃ wy, wy = wr.drewN nq := ⟨_, rfl⟩
              have HT3 := Lib.hid (show Tc w (some ⟨b, off, none⟩) q l g a c1 os own' wy by rw [hwy]; exact HT.out.drewN _)
              have d0 : wy.cell? ⟨b, off + k * 4, none⟩ = some (.string uk) := by rw [hwy]; exact d0
              have y0 : wy.cell? ⟨g, j, none⟩ = some (.string s) := by rw [hwy]; exact y0
              rw [← hwy]
              clear hwy HT Hd
              go_wp2_with fail
              go_quiet (fail)
              obtain ⟨wz, hwy⟩ : ∃ wz, wz = wy.drewN nq := ⟨_, rfl⟩
              have HT4 := Lib.hid (show Tc w (some ⟨b, off, none⟩) q l g a c1 os own' wz by rw [hwy]; exact HT3.out.drewN _)
              have d0 : wz.cell? ⟨b, off + k * 4, none⟩ = some (.string uk) := by rw [hwy]; exact d0
              have y0 : wz.cell? ⟨g, j, none⟩ = some (.string s) := by rw [hwy]; exact y0
              rw [← hwy]
              clear hwy HT3
              have hle : a ≤ c1 := HT4.out.2.2.le
              have hcm : c1 ≤ maxLen := HT4.out.2.2.max
              unfold maxLen at hcm
              have hne : ¬ c1 = j := by omega
              have hjc : j ≤ c1 := by omega
              have hrd := HT4.out.2.2.rest hlt2
              have hrest : Rd wz 1 (some ⟨g, j, none⟩) (a - j) ((os.drop j).map Value.string) := by
                obtain ⟨g', eg, hr⟩ := hrd
                injection eg with eg
                injection eg with eg
                rw [eg]; exact hr
              have Hrest := Lib.hid (hrest.alloc (by omega) (.cells #[] 9))
              clear hrest hrd
              have hjk : j + 1 + (a - j) ≤ 1000001 := by omega
              have Hln := Lib.hid (show ((os.drop j).map Value.string).length = (a - j) * 1 by simp [Hos.out.2])
              have hrow : Rd wz 1 (some ⟨g, j, none⟩) (a - j) ((os.drop j).map Value.string) ∨ True := .inr trivial
              clear hrow
              go_wp2_with (at_builtin; refine wpList_copied rfl (.tmp 57) (.tmp 60) 31 rfl 9 i9 (.string ByteArray.empty) 1 16 Try.underlying31 hi hz0 hz1 hz2 rfl (by decide) _ _ (a - j) _ ((os.drop j).map Value.string) (by rfl) (by rfl) Hrest.out (strs_one _) (by unfold maxLen; omega) (by omega) ?_; intro A' cap' w3 hcp; have Hcp := Lib.hid hcp; clear hcp)
              have hcg := grown_tr (World.grownBy_alloc wz (.cells #[] 9) none) Hcp.out.grown
              have HO3 := Lib.hid (HT4.out.2.2.grown (b0 := wz.heap.size) (j := 2) hcg (Nat.le_refl _))
              have Hr3 := Lib.hid ((NewRow.of_copied Hcp.out Hln.out).row own' wz.heap.size 2 (by simp))
              have hs3 : Step 1 wz own' w3 (give own' wz.heap.size 2) := ((Step.refl 1 wz own').give_ 2).grown hcg (by simp)
              have HR3 := Lib.hid (HT4.out.2.1.step hs3 (by omega))
              have Hs3 := Lib.hid (HT4.out.1.trans hs3)
              have d3 := key_cell HR3.out hlt Hlu.out
              dsimp only at d3
              clear hcg hs3 HT4 d0 Hcp
              refine wp_region_held_drew (S := fun w' => w'.cell? ⟨b, off + k * 4, none⟩ = some (.string uk)) (by kernel_rfl) (show w3.drew.cell? ⟨b, off + k * 4, none⟩ = some (.string uk) from d3) (fun hHeld => ?_)
              refine wpAnyH_take (i := 0) (v := ?_) rfl (by kernel_rfl) (by kernel_rfl) (by kernel_rfl) (fun _ _ _ h => h) (Or.inl ⟨by rfl, ?_⟩) (by assumption) ?_
              rotate_left 1
              · (intro w hSw; (try dsimp only at hSw); go_simp; try (with_reducible rfl))
              simp only [Act.put, List.getElem_toArray, List.getElem_cons_zero, List.setIfInBounds_toArray, List.set_cons_zero, List.set_cons_succ]
              refine wpAnyH_take (i := 1) (v := ?_) rfl (by kernel_rfl) (by kernel_rfl) (by kernel_rfl) (fun _ _ _ h => h) (Or.inl ⟨by rfl, ?_⟩) (by assumption) ?_
              rotate_left 1
              · (intro w hSw; (try dsimp only at hSw); go_simp; try (with_reducible rfl))
              simp only [Act.put, List.getElem_toArray, List.getElem_cons_zero, List.getElem_cons_succ, List.setIfInBounds_toArray, List.set_cons_zero, List.set_cons_succ]
              refine wpAnyH_take (i := 2) (v := ?_) rfl (by kernel_rfl) (by kernel_rfl) (by kernel_rfl) (fun _ _ _ h => h) (Or.inl ⟨by rfl, ?_⟩) (by assumption) ?_
              rotate_left 1
              · (intro w hSw; (try dsimp only at hSw); go_simp; try (with_reducible rfl))
              simp only [Act.put, List.getElem_toArray, List.getElem_cons_zero, List.getElem_cons_succ, List.setIfInBounds_toArray, List.set_cons_zero, List.set_cons_succ]
              refine wpAnyH_take (i := 3) (v := ?_) rfl (by kernel_rfl) (by kernel_rfl) (by kernel_rfl) (fun _ _ _ h => h) (Or.inl ⟨by rfl, ?_⟩) (by assumption) ?_
              rotate_left 1
              · (intro w hSw; (try dsimp only at hSw); go_simp; try (with_reducible rfl))
              simp only [Act.put, List.getElem_toArray, List.getElem_cons_zero, List.getElem_cons_succ, List.setIfInBounds_toArray, List.set_cons_zero, List.set_cons_succ]
              refine wpAnyH_take (i := 4) (v := ?_) rfl (by kernel_rfl) (by kernel_rfl) (by kernel_rfl) (fun _ _ _ h => h) (Or.inl ⟨by rfl, ?_⟩) (by assumption) ?_
              rotate_left 1
              · (intro w hSw; (try dsimp only at hSw); go_simp; try (with_reducible rfl))
              simp only [Act.put, List.getElem_toArray, List.getElem_cons_zero, List.getElem_cons_succ, List.setIfInBounds_toArray, List.set_cons_zero, List.set_cons_succ]
              refine wpAnyH_take (i := 5) (v := ?_) rfl (by kernel_rfl) (by kernel_rfl) (by kernel_rfl) (fun _ _ _ h => h) (Or.inl ⟨by rfl, ?_⟩) (by assumption) ?_
              rotate_left 1
              · (intro w hSw; (try dsimp only at hSw); go_simp; try (with_reducible rfl))
              simp only [Act.put, List.getElem_toArray, List.getElem_cons_zero, List.getElem_cons_succ, List.setIfInBounds_toArray, List.set_cons_zero, List.set_cons_succ]
              refine wpAnyH_take (i := 6) (v := ?_) rfl (by kernel_rfl) (by kernel_rfl) (by kernel_rfl) (fun _ _ _ h => h) (Or.inl ⟨by rfl, ?_⟩) (by assumption) ?_
              rotate_left 1
              · (intro w hSw; (try dsimp only at hSw); go_simp; try (with_reducible rfl))
              simp only [Act.put, List.getElem_toArray, List.getElem_cons_zero, List.getElem_cons_succ, List.setIfInBounds_toArray, List.set_cons_zero, List.set_cons_succ]
              refine wpAnyH_take (i := 7) (v := ?_) rfl (by kernel_rfl) (by kernel_rfl) (by kernel_rfl) (fun _ _ _ h => h) (Or.inl ⟨by rfl, ?_⟩) (by assumption) ?_
              rotate_left 1
              · (intro w hSw; (try dsimp only at hSw); go_simp; try (with_reducible rfl))
              simp only [Act.put, List.getElem_toArray, List.getElem_cons_zero, List.getElem_cons_succ, List.setIfInBounds_toArray, List.set_cons_zero, List.set_cons_succ]
              refine wpAnyH_take (i := 10) (v := ?_) rfl (by kernel_rfl) (by kernel_rfl) (by kernel_rfl) (fun _ _ _ h => h) (Or.inl ⟨by rfl, ?_⟩) (by assumption) ?_
              rotate_left 1
              · (intro w hSw; (try dsimp only at hSw); go_simp; try (with_reducible rfl))
              simp only [Act.put, List.getElem_toArray, List.getElem_cons_zero, List.getElem_cons_succ, List.setIfInBounds_toArray, List.set_cons_zero, List.set_cons_succ]
              refine wpAnyH_ready (rs := [8]) (by kernel_rfl) (by simp) ?_
              refine AllReadyH.cons rfl (fun K hK => ?_) AllReadyH.nil
              go_simp
              refine hK.out _ _ (by exact cell_al (w := w3.drew) d3 _) (fun hHeld => ?_)
              clear hK K
              try simp only [Act.put, List.getElem_toArray, List.getElem_cons_zero, List.getElem_cons_succ, List.setIfInBounds_toArray, List.set_cons_zero, List.set_cons_succ]
              have hF : OwnS (w3.drew.alloc (.cells #[.string uk] 9)) (give own' wz.heap.size 2) 1 9 1 (some ⟨g, 0, none⟩) j c1 ((os.take j).map Value.string) := OwnS.alloc (w := w3.drew) (HO3.out.front (by omega)) _
              have hs4 : Step 1 w3 (give own' wz.heap.size 2) (w3.drew.alloc (.cells #[.string uk] 9)) (give own' wz.heap.size 2) := ((Step.refl 1 w3 _).drewN 1).alloc _
              refine wpAnyH_ready (rs := [9]) (by kernel_rfl) (by simp) ?_
              refine AllReadyH.cons rfl (fun K hK => ?_) AllReadyH.nil
              refine step_mine rfl (.tmp 64) (.tmp 70) 31 rfl 9 i9 (.string ByteArray.empty) 1 16 Try.underlying31 hi hz0 hz1 hz2 rfl (by decide) (give own' wz.heap.size 2) 1 (some ⟨g, 0, none⟩) j c1 ((os.take j).map Value.string) (by rfl) hF (some ⟨w3.heap.size, 0, none⟩) 1 1 ([uk].map Value.string) (by rfl) (Rd.of_blk (Blk.new w3.drew 9 #[.string uk]) rfl (fun q u h => by rw [← h]; simp)) (strs_one _) (by unfold maxLen; omega) (by omega) ?_
              intro A4 c4 w4 own4 hO4 st4
              have HR4 := Lib.hid ((HR3.out.step hs4 (by omega)).step st4 (by omega))
              have Hr4 := Lib.hid ((Hr3.out.step hs4 (by omega)).step st4 (by omega))
              have Hs4 := Lib.hid ((Hs3.out.trans hs4).trans st4)
              have d4 := key_cell HR4.out hlt Hlu.out
              dsimp only at d4
              refine hK.out _ _ (by exact d4) (fun hHeld => ?_)
              clear hK K
              try simp only [Act.put, List.getElem_toArray, List.getElem_cons_zero, List.getElem_cons_succ, List.setIfInBounds_toArray, List.set_cons_zero, List.set_cons_succ]
              clear hF hs4 d3 st4 Hr3 HR3 HO3 Hs3
              refine wpAnyH_ready (rs := [11]) (by kernel_rfl) (by simp) ?_
              refine AllReadyH.cons rfl (fun K hK => ?_) AllReadyH.nil
              refine step_mine rfl (.tmp 71) (.tmp 72) 31 rfl 9 i9 (.string ByteArray.empty) 1 16 Try.underlying31 hi hz0 hz1 hz2 rfl (by decide) own4 1 A4 (j + 1) c4 ((os.take j).map Value.string ++ [uk].map Value.string) (by rfl) hO4 A' (a - j) cap' ((os.drop j).map Value.string) (by rfl) Hr4.out.rd (strs_one _) (by unfold maxLen; omega) (by omega) ?_
              intro A5 c5 w5 own5 hO5 st5
              have HR5 := Lib.hid (HR4.out.step st5 (by omega))
              have Hs5 := Lib.hid (Hs4.out.trans st5)
              have d5 := key_cell HR5.out hlt Hlu.out
              dsimp only at d5
              have HO5 := Lib.hid hO5
              refine hK.out _ _ (by exact d5) (fun hHeld => ?_)
              clear hK K
              try simp only [Act.put, List.getElem_toArray, List.getElem_cons_zero, List.getElem_cons_succ, List.setIfInBounds_toArray, List.set_cons_zero, List.set_cons_succ]
              refine wpAnyH_take (i := 12) (v := ?_) rfl (by kernel_rfl) (by kernel_rfl) (by kernel_rfl) (fun _ _ _ h => h) (Or.inl ⟨by rfl, ?_⟩) (by assumption) ?_
              rotate_left 1
              · (intro w hSw; (try dsimp only at hSw); go_simp; try (with_reducible rfl))
              simp only [Act.put, List.getElem_toArray, List.getElem_cons_zero, List.getElem_cons_succ, List.setIfInBounds_toArray, List.set_cons_zero, List.set_cons_succ]
              refine wpAnyH_done (by kernel_rfl) ?_ _
              obtain ⟨g5, hg5⟩ := HO5.out.some_ (by omega)
              subst hg5
              clear hO4 hO5 st5 d4 d5 HR4 Hr4 Hs4 hHeld
              go_wp2_with fail
              go_roundw
              case rel => exact ⟨k + 1, by omega, by go_num, g5, c5, j + 1 + (a - j), os.take j ++ [uk] ++ os.drop j, own5, rfl, Hrel, by omega, Lib.hid ⟨Hs5.out, HR5.out, by rw [List.map_append, List.map_append]; exact HO5.out⟩⟩
              case measure => simp [intOf]; omega
          · obtain rfl : j = a := by omega
            have hjd : decide ((j : Int) < (j : Int)) = false := decide_eq_false (by omega)
            have hk2 := Hos.out.1.put_in Hlu.out (Hsu.out.2 (by first | rfl | trivial)) j (by rw [Hos.out.2]; exact Nat.le_refl _) Hlo.out (fun y hy => by have := (List.getElem?_eq_some_iff.1 hy).1; rw [Hos.out.2] at this; omega)
            rw [List.drop_eq_nil_of_le (by rw [Hos.out.2]; exact Nat.le_refl _), List.append_nil] at hk2
            have hl2 : (os.take j ++ [uk]).length = j + 1 := by simp [Hos.out.2]
            have Hrel := Lib.hid (And.intro hk2 hl2); clear hk2 hl2
            have hjk : j + 1 ≤ 1000001 := by omega
            go_wp2_with fail
            go_quiet (fail)
            obtain ⟨wy, hwy⟩ : ∃ wy, wy = wr.drewN nq := ⟨_, rfl⟩
            have HT3 := Lib.hid (show Tc w (some ⟨b, off, none⟩) q l g j c1 os own' wy by rw [hwy]; exact HT.out.drewN _)
            have d0 : wy.cell? ⟨b, off + k * 4, none⟩ = some (.string uk) := by rw [hwy]; exact d0
            rw [← hwy]
            clear hwy HT Hd
            go_wp2_with fail
            go_quiet (fail)
            obtain ⟨wz, hwy⟩ : ∃ wz, wz = wy.drewN nq := ⟨_, rfl⟩
            have HT4 := Lib.hid (show Tc w (some ⟨b, off, none⟩) q l g j c1 os own' wz by rw [hwy]; exact HT3.out.drewN _)
            have d0 : wz.cell? ⟨b, off + k * 4, none⟩ = some (.string uk) := by rw [hwy]; exact d0
            rw [← hwy]
            clear hwy HT3
            have hle : j ≤ c1 := HT4.out.2.2.le
            have hcm : c1 ≤ maxLen := HT4.out.2.2.max
            unfold maxLen at hcm
            rcases Decidable.em (j = c1) with hne | hne
            · subst hne
              have hjc : j ≤ j := Nat.le_refl _
              have Hrest := Lib.hid (show ∀ (W : World) (A : Option Addr), Rd W 1 A 0 [] from fun W A => Rd.nil W 1 A)
              have hrow : Rd wz 1 (some ⟨g, j, none⟩) (0) (([] : List Value)) ∨ True := .inr trivial
              clear hrow
              go_wp2_with (at_builtin; refine wpList_copied rfl (.tmp 57) (.tmp 60) 31 rfl 9 i9 (.string ByteArray.empty) 1 16 Try.underlying31 hi hz0 hz1 hz2 rfl (by decide) _ _ (0) _ (([] : List Value)) (by rfl) (by rfl) (Hrest.out _ _) (by simp) (by unfold maxLen; omega) (by omega) ?_; intro A' cap' w3 hcp; have Hcp := Lib.hid hcp; clear hcp)
              have hcg := grown_tr (World.grownBy_alloc wz (.cells #[] 9) none) Hcp.out.grown
              have HO3 := Lib.hid (HT4.out.2.2.grown (b0 := wz.heap.size) (j := 2) hcg (Nat.le_refl _))
              have Hr3 := Lib.hid ((NewRow.of_copied Hcp.out (by simp)).row own' wz.heap.size 2 (by simp))
              have hs3 : Step 1 wz own' w3 (give own' wz.heap.size 2) := ((Step.refl 1 wz own').give_ 2).grown hcg (by simp)
              have HR3 := Lib.hid (HT4.out.2.1.step hs3 (by omega))
              have Hs3 := Lib.hid (HT4.out.1.trans hs3)
              have d3 := key_cell HR3.out hlt Hlu.out
              dsimp only at d3
              clear hcg hs3 HT4 d0 Hcp
              refine wp_region_held_drew (S := fun w' => w'.cell? ⟨b, off + k * 4, none⟩ = some (.string uk)) (by kernel_rfl) (show w3.drew.cell? ⟨b, off + k * 4, none⟩ = some (.string uk) from d3) (fun hHeld => ?_)
              refine wpAnyH_take (i := 0) (v := ?_) rfl (by kernel_rfl) (by kernel_rfl) (by kernel_rfl) (fun _ _ _ h => h) (Or.inl ⟨by rfl, ?_⟩) (by assumption) ?_
              rotate_left 1
              · (intro w hSw; (try dsimp only at hSw); go_simp; try (with_reducible rfl))
              simp only [Act.put, List.getElem_toArray, List.getElem_cons_zero, List.setIfInBounds_toArray, List.set_cons_zero, List.set_cons_succ]
              refine wpAnyH_take (i := 1) (v := ?_) rfl (by kernel_rfl) (by kernel_rfl) (by kernel_rfl) (fun _ _ _ h => h) (Or.inl ⟨by rfl, ?_⟩) (by assumption) ?_
              rotate_left 1
              · (intro w hSw; (try dsimp only at hSw); go_simp; try (with_reducible rfl))
              simp only [Act.put, List.getElem_toArray, List.getElem_cons_zero, List.getElem_cons_succ, List.setIfInBounds_toArray, List.set_cons_zero, List.set_cons_succ]
              refine wpAnyH_take (i := 2) (v := ?_) rfl (by kernel_rfl) (by kernel_rfl) (by kernel_rfl) (fun _ _ _ h => h) (Or.inl ⟨by rfl, ?_⟩) (by assumption) ?_
              rotate_left 1
              · (intro w hSw; (try dsimp only at hSw); go_simp; try (with_reducible rfl))
              simp only [Act.put, List.getElem_toArray, List.getElem_cons_zero, List.getElem_cons_succ, List.setIfInBounds_toArray, List.set_cons_zero, List.set_cons_succ]
              refine wpAnyH_take (i := 3) (v := ?_) rfl (by kernel_rfl) (by kernel_rfl) (by kernel_rfl) (fun _ _ _ h => h) (Or.inl ⟨by rfl, ?_⟩) (by assumption) ?_
              rotate_left 1
              · (intro w hSw; (try dsimp only at hSw); go_simp; try (with_reducible rfl))
              simp only [Act.put, List.getElem_toArray, List.getElem_cons_zero, List.getElem_cons_succ, List.setIfInBounds_toArray, List.set_cons_zero, List.set_cons_succ]
              refine wpAnyH_take (i := 4) (v := ?_) rfl (by kernel_rfl) (by kernel_rfl) (by kernel_rfl) (fun _ _ _ h => h) (Or.inl ⟨by rfl, ?_⟩) (by assumption) ?_
              rotate_left 1
              · (intro w hSw; (try dsimp only at hSw); go_simp; try (with_reducible rfl))
              simp only [Act.put, List.getElem_toArray, List.getElem_cons_zero, List.getElem_cons_succ, List.setIfInBounds_toArray, List.set_cons_zero, List.set_cons_succ]
              refine wpAnyH_take (i := 5) (v := ?_) rfl (by kernel_rfl) (by kernel_rfl) (by kernel_rfl) (fun _ _ _ h => h) (Or.inl ⟨by rfl, ?_⟩) (by assumption) ?_
              rotate_left 1
              · (intro w hSw; (try dsimp only at hSw); go_simp; try (with_reducible rfl))
              simp only [Act.put, List.getElem_toArray, List.getElem_cons_zero, List.getElem_cons_succ, List.setIfInBounds_toArray, List.set_cons_zero, List.set_cons_succ]
              refine wpAnyH_take (i := 6) (v := ?_) rfl (by kernel_rfl) (by kernel_rfl) (by kernel_rfl) (fun _ _ _ h => h) (Or.inl ⟨by rfl, ?_⟩) (by assumption) ?_
              rotate_left 1
              · (intro w hSw; (try dsimp only at hSw); go_simp; try (with_reducible rfl))
              simp only [Act.put, List.getElem_toArray, List.getElem_cons_zero, List.getElem_cons_succ, List.setIfInBounds_toArray, List.set_cons_zero, List.set_cons_succ]
              refine wpAnyH_take (i := 7) (v := ?_) rfl (by kernel_rfl) (by kernel_rfl) (by kernel_rfl) (fun _ _ _ h => h) (Or.inl ⟨by rfl, ?_⟩) (by assumption) ?_
              rotate_left 1
              · (intro w hSw; (try dsimp only at hSw); go_simp; try (with_reducible rfl))
              simp only [Act.put, List.getElem_toArray, List.getElem_cons_zero, List.getElem_cons_succ, List.setIfInBounds_toArray, List.set_cons_zero, List.set_cons_succ]
              refine wpAnyH_take (i := 10) (v := ?_) rfl (by kernel_rfl) (by kernel_rfl) (by kernel_rfl) (fun _ _ _ h => h) (Or.inl ⟨by rfl, ?_⟩) (by assumption) ?_
              rotate_left 1
              · (intro w hSw; (try dsimp only at hSw); go_simp; try (with_reducible rfl))
              simp only [Act.put, List.getElem_toArray, List.getElem_cons_zero, List.getElem_cons_succ, List.setIfInBounds_toArray, List.set_cons_zero, List.set_cons_succ]
              refine wpAnyH_ready (rs := [8]) (by kernel_rfl) (by simp) ?_
              refine AllReadyH.cons rfl (fun K hK => ?_) AllReadyH.nil
              go_simp
              refine hK.out _ _ (by exact cell_al (w := w3.drew) d3 _) (fun hHeld => ?_)
              clear hK K
              try simp only [Act.put, List.getElem_toArray, List.getElem_cons_zero, List.getElem_cons_succ, List.setIfInBounds_toArray, List.set_cons_zero, List.set_cons_succ]
              have hF : OwnS (w3.drew.alloc (.cells #[.string uk] 9)) (give own' wz.heap.size 2) 1 9 1 (some ⟨g, 0, none⟩) j j ((os.take j).map Value.string) := OwnS.alloc (w := w3.drew) (HO3.out.front (by omega)) _
              have hs4 : Step 1 w3 (give own' wz.heap.size 2) (w3.drew.alloc (.cells #[.string uk] 9)) (give own' wz.heap.size 2) := ((Step.refl 1 w3 _).drewN 1).alloc _
              refine wpAnyH_ready (rs := [9]) (by kernel_rfl) (by simp) ?_
              refine AllReadyH.cons rfl (fun K hK => ?_) AllReadyH.nil
              refine step_mine rfl (.tmp 64) (.tmp 70) 31 rfl 9 i9 (.string ByteArray.empty) 1 16 Try.underlying31 hi hz0 hz1 hz2 rfl (by decide) (give own' wz.heap.size 2) 1 (some ⟨g, 0, none⟩) j j ((os.take j).map Value.string) (by rfl) hF (some ⟨w3.heap.size, 0, none⟩) 1 1 ([uk].map Value.string) (by rfl) (Rd.of_blk (Blk.new w3.drew 9 #[.string uk]) rfl (fun q u h => by rw [← h]; simp)) (strs_one _) (by unfold maxLen; omega) (by omega) ?_
              intro A4 c4 w4 own4 hO4 st4
              have HR4 := Lib.hid ((HR3.out.step hs4 (by omega)).step st4 (by omega))
              have Hr4 := Lib.hid ((Hr3.out.step hs4 (by omega)).step st4 (by omega))
              have Hs4 := Lib.hid ((Hs3.out.trans hs4).trans st4)
              have d4 := key_cell HR4.out hlt Hlu.out
              dsimp only at d4
              refine hK.out _ _ (by exact d4) (fun hHeld => ?_)
              clear hK K
              try simp only [Act.put, List.getElem_toArray, List.getElem_cons_zero, List.getElem_cons_succ, List.setIfInBounds_toArray, List.set_cons_zero, List.set_cons_succ]
              clear hF hs4 d3 st4 Hr3 HR3 HO3 Hs3
              refine wpAnyH_ready (rs := [11]) (by kernel_rfl) (by simp) ?_
              refine AllReadyH.cons rfl (fun K hK => ?_) AllReadyH.nil
              refine step_mine rfl (.tmp 71) (.tmp 72) 31 rfl 9 i9 (.string ByteArray.empty) 1 16 Try.underlying31 hi hz0 hz1 hz2 rfl (by decide) own4 1 A4 (j + 1) c4 ((os.take j).map Value.string ++ [uk].map Value.string) (by rfl) hO4 A' (0) cap' (([] : List Value)) (by rfl) Hr4.out.rd (by simp) (by unfold maxLen; omega) (by omega) ?_
              intro A5 c5 w5 own5 hO5 st5
              have HR5 := Lib.hid (HR4.out.step st5 (by omega))
              have Hs5 := Lib.hid (Hs4.out.trans st5)
              have d5 := key_cell HR5.out hlt Hlu.out
              dsimp only at d5
              have HO5 := Lib.hid hO5
              refine hK.out _ _ (by exact d5) (fun hHeld => ?_)
              clear hK K
              try simp only [Act.put, List.getElem_toArray, List.getElem_cons_zero, List.getElem_cons_succ, List.setIfInBounds_toArray, List.set_cons_zero, List.set_cons_succ]
              refine wpAnyH_take (i := 12) (v := ?_) rfl (by kernel_rfl) (by kernel_rfl) (by kernel_rfl) (fun _ _ _ h => h) (Or.inl ⟨by rfl, ?_⟩) (by assumption) ?_
              rotate_left 1
              · (intro w hSw; (try dsimp only at hSw); go_simp; try (with_reducible rfl))
              simp only [Act.put, List.getElem_toArray, List.getElem_cons_zero, List.getElem_cons_succ, List.setIfInBounds_toArray, List.set_cons_zero, List.set_cons_succ]
              refine wpAnyH_done (by kernel_rfl) ?_ _
              obtain ⟨g5, hg5⟩ := HO5.out.some_ (by omega)
              subst hg5
              clear hO4 hO5 st5 d4 d5 HR4 Hr4 Hs4 hHeld
              go_wp2_with fail
              go_roundw
              case rel => exact ⟨k + 1, by omega, by go_num, g5, c5, j + 1, os.take j ++ [uk], own5, rfl, Hrel, by omega, Lib.hid ⟨Hs5.out, HR5.out, by have := HO5.out; rw [List.map_append]; simpa using this⟩⟩
              case measure => simp [intOf]; omega
            · have hjc : j ≤ c1 := hle
              have hne : ¬ c1 = j := fun e => hne e.symm
              have Hrest := Lib.hid (show ∀ (W : World) (A : Option Addr), Rd W 1 A 0 [] from fun W A => Rd.nil W 1 A)
              have hrow : Rd wz 1 (some ⟨g, j, none⟩) (0) (([] : List Value)) ∨ True := .inr trivial
              clear hrow
              go_wp2_with (at_builtin; refine wpList_copied rfl (.tmp 57) (.tmp 60) 31 rfl 9 i9 (.string ByteArray.empty) 1 16 Try.underlying31 hi hz0 hz1 hz2 rfl (by decide) _ _ (0) _ (([] : List Value)) (by rfl) (by rfl) (Hrest.out _ _) (by simp) (by unfold maxLen; omega) (by omega) ?_; intro A' cap' w3 hcp; have Hcp := Lib.hid hcp; clear hcp)
              have hcg := grown_tr (World.grownBy_alloc wz (.cells #[] 9) none) Hcp.out.grown
              have HO3 := Lib.hid (HT4.out.2.2.grown (b0 := wz.heap.size) (j := 2) hcg (Nat.le_refl _))
              have Hr3 := Lib.hid ((NewRow.of_copied Hcp.out (by simp)).row own' wz.heap.size 2 (by simp))
              have hs3 : Step 1 wz own' w3 (give own' wz.heap.size 2) := ((Step.refl 1 wz own').give_ 2).grown hcg (by simp)
              have HR3 := Lib.hid (HT4.out.2.1.step hs3 (by omega))
              have Hs3 := Lib.hid (HT4.out.1.trans hs3)
              have d3 := key_cell HR3.out hlt Hlu.out
              dsimp only at d3
              clear hcg hs3 HT4 d0 Hcp
              refine wp_region_held_drew (S := fun w' => w'.cell? ⟨b, off + k * 4, none⟩ = some (.string uk)) (by kernel_rfl) (show w3.drew.cell? ⟨b, off + k * 4, none⟩ = some (.string uk) from d3) (fun hHeld => ?_)
              refine wpAnyH_take (i := 0) (v := ?_) rfl (by kernel_rfl) (by kernel_rfl) (by kernel_rfl) (fun _ _ _ h => h) (Or.inl ⟨by rfl, ?_⟩) (by assumption) ?_
              rotate_left 1
              · (intro w hSw; (try dsimp only at hSw); go_simp; try (with_reducible rfl))
              simp only [Act.put, List.getElem_toArray, List.getElem_cons_zero, List.setIfInBounds_toArray, List.set_cons_zero, List.set_cons_succ]
              refine wpAnyH_take (i := 1) (v := ?_) rfl (by kernel_rfl) (by kernel_rfl) (by kernel_rfl) (fun _ _ _ h => h) (Or.inl ⟨by rfl, ?_⟩) (by assumption) ?_
              rotate_left 1
              · (intro w hSw; (try dsimp only at hSw); go_simp; try (with_reducible rfl))
              simp only [Act.put, List.getElem_toArray, List.getElem_cons_zero, List.getElem_cons_succ, List.setIfInBounds_toArray, List.set_cons_zero, List.set_cons_succ]
              refine wpAnyH_take (i := 2) (v := ?_) rfl (by kernel_rfl) (by kernel_rfl) (by kernel_rfl) (fun _ _ _ h => h) (Or.inl ⟨by rfl, ?_⟩) (by assumption) ?_
              rotate_left 1
              · (intro w hSw; (try dsimp only at hSw); go_simp; try (with_reducible rfl))
              simp only [Act.put, List.getElem_toArray, List.getElem_cons_zero, List.getElem_cons_succ, List.setIfInBounds_toArray, List.set_cons_zero, List.set_cons_succ]
              refine wpAnyH_take (i := 3) (v := ?_) rfl (by kernel_rfl) (by kernel_rfl) (by kernel_rfl) (fun _ _ _ h => h) (Or.inl ⟨by rfl, ?_⟩) (by assumption) ?_
              rotate_left 1
              · (intro w hSw; (try dsimp only at hSw); go_simp; try (with_reducible rfl))
              simp only [Act.put, List.getElem_toArray, List.getElem_cons_zero, List.getElem_cons_succ, List.setIfInBounds_toArray, List.set_cons_zero, List.set_cons_succ]
              refine wpAnyH_take (i := 4) (v := ?_) rfl (by kernel_rfl) (by kernel_rfl) (by kernel_rfl) (fun _ _ _ h => h) (Or.inl ⟨by rfl, ?_⟩) (by assumption) ?_
              rotate_left 1
              · (intro w hSw; (try dsimp only at hSw); go_simp; try (with_reducible rfl))
              simp only [Act.put, List.getElem_toArray, List.getElem_cons_zero, List.getElem_cons_succ, List.setIfInBounds_toArray, List.set_cons_zero, List.set_cons_succ]
              refine wpAnyH_take (i := 5) (v := ?_) rfl (by kernel_rfl) (by kernel_rfl) (by kernel_rfl) (fun _ _ _ h => h) (Or.inl ⟨by rfl, ?_⟩) (by assumption) ?_
              rotate_left 1
              · (intro w hSw; (try dsimp only at hSw); go_simp; try (with_reducible rfl))
              simp only [Act.put, List.getElem_toArray, List.getElem_cons_zero, List.getElem_cons_succ, List.setIfInBounds_toArray, List.set_cons_zero, List.set_cons_succ]
              refine wpAnyH_take (i := 6) (v := ?_) rfl (by kernel_rfl) (by kernel_rfl) (by kernel_rfl) (fun _ _ _ h => h) (Or.inl ⟨by rfl, ?_⟩) (by assumption) ?_
              rotate_left 1
              · (intro w hSw; (try dsimp only at hSw); go_simp; try (with_reducible rfl))
              simp only [Act.put, List.getElem_toArray, List.getElem_cons_zero, List.getElem_cons_succ, List.setIfInBounds_toArray, List.set_cons_zero, List.set_cons_succ]
              refine wpAnyH_take (i := 7) (v := ?_) rfl (by kernel_rfl) (by kernel_rfl) (by kernel_rfl) (fun _ _ _ h => h) (Or.inl ⟨by rfl, ?_⟩) (by assumption) ?_
              rotate_left 1
              · (intro w hSw; (try dsimp only at hSw); go_simp; try (with_reducible rfl))
              simp only [Act.put, List.getElem_toArray, List.getElem_cons_zero, List.getElem_cons_succ, List.setIfInBounds_toArray, List.set_cons_zero, List.set_cons_succ]
              refine wpAnyH_take (i := 10) (v := ?_) rfl (by kernel_rfl) (by kernel_rfl) (by kernel_rfl) (fun _ _ _ h => h) (Or.inl ⟨by rfl, ?_⟩) (by assumption) ?_
              rotate_left 1
              · (intro w hSw; (try dsimp only at hSw); go_simp; try (with_reducible rfl))
              simp only [Act.put, List.getElem_toArray, List.getElem_cons_zero, List.getElem_cons_succ, List.setIfInBounds_toArray, List.set_cons_zero, List.set_cons_succ]
              refine wpAnyH_ready (rs := [8]) (by kernel_rfl) (by simp) ?_
              refine AllReadyH.cons rfl (fun K hK => ?_) AllReadyH.nil
              go_simp
              refine hK.out _ _ (by exact cell_al (w := w3.drew) d3 _) (fun hHeld => ?_)
              clear hK K
              try simp only [Act.put, List.getElem_toArray, List.getElem_cons_zero, List.getElem_cons_succ, List.setIfInBounds_toArray, List.set_cons_zero, List.set_cons_succ]
              have hF : OwnS (w3.drew.alloc (.cells #[.string uk] 9)) (give own' wz.heap.size 2) 1 9 1 (some ⟨g, 0, none⟩) j c1 ((os.take j).map Value.string) := OwnS.alloc (w := w3.drew) (HO3.out.front (by omega)) _
              have hs4 : Step 1 w3 (give own' wz.heap.size 2) (w3.drew.alloc (.cells #[.string uk] 9)) (give own' wz.heap.size 2) := ((Step.refl 1 w3 _).drewN 1).alloc _
              refine wpAnyH_ready (rs := [9]) (by kernel_rfl) (by simp) ?_
              refine AllReadyH.cons rfl (fun K hK => ?_) AllReadyH.nil
              refine step_mine rfl (.tmp 64) (.tmp 70) 31 rfl 9 i9 (.string ByteArray.empty) 1 16 Try.underlying31 hi hz0 hz1 hz2 rfl (by decide) (give own' wz.heap.size 2) 1 (some ⟨g, 0, none⟩) j c1 ((os.take j).map Value.string) (by rfl) hF (some ⟨w3.heap.size, 0, none⟩) 1 1 ([uk].map Value.string) (by rfl) (Rd.of_blk (Blk.new w3.drew 9 #[.string uk]) rfl (fun q u h => by rw [← h]; simp)) (strs_one _) (by unfold maxLen; omega) (by omega) ?_
              intro A4 c4 w4 own4 hO4 st4
              have HR4 := Lib.hid ((HR3.out.step hs4 (by omega)).step st4 (by omega))
              have Hr4 := Lib.hid ((Hr3.out.step hs4 (by omega)).step st4 (by omega))
              have Hs4 := Lib.hid ((Hs3.out.trans hs4).trans st4)
              have d4 := key_cell HR4.out hlt Hlu.out
              dsimp only at d4
              refine hK.out _ _ (by exact d4) (fun hHeld => ?_)
              clear hK K
              try simp only [Act.put, List.getElem_toArray, List.getElem_cons_zero, List.getElem_cons_succ, List.setIfInBounds_toArray, List.set_cons_zero, List.set_cons_succ]
              clear hF hs4 d3 st4 Hr3 HR3 HO3 Hs3
              refine wpAnyH_ready (rs := [11]) (by kernel_rfl) (by simp) ?_
              refine AllReadyH.cons rfl (fun K hK => ?_) AllReadyH.nil
              refine step_mine rfl (.tmp 71) (.tmp 72) 31 rfl 9 i9 (.string ByteArray.empty) 1 16 Try.underlying31 hi hz0 hz1 hz2 rfl (by decide) own4 1 A4 (j + 1) c4 ((os.take j).map Value.string ++ [uk].map Value.string) (by rfl) hO4 A' (0) cap' (([] : List Value)) (by rfl) Hr4.out.rd (by simp) (by unfold maxLen; omega) (by omega) ?_
              intro A5 c5 w5 own5 hO5 st5
              have HR5 := Lib.hid (HR4.out.step st5 (by omega))
              have Hs5 := Lib.hid (Hs4.out.trans st5)
              have d5 := key_cell HR5.out hlt Hlu.out
              dsimp only at d5
              have HO5 := Lib.hid hO5
              refine hK.out _ _ (by exact d5) (fun hHeld => ?_)
              clear hK K
              try simp only [Act.put, List.getElem_toArray, List.getElem_cons_zero, List.getElem_cons_succ, List.setIfInBounds_toArray, List.set_cons_zero, List.set_cons_succ]
              refine wpAnyH_take (i := 12) (v := ?_) rfl (by kernel_rfl) (by kernel_rfl) (by kernel_rfl) (fun _ _ _ h => h) (Or.inl ⟨by rfl, ?_⟩) (by assumption) ?_
              rotate_left 1
              · (intro w hSw; (try dsimp only at hSw); go_simp; try (with_reducible rfl))
              simp only [Act.put, List.getElem_toArray, List.getElem_cons_zero, List.getElem_cons_succ, List.setIfInBounds_toArray, List.set_cons_zero, List.set_cons_succ]
              refine wpAnyH_done (by kernel_rfl) ?_ _
              obtain ⟨g5, hg5⟩ := HO5.out.some_ (by omega)
              subst hg5
              clear hO4 hO5 st5 d4 d5 HR4 Hr4 Hs4 hHeld
              go_wp2_with fail
              go_roundw
              case rel => exact ⟨k + 1, by omega, by go_num, g5, c5, j + 1, os.take j ++ [uk], own5, rfl, Hrel, by omega, Lib.hid ⟨Hs5.out, HR5.out, by have := HO5.out; rw [List.map_append]; simpa using this⟩⟩
              case measure => simp [intOf]; omega
      · have hx1 : (x == 0) = false := by simpa using hx0
        have hx2 : decide (x = 0) = false := decide_eq_false hx0
        have hx3 : (x != 0) = true := by simpa using hx0
        go_wp2_with fail
        refine Hmay.out.mono ?_
        rintro e w2 ⟨rfl, hg2⟩
        have HT2 := Lib.hid (HT.out.grown hg2)
        have Hrel := Lib.hid (show KSet (Pk sel l (k + 1)) os ∧ os.length = a from ⟨Hos.out.1.skip Hlu.out (fun h => hx0 (Hsu.out.1 h)), Hos.out.2⟩)
        clear hg2 d0 d1 d2 d3 HT
        go_wp2_with fail
        go_roundw
        case rel => exact ⟨k + 1, by omega, by go_num, g, c1, a, os, own', rfl, Hrel, by omega, HT2⟩
        case measure => simp [intOf]; omega
    · obtain rfl : q = k := by omega
      go_wp2
      refine Hfin.out _ _ ⟨os, some ⟨g, 0, none⟩, c1, Hos.out.1, by rw [Hos.out.2]; rfl, ?_⟩
      rw [Hos.out.2]
      exact NewRow.of_mine HT.out.1 HT.out.2.2
end Go.Proofs.Ytihnldhdpiokhaa
