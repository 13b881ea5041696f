/- The walk of StoreCopies. -/
import Derived.Test.YtihnldhdpiokhaaSkeys05
import Derived.Test.YtihnldhdpiokhaaApart0
namespace Go.Proofs.Ytihnldhdpiokhaa
open Go.RowKit
set_option linter.unusedVariables false
attribute [local go_sem ↓] Go.wp_at_zero Go.wp_at_succ

theorem Rd.drop_ups {w : World} {A : Option Addr} {l : List Upd} (h : Rd w 4 A l.length (ucells l)) {k : Nat} (c : Nat) (hk : k ≤ l.length) (hc : l.length ≤ c) : Rd w 4 (if c = k then A else A.map (·.add (k * 4))) (l.length - k) (ucells (l.drop k)) := by
  refine ⟨by rw [ucells_length, List.length_drop], fun hk0 => ?_⟩
  obtain ⟨b, off, rfl, hx⟩ := h.2 (by omega)
  rw [if_neg (by omega)]
  refine ⟨b, off + k * 4, by simp [add_lit], fun j u hu => ?_⟩
  rw [Nat.add_assoc]
  refine hx _ u ?_
  conv => lhs; rw [← List.take_append_drop k l, ucells_append]
  rw [List.getElem?_append_right (by rw [ucells_length, List.length_take]; omega), ucells_length, List.length_take]
  rw [show k * 4 + j - min k l.length * 4 = j by omega]
  exact hu
theorem Rd.take_ups0 {w : World} {A : Option Addr} {l : List Upd} (h : Rd w 4 A l.length (ucells l)) {k : Nat} (c : Nat) (hk : k ≤ l.length) (hc : l.length ≤ c) : Rd w 4 (if c = 0 then A else A.map (·.add (0 * 4))) k (ucells (l.take k)) := by
  refine ⟨by rw [ucells_length, List.length_take]; omega, fun hk0 => ?_⟩
  obtain ⟨b, off, e, hx⟩ := (h.take_ups hk).2 hk0
  subst e
  rw [if_neg (by omega)]
  exact ⟨b, off, by simp [add_lit], hx⟩
theorem elem25 : Try.prog.underlying 25 = some (.slice (Try.prog.elem 25)) := by
  rw [show Try.prog.elem 25 = 38 by kernel_rfl]; exact Try.underlying25
theorem size25 (W : World) : (sizeOf (Try.prog.elem 25)).run Try.prog W = .ok 4 W := by
  rw [show Try.prog.elem 25 = 38 by kernel_rfl]; kernel_rfl
theorem run_take (A : Option Addr) (n c p : Nat) (hp : p ≤ c) (W : World) : (Instr.slice 25 (.slice A n c) none (some (.int .i64 (p : Int))) none).run Try.prog W = .ok (.slice (if c = 0 then A else A.map (·.add (0 * 4))) p c) W := by
  have h := run_slice_h W 25 A n c elem25 .i64 (p : Int) (by omega) (by omega)
  rw [h, size25]
  simp [Result.andThen, sliced]
theorem run_drop (A : Option Addr) (n c p : Nat) (hp : p ≤ n) (W : World) : (Instr.slice 25 (.slice A n c) (some (.int .i64 (p : Int))) none none).run Try.prog W = .ok (.slice (if c = p then A else A.map (·.add (p * 4))) (n - p) (c - p)) W := by
  have h := run_slice_l W 25 A n c elem25 .i64 (p : Int) (by omega) (by omega)
  rw [h, size25]
  simp [Result.andThen, sliced]
section
variable {w0 w w' : World} {g r n n' : Nat} {m m' : Vals} {X : Hold}
theorem stw_keys_new1 (h : Stw w0 g m n r m' n' X w) {ks : List ByteArray} (hk : KeysOf m ks) (hn : n ≤ 1000000) (q : Nat) (hq : ks.length = q) : Calls Try.prog 30 #[.pointer (some ⟨g, 0, none⟩)] w
    (fun e w' => ∃ A c, e = .returned (.slice A q c) ∧ NewRow 9 1 (ks.map Value.string) w A q c w') := by
  subst hq
  obtain ⟨own, hB, hb, hr, hx⟩ := h
  exact sto_keys hb hk hn
theorem stw_keys_new2 (h : Stw w0 g m n r m' n' X w) {ks : List ByteArray} (hk : KeysOf m' ks) (hn : n' ≤ 1000000) (q : Nat) (hq : ks.length = q) : Calls Try.prog 30 #[.pointer (some ⟨r, 0, none⟩)] w
    (fun e w' => ∃ A c, e = .returned (.slice A q c) ∧ NewRow 9 1 (ks.map Value.string) w A q c w') := by
  subst hq
  obtain ⟨own, hB, hb, hr, hx⟩ := h
  exact sto_keys hr hk hn
theorem NewRow.rd {e size k c : Nat} {xs : List Value} {A : Option Addr} (h : NewRow e size xs w A k c w') : Rd w' size A k xs := (h.row (fun _ => 0) _ 32 (Nat.le_refl _)).rd
end

set_option maxHeartbeats 8000000 in
set_option maxRecDepth 10000 in
theorem copies05 (A : Option Addr) (c : Nat) (l : List Upd) (at_ : Int) (w : World) (hr : Rd w 4 A l.length (ucells l)) (hw : ∀ u ∈ l, UpdWf u) (hc : l.length ≤ c) (hcm : c ≤ maxLen) :
    Calls Try.prog 9 #[.slice A l.length c, .int .i64 at_] w (BoolRet w true) := by
  have Hr := Lib.hid hr; clear hr
  have Hw := Lib.hid hw; clear hw
  obtain ⟨n, hN⟩ : ∃ n, l.length = n := ⟨_, rfl⟩
  have hgr : ∀ (g : Nat) (m : Vals) (q : Nat) (X : Hold) (W : World), Stb w g m q X W → Calls Try.prog 26 #[.slice A n c] W (BoolRet W (great05 l)) := fun g m q X W h => by
    rw [← hN]
    exact great26 A c l W (h.old Hr.out (by omega)) Hw.out
  have Hgr := Lib.hid hgr; clear hgr
  rw [hN] at hc ⊢
  have HN := Lib.hid hN; clear hN
  unfold maxLen at hcm
  go_enter Try.func9, Try.ntmps9
  go_wp2_with fail
  refine ((Pre.start w).new Kept.none).mono ?_
  rintro e w1 ⟨rfl, s1⟩
  go_wp2_with fail
  refine (awake25 w1).mono ?_
  rintro e w2 ⟨rfl, hg⟩
  have s2 := s1.grown Kept.none hg
  clear s1 hg
  go_wp2_with fail
  refine (Hgr.out _ _ _ _ _ s2).mono ?_
  rintro e w3 ⟨rfl, hg⟩
  have s3 := s2.grown Kept.none hg
  clear s2 hg
  have hawk : ∀ (K : Ending → World → Prop), (∀ e w', e = .returned (.bool true) → Stb w (w.heap.size + 1) noVals 0 (fun _ _ => True) w' → K e w') → Calls Try.prog 25 #[] w3 K := fun K hK => (awake25 w3).mono fun e w' h => hK e w' h.1 (s3.grown Kept.none h.2)
  have Hawk := Lib.hid hawk; clear hawk
  cases hgc : great05 l with
  | true =>
    go_wp2_with fail
    refine Hawk.out _ ?_
    rintro e w4 rfl s4
    clear s3
    go_wp2
    go_ret
    exact ⟨rfl, s4.end_⟩
  | false =>
    obtain ⟨hn60, hsmall⟩ := great05_small hgc
    rw [HN.out] at hn60
    clear hgc hsmall
    by_cases ha0 : at_ < 0
    · go_wp2_with fail
      refine Hawk.out _ ?_
      rintro e w4 rfl s4
      clear s3
      go_wp2
      go_ret
      exact ⟨rfl, s4.end_⟩
    by_cases han : (n : Int) < at_
    · have ha0' : decide (at_ < 0) = false := by simpa using ha0
      go_wp2_with fail
      refine Hawk.out _ ?_
      rintro e w4 rfl s4
      clear s3
      go_wp2
      go_ret
      exact ⟨rfl, s4.end_⟩
    obtain ⟨p, rfl⟩ : ∃ p : Nat, at_ = (p : Int) := ⟨at_.toNat, by omega⟩
    have hpn : p ≤ n := by omega
    have hd1 : decide ((p : Int) < 0) = false := by simp
    have hd2 : decide (n < p) = false := by simpa using hpn
    have hd3 : decide ((n : Int) < (p : Int)) = false := by simpa using hpn
    clear ha0 han Hawk
    obtain ⟨X1, hX1⟩ : ∃ X1, X1 = (if c = 0 then A else A.map (·.add (0 * 4))) := ⟨_, rfl⟩
    obtain ⟨X2, hX2⟩ : ∃ X2, X2 = (if c = p then A else A.map (·.add (p * 4))) := ⟨_, rfl⟩
    obtain ⟨nd, hnd⟩ : ∃ nd, nd = n - p := ⟨_, rfl⟩
    obtain ⟨cd, hcd⟩ : ∃ cd, cd = c - p := ⟨_, rfl⟩
    have hs1 := fun W => run_take A n c p (by omega) W
    have hs2 := fun W => run_drop A n c p hpn W
    have hrt := Hr.out.take_ups0 c (k := p) (by rw [HN.out]; exact hpn) (by rw [HN.out]; exact hc)
    have hrd := Hr.out.drop_ups c (k := p) (by rw [HN.out]; exact hpn) (by rw [HN.out]; exact hc)
    rw [HN.out] at hrd
    rw [← hX1] at hs1 hrt
    rw [← hX2] at hs2 hrd
    rw [← hnd] at hs2 hrd
    rw [← hcd] at hs2
    clear hX1 hX2 hcd
    have Hrt := Lib.hid hrt; have Hrd := Lib.hid hrd; clear hrt hrd
    have hnd60 : nd ≤ 60 := by omega
    have Hnd := Lib.hid hnd; clear hnd
    have hndl : p + nd = n := by have := Hnd.out; omega
    have Hndl := Lib.hid hndl; clear hndl
    obtain ⟨ks, hks⟩ := keys_exist l
    obtain ⟨js, hjs⟩ := keys_exist (l.take p)
    obtain ⟨q, hQ⟩ : ∃ q, ks.length = q := ⟨_, rfl⟩
    obtain ⟨z, hZ⟩ : ∃ z, js.length = z := ⟨_, rfl⟩
    have Hks := Lib.hid hks; have Hjs := Lib.hid hjs; have HQ := Lib.hid hQ; have HZ := Lib.hid hZ
    clear hks hjs hQ hZ
    go_wp2_with fail
    go_loopw [39] (fun v wr => ∃ k : Nat, k ≤ p ∧ v = .int .i64 k ∧ Stb w (w.heap.size + 1) (stOf (l.take k)) k (fun _ _ => True) wr) (fun v _ => p - (intOf v).toNat)
    case atStart => exact ⟨0, by omega, rfl, s3⟩
    case round =>
      clear s3
      obtain ⟨k, hkp, rfl, hS⟩ := hrel
      by_cases hlt : k < p
      · obtain ⟨b, off, u, rfl, hlu, d0, d1, d2, d3⟩ := upds_atn (hS.old Hrt.out (by omega)) hlt
        have hlu : l[k]? = some u := by rw [List.getElem?_take, if_pos hlt] at hlu; exact hlu
        have hwf := Hw.out u (List.mem_of_getElem? hlu)
        have hsn := stOf_take l k u hlu
        have K5 := Lib.hid (Kept.blk Kept.none 31 (by omega) wr.heap.size 38 #[.string u.key, .int .i64 u.kind, .int .i64 u.n, .string u.s])
        have s5 := hS.alloc Kept.none 38 #[.string u.key, .int .i64 u.kind, .int .i64 u.n, .string u.s]
        have hdo := fun (W : World) h => stb_do (w := W) (w0 := w) (g := w.heap.size + 1) (m := stOf (l.take k)) (n := k) h K5.out u hwf.1 hwf.2.1 (by omega)
        rw [← hsn] at hdo
        clear hS hwf hsn hlu
        obtain ⟨e0, he0⟩ : ∃ e0, mayU u = e0 := ⟨_, rfl⟩
        rw [he0] at hdo
        clear he0
        obtain ⟨uk, ukd, un, us⟩ := u
        dsimp only at d0 d1 d2 d3 s5 K5 hdo
        have Hdo := Lib.hid hdo; clear hdo
        go_wp2_with fail
        refine (Hdo.out _ s5).mono ?_
        rintro e w6 ⟨rfl, s6⟩
        clear s5 d0 d1 d2 d3
        have Hend := Lib.hid (s6.weaken (Y := fun _ _ => True) (fun _ _ h => trivial))
        clear s6
        go_wp2_with fail
        go_roundw
        case rel => exact ⟨k + 1, by omega, by go_num, Hend.out⟩
        case measure => simp [intOf]; omega
      · obtain rfl : k = p := by omega
        go_wp2_with fail
        refine (hS.copy Kept.none).mono ?_
        rintro e w5 ⟨rfl, s5⟩
        obtain ⟨wo, rfl⟩ : ∃ wo, wo = wr := ⟨_, rfl⟩
        have s5 : Stw w (w.heap.size + 1) (stOf (l.take (k + 0))) (k + 0) (wo.heap.size + 1) (stOf (l.take k)) k (fun _ _ => True) w5 := s5
        clear hS
        go_wp2_with fail
        go_loopw [55] (fun v wx => ∃ j : Nat, j ≤ nd ∧ v = .int .i64 j ∧ Stw w (w.heap.size + 1) (stOf (l.take (k + j))) (k + j) (wo.heap.size + 1) (stOf (l.take k)) k (fun _ _ => True) wx) (fun v _ => nd - (intOf v).toNat)
        case atStart => exact ⟨0, by omega, rfl, s5⟩
        case round =>
          clear s5
          obtain ⟨j, hjn, rfl, hS⟩ := hrel
          by_cases hlt : j < nd
          · obtain ⟨b, off, u, rfl, hlu, d0, d1, d2, d3⟩ := upds_atn (hS.old Hrd.out (by omega)) hlt
            have hlu : l[k + j]? = some u := by rw [List.getElem?_drop] at hlu; exact hlu
            have hwf := Hw.out u (List.mem_of_getElem? hlu)
            have hsn := stOf_take l (k + j) u hlu
            have K5 := Lib.hid (Kept.blk Kept.none 31 (by omega) wr.heap.size 38 #[.string u.key, .int .i64 u.kind, .int .i64 u.n, .string u.s])
            have s5 := hS.alloc Kept.none 38 #[.string u.key, .int .i64 u.kind, .int .i64 u.n, .string u.s]
            have hdo := fun (W : World) h => stw_do1 (w := W) (w0 := w) (g := w.heap.size + 1) (r := wo.heap.size + 1) (m := stOf (l.take (k + j))) (m' := stOf (l.take k)) (n := k + j) (n' := k) h K5.out u hwf.1 hwf.2.1 (by have := Hndl.out; omega)
            rw [← hsn] at hdo
            clear hS hwf hsn hlu
            obtain ⟨e0, he0⟩ : ∃ e0, mayU u = e0 := ⟨_, rfl⟩
            rw [he0] at hdo
            clear he0
            obtain ⟨uk, ukd, un, us⟩ := u
            dsimp only at d0 d1 d2 d3 s5 K5 hdo
            have Hdo := Lib.hid hdo; clear hdo
            go_wp2_with fail
            refine (Hdo.out _ s5).mono ?_
            rintro e w6 ⟨rfl, s6⟩
            clear s5 d0 d1 d2 d3
            have Hend := Lib.hid (s6.weaken (Y := fun _ _ => True) (fun _ _ h => trivial))
            clear s6
            go_wp2_with fail
            go_roundw
            case rel => exact ⟨j + 1, by omega, by go_num, Hend.out⟩
            case measure => simp [intOf]; omega
          · obtain rfl : j = nd := by omega
            rw [Hndl.out, List.take_of_length_le (by rw [HN.out]; exact Nat.le_refl _)] at hS
            obtain ⟨wp, rfl⟩ : ∃ wp, wp = wr := ⟨_, rfl⟩
            have hE0 := hS.drewN Kept.none 1
            clear hS
            have hE0 : Stw w (w.heap.size + 1) (stOf l) n (wo.heap.size + 1) (stOf (l.take k)) k (fun _ _ => True) wp.drew := hE0
            have hk1 : ∀ W, Stw w (w.heap.size + 1) (stOf l) n (wo.heap.size + 1) (stOf (l.take k)) k (fun _ _ => True) W → Calls Try.prog 29 #[.slice X1 k c] W (fun e w' => ∃ A' c', e = .returned (.slice A' z c') ∧ NewRow 9 1 (js.map Value.string) W A' z c' w') := fun W h =>
              keys29n X1 c k z (l.take k) W (by rw [List.length_take, HN.out]; omega) (h.old Hrt.out (by omega)) (fun u hu => Hw.out u (List.mem_of_mem_take hu)) (by omega) Hjs.out HZ.out
            have hk2 : ∀ W, Stw w (w.heap.size + 1) (stOf l) n (wo.heap.size + 1) (stOf (l.take k)) k (fun _ _ => True) W → Calls Try.prog 29 #[.slice A n c] W (fun e w' => ∃ A' c', e = .returned (.slice A' q c') ∧ NewRow 9 1 (ks.map Value.string) W A' q c' w') := fun W h =>
              keys29n A c n q l W HN.out (by have := h.old Hr.out (by omega); rwa [HN.out] at this) Hw.out (by omega) Hks.out HQ.out
            have Hk1 := Lib.hid hk1; have Hk2 := Lib.hid hk2; clear hk1 hk2
            have hq60 : q ≤ n := by have := hE0.count1 Hks.out; rw [HQ.out] at this; exact this
            have hz60 : z ≤ k := by obtain ⟨_, _, _, ⟨_, _, _, _, hm, _⟩, _⟩ := hE0; have := hm.count Hjs.out; rw [HZ.out] at this; exact this
            go_wp2_with fail
            go_region_held3 (fun w' => True) (trivial)
             (first
              | (go_at_call 31
                 with_reducible refine (same31 A4 A5 q c4 c5 ks w10 r4 r5 (by omega)).mono ?_
                 rintro e w11 ⟨rfl, mq2, rfl⟩
                 have hE6 := hE5.drewN Kept.none mq2)
              | (go_at_call 29
                 with_reducible refine (Hk2.out w9 hE4).mono ?_
                 rintro e w10 ⟨A5, c5, rfl, hnr4⟩
                 have hE5 := hE4.grown Kept.none hnr4.grown
                 have r4 := r4a.kept hnr4.grown (by omega)
                 have r5 := hnr4.rd
                 clear hnr4)
              | (go_at_call 30
                 with_reducible refine (stw_keys_new1 hE3 Hks.out (by omega) q HQ.out).mono ?_
                 rintro e w9 ⟨A4, c4, rfl, hnr3⟩
                 have hE4 := hE3.grown Kept.none hnr3.grown
                 have r4a := hnr3.rd
                 clear hnr3)
              | (go_at_call 31
                 with_reducible refine (same31 A2 A3 z c2 c3 js w7 r2 r3 (by omega)).mono ?_
                 rintro e w8 ⟨rfl, mq1, rfl⟩
                 have hE3 := hE2.drewN Kept.none mq1)
              | (go_at_call 29
                 with_reducible refine (Hk1.out w6 hE1).mono ?_
                 rintro e w7 ⟨A3, c3, rfl, hnr2⟩
                 have hE2 := hE1.grown Kept.none hnr2.grown
                 have r2 := r2a.kept hnr2.grown (by omega)
                 have r3 := hnr2.rd
                 clear hnr2)
              | (go_at_call 30
                 with_reducible refine (stw_keys_new2 hE0 Hjs.out (by omega) z HZ.out).mono ?_
                 rintro e w6 ⟨A2, c2, rfl, hnr1⟩
                 have hE1 := hE0.grown Kept.none hnr1.grown
                 have r2a := hnr1.rd
                 clear hnr1))
            clear hE0 hE1 hE2 hE3 hE4 hE5 r2 r2a r3 r4 r4a r5
            go_wp2_with fail
            go_loopw [81] (fun v wx => ∃ i : Nat, i ≤ n ∧ v = .int .i64 i ∧ Stw w (w.heap.size + 1) (stOf l) n (wo.heap.size + 1) (stOf (l.take k)) k (fun _ _ => True) wx) (fun v _ => n - (intOf v).toNat)
            case atStart => exact ⟨0, by omega, rfl, hE6⟩
            case round =>
              clear hE6
              obtain ⟨i, hin, rfl, hS⟩ := hrel
              by_cases hlt3 : i < n
              · obtain ⟨b, off, u, rfl, hlu, d0, d1, d2, d3⟩ := upds_at (hS.old Hr.out (by omega)) (k := i) (by rw [HN.out]; exact hlt3)
                have hwf := Hw.out u (List.mem_of_getElem? hlu)
                have hukl := hwf.1
                have K5 := Lib.hid (Kept.blk Kept.none 31 (by omega) wr.heap.size 38 #[.string u.key, .int .i64 u.kind, .int .i64 u.n, .string u.s])
                have s5 := hS.alloc Kept.none 38 #[.string u.key, .int .i64 u.kind, .int .i64 u.n, .string u.s]
                clear hS hwf hlu
                obtain ⟨uk, ukd, un, us⟩ := u
                dsimp only at d0 d1 d2 d3 s5 K5 hukl
                have Hukl := Lib.hid hukl; clear hukl
                obtain ⟨v, hv⟩ : ∃ v, stOf (l.take k) uk = v := ⟨_, rfl⟩
                have hg28 : ∀ (W : World) (X : Hold), Stw w (w.heap.size + 1) (stOf l) n (wo.heap.size + 1) (stOf (l.take k)) k X W → Calls Try.prog 28 #[.string uk, .slice X1 k c] W (NewRet W (.agg #[.int .i64 v.kind, .int .i64 v.n, .string v.s])) := fun W X h =>
                  get28n uk X1 c k (l.take k) W v (by rw [List.length_take, HN.out]; omega) (h.old Hrt.out (by omega)) (fun u hu => Hw.out u (List.mem_of_mem_take hu)) Hukl.out (by omega) hv
                have Hg28 := Lib.hid hg28; clear hg28
                have Hv := Lib.hid hv; clear hv
                obtain ⟨v1, v2, v3⟩ := v
                go_wp2_with fail
                obtain ⟨W5, hW5⟩ : ∃ W5, W5 = wr.alloc (.cells #[.string uk, .int .i64 ukd, .int .i64 un, .string us] 38) := ⟨_, rfl⟩
                rw [← hW5] at s5 ⊢
                clear hW5 d0 d1 d2 d3
                have hE0 : Stw w (w.heap.size + 1) (stOf l) n (wo.heap.size + 1) (stOf (l.take k)) k (fun w' own => True ∧ own wr.heap.size = 31 ∧ Blk w' wr.heap.size 38 #[.string uk, .int .i64 ukd, .int .i64 un, .string us]) W5.drew := s5.drewN K5.out 1
                have hf : ∀ (W : World), Stw w (w.heap.size + 1) (stOf l) n (wo.heap.size + 1) (stOf (l.take k)) k (fun w' own => True ∧ own wr.heap.size = 31 ∧ Blk w' wr.heap.size 38 #[.string uk, .int .i64 ukd, .int .i64 un, .string us]) W →
                    W.cell? ⟨wr.heap.size, 0, none⟩ = some (.string uk) := fun W h => (h.blk (fun _ _ h => h.2.2)).cell 0
                have Hf := Lib.hid hf; clear hf
                have y0 := Hf.out _ hE0
                clear s5
                go_region_held3 (fun w' => w'.cell? ⟨wr.heap.size, 0, none⟩ = some (.string uk)) (with_reducible assumption)
                 (first
                  | (go_at_call 28
                     with_reducible refine (Hg28.out w6 _ hE1).mono ?_
                     rintro e w7 ⟨rfl, hg7⟩
                     have hE2 := hE1.grown K5.out hg7
                     have y2 := Hf.out _ hE2
                     clear hg7)
                  | (go_at_call 21
                     with_reducible refine (stw_get2 hE0 K5.out uk Hukl.out ⟨v1, v2, v3⟩ Hv.out).mono ?_
                     rintro e w6 ⟨rfl, hE1⟩
                     have y1 := Hf.out _ hE1))
                have Hend := Lib.hid (hE2.weaken (Y := fun _ _ => True) (fun _ _ _ => trivial))
                clear hE0 hE1 hE2 y0 y1 y2
                go_wp2_with fail
                go_roundw
                case rel => exact ⟨i + 1, by omega, by go_num, Hend.out⟩
                case measure => simp [intOf]; omega
              · obtain rfl : i = n := by omega
                have Hend := Lib.hid hS.end_
                clear hS
                go_wp2
                go_ret
                exact ⟨rfl, Hend.out⟩
end Go.Proofs.Ytihnldhdpiokhaa
