/- The walk of StorePlays. -/
import Derived.Test.YtihnldhdpiokhaaAw05
import Derived.Test.YtihnldhdpiokhaaGet05
namespace Go.Proofs.Ytihnldhdpiokhaa
open Go.RowKit
set_option linter.unusedVariables false
attribute [local go_sem ↓] Go.wp_at_zero Go.wp_at_succ

theorem Rd.take_ups {w : World} {A : Option Addr} {l : List Upd} (h : Rd w 4 A l.length (ucells l)) {k : Nat} (hk : k ≤ l.length) : Rd w 4 A k (ucells (l.take k)) := by
  refine ⟨by rw [ucells_length, List.length_take]; omega, fun hk0 => ?_⟩
  obtain ⟨b, off, e, hc⟩ := h.2 (by omega)
  refine ⟨b, off, e, fun j u hu => hc j u ?_⟩
  conv => lhs; rw [← List.take_append_drop k l, ucells_append]
  exact List.getElem?_append_left (List.getElem?_eq_some_iff.1 hu).1 ▸ hu
/-- the reference's Get, the list's length under a name -/
theorem get28n (ky : ByteArray) (A : Option Addr) (c n : Nat) (l : List Upd) (w : World) (v : Val) (hl : l.length = n) (h : Rd w 4 A n (ucells l)) (hw : ∀ u ∈ l, UpdWf u) (hk : ky.size ≤ maxLen) (hn : n ≤ 1000000) (hv : stOf l ky = v) :
    Calls Try.prog 28 #[.string ky, .slice A n c] w (NewRet w (.agg #[.int .i64 v.kind, .int .i64 v.n, .string v.s])) := by
  subst hl; subst hv
  exact get28 ky A c l w h hw hk hn

set_option maxHeartbeats 8000000 in
set_option maxRecDepth 10000 in
theorem plays05 (A : Option Addr) (c : Nat) (l : List Upd) (key : ByteArray) (w : World) (hr : Rd w 4 A l.length (ucells l)) (hw : ∀ u ∈ l, UpdWf u) (hc : l.length ≤ c) (hcm : c ≤ maxLen) (hk : key.size ≤ maxLen) :
    Calls Try.prog 5 #[.slice A l.length c, .string key] w (BoolRet w true) := by
  have Hr := Lib.hid hr; clear hr
  have Hw := Lib.hid hw; clear hw
  have Hk := Lib.hid hk
  obtain ⟨n, hN⟩ : ∃ n, l.length = n := ⟨_, rfl⟩
  have hgr : ∀ (g : Nat) (m : Vals) (q : Nat) (X : Hold) (W : World), Stb w g m q X W → Calls Try.prog 26 #[.slice A n c] W (BoolRet W (great05 l)) := fun g m q X W h => by
    rw [← hN]
    exact great26 A c l W (h.old Hr.out (by omega)) Hw.out
  have Hgr := Lib.hid hgr; clear hgr
  rw [hN] at hc ⊢
  have HN := Lib.hid hN; clear hN
  unfold maxLen at hk hcm
  go_enter Try.func5, Try.ntmps5
  go_wp2_with fail
  refine ((Pre.start w).new Kept.none).mono ?_
  rintro e w1 ⟨rfl, s1⟩
  go_wp2_with fail
  refine (awake25 w1).mono ?_
  rintro e w2 ⟨rfl, hg⟩
  have s2 := s1.grown Kept.none hg
  clear s1 hg
  go_wp2_with fail
  refine (Hgr.out _ _ _ _ _ s2).mono ?_
  rintro e w3 ⟨rfl, hg⟩
  have s3 := s2.grown Kept.none hg
  clear s2 hg
  cases hgc : great05 l with
  | true =>
    go_wp2_with fail
    refine (awake25 w3).mono ?_
    rintro e w4 ⟨rfl, hg⟩
    have s4 := s3.grown Kept.none hg
    clear s3 hg
    go_wp2
    go_ret
    exact ⟨rfl, s4.end_⟩
  | false =>
    obtain ⟨hn60, hsmall⟩ := great05_small hgc
    rw [HN.out] at hn60
    clear hgc hsmall
    by_cases hk100 : 100 < key.size
    · go_wp2_with fail
      refine (awake25 w3).mono ?_
      rintro e w4 ⟨rfl, hg⟩
      have s4 := s3.grown Kept.none hg
      clear s3 hg
      go_wp2
      go_ret
      exact ⟨rfl, s4.end_⟩
    · go_wp2_with fail
      go_loopw [27] (fun v wr => ∃ k : Nat, k ≤ n ∧ v = .int .i64 k ∧ Stb w (w.heap.size + 1) (stOf (l.take k)) k (fun _ _ => True) wr) (fun v _ => n - (intOf v).toNat)
      case atStart => exact ⟨0, by omega, rfl, s3⟩
      case round =>
        clear s3
        obtain ⟨k, hkn, rfl, hS⟩ := hrel
        by_cases hlt : k < n
        · obtain ⟨b, off, u, rfl, hlu, d0, d1, d2, d3⟩ := upds_at (hS.old Hr.out (by omega)) (k := k) (by rw [HN.out]; exact hlt)
          have hwf := Hw.out u (List.mem_of_getElem? hlu)
          have hsn := stOf_take l k u hlu
          obtain ⟨ux, hux⟩ : ∃ ux, ux = u := ⟨_, rfl⟩
          have hdo := fun g W h => stb_do (w0 := w) (g := g) (w := W) (m := stOf (l.take k)) (n := k) (X := fun w' own => True ∧ own wr.heap.size = 31 ∧ Blk w' wr.heap.size 38 #[.string u.key, .int .i64 u.kind, .int .i64 u.n, .string u.s]) h (Kept.blk Kept.none 31 (by omega) wr.heap.size 38 #[.string u.key, .int .i64 u.kind, .int .i64 u.n, .string u.s]) u hwf.1 hwf.2.1 (by omega)
          rw [← hsn] at hdo
          have hmay := fun W => may27 u W hwf.1 hwf.2.1
          obtain ⟨e0, he0⟩ : ∃ e0, mayU u = e0 := ⟨_, rfl⟩
          rw [he0] at hmay hdo
          have s5 := hS.alloc Kept.none 38 #[.string u.key, .int .i64 u.kind, .int .i64 u.n, .string u.s]
          have K5 := Lib.hid (Kept.blk Kept.none 31 (by omega) wr.heap.size 38 #[.string u.key, .int .i64 u.kind, .int .i64 u.n, .string u.s])
          have hukl := hwf.1
          clear hS hwf hsn he0 hux hlu
          obtain ⟨uk, ukd, un, us⟩ := u
          dsimp only at d0 d1 d2 d3 s5 K5 hdo hmay hukl
          have Hdo := Lib.hid hdo; clear hdo
          have Hmay := Lib.hid hmay; clear hmay
          have Hukl := Lib.hid hukl; clear hukl
          obtain ⟨m1, hm1⟩ : ∃ m1, stOf (l.take (k + 1)) = m1 := ⟨_, rfl⟩
          have hg28 : ∀ (g : Nat) (q : Nat) (X : Hold) (W : World) (ky : ByteArray) (hky : ky.size ≤ maxLen) (v : Val), m1 ky = v → Stb w g m1 q X W → Calls Try.prog 28 #[.string ky, .slice (some ⟨b, off, none⟩) (k + 1) c] W (NewRet W (.agg #[.int .i64 v.kind, .int .i64 v.n, .string v.s])) := fun g q X W ky hky v hv h =>
            get28n ky _ c (k + 1) (l.take (k + 1)) W v (by rw [List.length_take, HN.out]; omega) ((h.old Hr.out (by omega)).take_ups (by rw [HN.out]; omega)) (fun u hu => Hw.out u (List.mem_of_mem_take hu)) hky (by omega) (by rw [hm1]; exact hv)
          rw [hm1] at Hdo
          have Hg28 := Lib.hid hg28; clear hg28
          have Hm1 := Lib.hid hm1; clear hm1
          obtain ⟨v, hv⟩ : ∃ v, m1 uk = v := ⟨_, rfl⟩
          obtain ⟨z, hz⟩ : ∃ z, m1 key = z := ⟨_, rfl⟩
          have Hv := Lib.hid hv; clear hv
          have Hz := Lib.hid hz; clear hz
          obtain ⟨v1, v2, v3⟩ := v
          obtain ⟨z1, z2, z3⟩ := z
          go_wp2_with fail
          obtain ⟨W5, hW5⟩ : ∃ W5, W5 = wr.alloc (.cells #[.string uk, .int .i64 ukd, .int .i64 un, .string us] 38) := ⟨_, rfl⟩
          rw [← hW5] at s5 ⊢
          clear hW5 d0 d1 d2 d3
          have hE0 := s5.drewN K5.out 1
          have hb5 := hE0.blk (fun _ _ h => h.2.2)
          have y0 : W5.drew.cell? ⟨wr.heap.size, 0, none⟩ = some (.string uk) := hb5.cell 0
          have y1 : W5.drew.cell? ⟨wr.heap.size, 1, none⟩ = some (.int .i64 ukd) := hb5.cell 1
          have y2 : W5.drew.cell? ⟨wr.heap.size, 2, none⟩ = some (.int .i64 un) := hb5.cell 2
          have y3 : W5.drew.cell? ⟨wr.heap.size, 3, none⟩ = some (.string us) := hb5.cell 3
          clear hb5 s5
          have hw1 : IntKind.i64.wrap ((k : Int) + 1) = (k : Int) + 1 := wrapI _ (by omega)
          have hw2 : (0 : Int) ≤ (k : Int) + 1 := by omega
          have hw3 : ((k : Int) + 1).toNat = k + 1 := by omega
          have hw4 : (k : Int) + 1 ≤ (c : Int) := by omega
          have hf : ∀ (W : World) (m : Vals) (q : Nat), Stb w (w.heap.size + 1) m q (fun w' own => True ∧ own wr.heap.size = 31 ∧ Blk w' wr.heap.size 38 #[.string uk, .int .i64 ukd, .int .i64 un, .string us]) W →
            W.cell? ⟨wr.heap.size, 0, none⟩ = some (.string uk) ∧ W.cell? ⟨wr.heap.size, 1, none⟩ = some (.int .i64 ukd) ∧ W.cell? ⟨wr.heap.size, 2, none⟩ = some (.int .i64 un) ∧ W.cell? ⟨wr.heap.size, 3, none⟩ = some (.string us) := fun W m q h => by
            have b1 := h.blk (fun _ _ h => h.2.2)
            exact ⟨b1.cell 0, b1.cell 1, b1.cell 2, b1.cell 3⟩
          have Hf := Lib.hid hf; clear hf
          go_region_held3 (fun w' => w'.cell? ⟨wr.heap.size, 0, none⟩ = some (.string uk) ∧ w'.cell? ⟨wr.heap.size, 1, none⟩ = some (.int .i64 ukd) ∧ w'.cell? ⟨wr.heap.size, 2, none⟩ = some (.int .i64 un) ∧ w'.cell? ⟨wr.heap.size, 3, none⟩ = some (.string us)) (refine ⟨?_, ?_, ?_, ?_⟩ <;> with_reducible assumption)
           (first
            | (go_at_call 28
               with_reducible refine (Hg28.out _ _ _ w10 key Hk.out ⟨z1, z2, z3⟩ Hz.out hE5).mono ?_
               rintro e w11 ⟨rfl, hg11⟩
               have hE6 := hE5.grown K5.out hg11
               obtain ⟨i0, i1, i2, i3⟩ := Hf.out _ _ _ hE6
               clear hg11)
            | (go_at_call 21
               with_reducible refine (stb_get hE4 K5.out key Hk.out ⟨z1, z2, z3⟩ Hz.out).mono ?_
               rintro e w10 ⟨rfl, hE5⟩
               obtain ⟨h0, h1, h2, h3⟩ := Hf.out _ _ _ hE5)
            | (go_at_call 28
               with_reducible refine (Hg28.out _ _ _ w8 uk Hukl.out ⟨v1, v2, v3⟩ Hv.out hE3).mono ?_
               rintro e w9 ⟨rfl, hg9⟩
               have hE4 := hE3.grown K5.out hg9
               obtain ⟨g0, g1, g2, g3⟩ := Hf.out _ _ _ hE4
               clear hg9)
            | (go_at_call 21
               with_reducible refine (stb_get hE2 K5.out uk Hukl.out ⟨v1, v2, v3⟩ Hv.out).mono ?_
               rintro e w8 ⟨rfl, hE3⟩
               obtain ⟨f0, f1, f2, f3⟩ := Hf.out _ _ _ hE3)
            | (go_at_call 27
               with_reducible refine (Hmay.out w6).mono ?_
               rintro e w7 ⟨rfl, hg7⟩
               have hE2 := hE1.grown K5.out hg7
               obtain ⟨x0, x1, x2, x3⟩ := Hf.out _ _ _ hE2
               clear hg7)
            | (go_at_call 20
               with_reducible refine (Hdo.out _ W5.drew hE0).mono ?_
               rintro e w6 ⟨rfl, hE1⟩
               obtain ⟨j0, j1, j2, j3⟩ := Hf.out _ _ _ hE1))
          have hend := hE6.weaken (Y := fun _ _ => True) (fun _ _ _ => trivial)
          rw [← Hm1.out] at hend
          have Hend := Lib.hid hend; clear hend hE0 hE1 hE2 hE3 hE4 hE5 hE6
          go_wp2_with fail
          go_roundw
          case rel => exact ⟨k + 1, by omega, by go_num, Hend.out⟩
          case measure => simp [intOf]; omega
        · obtain rfl : k = n := by omega
          rw [List.take_of_length_le (by rw [HN.out]; exact Nat.le_refl _)] at hS
          obtain ⟨z, hz⟩ : ∃ z, stOf l key = z := ⟨_, rfl⟩
          have hg28 := fun W (h : Stb w (w.heap.size + 1) (stOf l) k (fun _ _ => True) W) => get28n key A c k l W z HN.out (by have := h.old Hr.out (by omega); rwa [HN.out] at this) Hw.out Hk.out (by omega) hz
          have Hg28 := Lib.hid hg28; clear hg28
          have Hz := Lib.hid hz; clear hz
          obtain ⟨z1, z2, z3⟩ := z
          go_wp2_with fail
          refine (stb_get hS Kept.none key Hk.out ⟨z1, z2, z3⟩ Hz.out).mono ?_
          rintro e w4 ⟨rfl, s4⟩
          go_wp2_with fail
          refine (Hg28.out w4 s4).mono ?_
          rintro e w5 ⟨rfl, hg5⟩
          have s5 := s4.grown Kept.none hg5
          clear hS s4 hg5
          go_wp2
          go_ret
          exact ⟨rfl, s5.end_⟩
end Go.Proofs.Ytihnldhdpiokhaa
