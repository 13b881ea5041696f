/- The walks of layer 8's great and what it calls. -/
import Derived.Test.YtihnldhdpiokhaaAw08
namespace Go.Proofs.Ytihnldhdpiokhaa
open Go.RowKit
set_option linter.unusedVariables false

def bigR (r : Rnd) : Bool := decide (20 < r.us.length) || bigL r.us
def bigRs (l : List Rnd) : Bool := decide (40 < l.length) || l.any bigR
def great08 (os : List Upd) (rs : List Rnd) : Bool := ((bigL os || decide (20 < os.length)) || bigRs rs) || decide (12 < rs.length)
theorem bigRs_hit {l : List Rnd} {k : Nat} {u : Rnd} (hk : l[k]? = some u) (h : bigR u = true) : bigRs l = true := by
  simp only [bigRs, Bool.or_eq_true, List.any_eq_true]
  exact .inr ⟨u, List.mem_of_getElem? hk, h⟩
theorem bigRs_miss {l : List Rnd} (hl : l.length ≤ 40) (h : ∀ (j : Nat) (u : Rnd), l[j]? = some u → bigR u = false) : bigRs l = false := by
  simp only [bigRs, Bool.or_eq_false_iff, decide_eq_false_iff_not, List.any_eq_false]
  refine ⟨by omega, fun a ha => ?_⟩
  obtain ⟨j, hj⟩ := List.mem_iff_getElem?.1 ha
  rw [h j a hj]
  decide
theorem flat_small {l : List Rnd} (h : ∀ r ∈ l, r.us.length ≤ 20) : (flat l).length ≤ l.length * 20 := by
  induction l with
  | nil => simp [flat]
  | cons r l ih =>
    rw [show flat (r :: l) = r.us ++ flat l from rfl, List.length_append, List.length_cons]
    have h1 := h r (by simp)
    have h2 := ih (fun x hx => h x (by simp [hx]))
    omega
theorem great08_small {os : List Upd} {rs : List Rnd} (h : great08 os rs = false) : os.length ≤ 20 ∧ rs.length ≤ 12 ∧ (∀ r ∈ rs, r.us.length ≤ 20) ∧ (flat rs).length ≤ 240 := by
  simp only [great08, bigRs, Bool.or_eq_false_iff, decide_eq_false_iff_not, List.any_eq_false] at h
  have hr : ∀ r ∈ rs, r.us.length ≤ 20 := fun r hr => by
    have := h.1.2.2 r hr
    simp only [bigR, Bool.or_eq_true, decide_eq_true_eq] at this
    omega
  have hf := flat_small hr
  exact ⟨by omega, by omega, hr, by omega⟩
/-- open updates and rounds, as they lie; nothing of their number is told -/
structure Args0 (w : World) (A : Option Addr) (n : Nat) (os : List Upd) (B : Option Addr) (p : Nat) (rs : List Rnd) : Prop where
  lo : os.length = n
  ho : Rd w 4 A n (ucells os)
  wo : ∀ u ∈ os, UpdWf u
  lr : rs.length = p
  hr : Rd w 3 B p (rcells rs)
  wr : ∀ r ∈ rs, RndWf w r
section
variable {w w0 w' : World} {A B : Option Addr} {n p : Nat} {os : List Upd} {rs : List Rnd}
theorem Args0.grown (h : Args0 w A n os B p rs) (hg : w.grownBy w' none) : Args0 w' A n os B p rs :=
  ⟨h.lo, h.ho.kept hg (by omega), h.wo, h.lr, h.hr.kept hg (by omega), fun r hr => (h.wr r hr).kept hg⟩
theorem Args0.small (h : Args0 w A n os B p rs) (hg : great08 os rs = false) : ArgsAt w A n os B p rs := by
  obtain ⟨h1, h2, h3, h4⟩ := great08_small hg
  exact ⟨h.lo, h.ho, h.wo, h.lr, h.hr, h.wr, by rw [List.length_append]; omega, by rw [← h.lr]; omega⟩
theorem great48 (r : Rnd) (hr : RndWf w r) (m : Nat) (hm : r.us.length = m) : Calls Try.prog 48 #[.agg #[.int .i64 r.origin, .int .i64 r.number, .slice r.A m r.c]] w (BoolRet w (bigR r)) := by
  have hg0 := World.grownBy_alloc w (.cells #[.int .i64 r.origin, .int .i64 r.number, .slice r.A m r.c] 27) none
  have hgr := great38 r.A r.c r.us _ (hr.2.2.1.kept hg0 (by omega)) hr.2.2.2
  rw [hm] at hgr
  have hx : ∀ (e : Ending) (w' : World) (b : Bool), e = .returned (.bool b) → (decide (20 < m) || bigL r.us) = b → w.grownBy w' none → BoolRet w (bigR r) e w' := fun e w' b h1 h2 h3 => by rw [bigR, hm, h2]; exact ⟨h1, h3⟩
  have Hx := Lib.hid hx; have Hgr := Lib.hid hgr; have Hg0 := Lib.hid hg0
  clear hx hgr hg0 hr hm
  generalize hR : BoolRet w (bigR r) = R at *
  clear hR
  obtain ⟨bb, hbb⟩ : ∃ bb, bigL r.us = bb := ⟨_, rfl⟩
  rw [hbb] at Hgr Hx
  clear hbb
  obtain ⟨ro, rn, rA, rc, us⟩ := r
  dsimp only at Hgr Hg0 ⊢
  by_cases h20 : 20 < m
  · go_enter Try.func48, Try.ntmps48
    go_wp2
    exact Hx.out _ _ true (by rfl) (by simp [h20]) Hg0.out
  · go_enter Try.func48, Try.ntmps48
    go_wp2_with fail
    refine Hgr.out.mono ?_
    rintro e w2 ⟨rfl, hg2⟩
    have Hg2 := Lib.hid (grown_tr Hg0.out hg2); clear hg2
    go_wp2
    refine Hx.out _ _ _ rfl ?_ Hg2.out
    congr 1
    rw [Bool.eq_iff_iff]
    simp only [decide_eq_true_eq]
    omega
set_option maxHeartbeats 2000000 in
theorem great39 (B : Option Addr) (d p : Nat) (hp : rs.length = p) (hr : Rd w 3 B p (rcells rs)) (hwr : ∀ r ∈ rs, RndWf w r) : Calls Try.prog 39 #[.slice B p d] w (BoolRet w (bigRs rs)) := by
  have H := Lib.hid hr; have Hw := Lib.hid hwr; clear hr hwr
  by_cases hn : 40 < p
  · have hg : bigRs rs = true := by simp [bigRs, hp, hn]
    rw [hg]
    clear hg hp
    go_enter Try.func39, Try.ntmps39
    go_wp2
    go_ret
    exact ⟨rfl, World.grownBy.refl _ _⟩
  · have hx : ∀ (e : Ending) (w' : World) (b : Bool), e = .returned (.bool b) → bigRs rs = b → w.grownBy w' none → BoolRet w (bigRs rs) e w' := fun e w' b h1 h2 h3 => by rw [h2]; exact ⟨h1, h3⟩
    have Hx := Lib.hid hx; have HN := Lib.hid hp; clear hx hp
    generalize hR : BoolRet w (bigRs rs) = R at *
    clear hR
    go_enter Try.func39, Try.ntmps39
    go_wp2
    go_loopw [3] (fun v wr => ∃ k : Nat, k ≤ p ∧ v = .int .i64 k ∧ (∀ (j : Nat) (u : Rnd), rs[j]? = some u → j < k → bigR u = false) ∧ w.grownBy wr none) (fun v _ => p - (intOf v).toNat)
    case atStart => exact ⟨0, by omega, rfl, fun j a hj h => absurd h (by omega), World.grownBy.refl _ _⟩
    case round =>
      obtain ⟨k, hk, rfl, hall, hg⟩ := hrel
      have Hall := Lib.hid hall; clear hall
      by_cases hlt : k < p
      · obtain ⟨b, off, r, rfl, hlu, c0, c1, c2⟩ := rnds_at H.out hlt
        have hwf := (Hw.out r (List.mem_of_getElem? hlu)).kept hg
        have d0 := (World.grownBy.cell hg c0 (by simp))
        have d1 := (World.grownBy.cell hg c1 (by simp))
        have d2 := (World.grownBy.cell hg c2 (by simp))
        clear c0 c1 c2
        have Hlu := Lib.hid hlu; clear hlu
        have Hg := Lib.hid hg; clear hg
        obtain ⟨m, hm⟩ : ∃ m, r.us.length = m := ⟨_, rfl⟩
        have hgr := great48 r hwf m hm
        rw [hm] at d2
        have Hgr := Lib.hid hgr; clear hgr hwf hm
        obtain ⟨bb, hbb⟩ : ∃ bb, bigR r = bb := ⟨_, rfl⟩
        rw [hbb] at Hgr
        have Hbb := Lib.hid hbb; clear hbb
        obtain ⟨ro, rn, rA, rc, us⟩ := r
        dsimp only at d0 d1 d2 Hgr
        cases bb with
        | true =>
          go_wp2_with fail
          refine Hgr.out.mono ?_
          rintro e w2 ⟨rfl, hg2⟩
          have Hg2 := Lib.hid hg2; clear hg2
          go_wp2
          exact Hx.out _ _ true (by rfl) (bigRs_hit Hlu.out Hbb.out) (grown_tr Hg.out Hg2.out)
        | false =>
          have hs : ∀ (i : Nat) (u : Rnd), rs[i]? = some u → i < k + 1 → bigR u = false := fun i u' hi h => by
            rcases Nat.lt_or_ge i k with h' | h'
            · exact Hall.out i u' hi h'
            · obtain rfl : i = k := by omega
              have := Hlu.out
              rw [hi] at this
              injection this with this
              rw [this]; exact Hbb.out
          have Hs := Lib.hid hs; clear hs
          go_wp2_with fail
          refine Hgr.out.mono ?_
          rintro e w2 ⟨rfl, hg2⟩
          have Hg2 := Lib.hid (grown_tr Hg.out hg2); clear hg2
          go_wp2_with fail
          go_roundw
          case rel => exact ⟨k + 1, by omega, by go_num, Hs.out, Hg2.out⟩
          case measure => simp [intOf]; omega
      · obtain rfl : k = p := by omega
        have Hg := Lib.hid hg; clear hg
        go_wp2
        exact Hx.out _ _ false (by rfl) (bigRs_miss (by have := HN.out; omega) (fun j a hj => Hall.out j a hj (by have := HN.out; have := (List.getElem?_eq_some_iff.1 hj).1; omega))) Hg.out
set_option maxHeartbeats 2000000 in
theorem great15 (h : Args0 w A n os B p rs) (c d : Nat) : Calls Try.prog 15 #[.slice A n c, .slice B p d] w (BoolRet w (great08 os rs)) := by
  have hg1 : Calls Try.prog 38 #[.slice A n c] w (BoolRet w (bigL os)) := by
    have := great38 A c os w (by rw [h.lo]; exact h.ho) h.wo
    rwa [h.lo] at this
  have hg2 : ∀ W, w.grownBy W none → Calls Try.prog 39 #[.slice B p d] W (BoolRet W (bigRs rs)) := fun W hg => great39 B d p h.lr (h.hr.kept hg (by omega)) (fun r hr => (h.wr r hr).kept hg)
  have hx : ∀ (e : Ending) (w' : World) (b b1 b2 : Bool), e = .returned (.bool b) → bigL os = b1 → bigRs rs = b2 → (((b1 || decide (20 < n)) || b2) || decide (12 < p)) = b → w.grownBy w' none → BoolRet w (great08 os rs) e w' := fun e w' b b1 b2 h1 h2 h3 h4 h5 => by
    rw [great08, h2, h3, h.lo, h.lr, h4]; exact ⟨h1, h5⟩
  have Hx := Lib.hid hx; have Hg1 := Lib.hid hg1; have Hg2 := Lib.hid hg2
  clear hx hg1 hg2 h
  obtain ⟨b1, hb1⟩ : ∃ b1, bigL os = b1 := ⟨_, rfl⟩
  obtain ⟨b2, hb2⟩ : ∃ b2, bigRs rs = b2 := ⟨_, rfl⟩
  rw [hb1] at Hg1
  rw [hb2] at Hg2
  have Hb1 := Lib.hid hb1; have Hb2 := Lib.hid hb2; clear hb1 hb2
  generalize hR : BoolRet w (great08 os rs) = R at *
  clear hR
  cases b1 with
  | true =>
    go_enter Try.func15, Try.ntmps15
    go_wp2_with fail
    refine Hg1.out.mono ?_
    rintro e w2 ⟨rfl, hg2⟩
    have K2 := Lib.hid hg2; clear hg2
    go_wp2
    exact Hx.out _ _ true true b2 (by rfl) Hb1.out Hb2.out (by rfl) K2.out
  | false =>
    by_cases h20 : 20 < n
    · go_enter Try.func15, Try.ntmps15
      go_wp2_with fail
      refine Hg1.out.mono ?_
      rintro e w2 ⟨rfl, hg2⟩
      have K2 := Lib.hid hg2; clear hg2
      go_wp2
      exact Hx.out _ _ true false b2 (by rfl) Hb1.out Hb2.out (by simp [h20]) K2.out
    · cases b2 with
      | true =>
        go_enter Try.func15, Try.ntmps15
        go_wp2_with fail
        refine Hg1.out.mono ?_
        rintro e w2 ⟨rfl, hg2⟩
        have K2 := Lib.hid hg2; clear hg2
        go_wp2_with fail
        refine (Hg2.out w2 K2.out).mono ?_
        rintro e w3 ⟨rfl, hg3⟩
        have K3 := Lib.hid (grown_tr K2.out hg3); clear hg3
        go_wp2
        exact Hx.out _ _ true false true (by rfl) Hb1.out Hb2.out (by simp) K3.out
      | false =>
        go_enter Try.func15, Try.ntmps15
        go_wp2_with fail
        refine Hg1.out.mono ?_
        rintro e w2 ⟨rfl, hg2⟩
        have K2 := Lib.hid hg2; clear hg2
        go_wp2_with fail
        refine (Hg2.out w2 K2.out).mono ?_
        rintro e w3 ⟨rfl, hg3⟩
        have K3 := Lib.hid (grown_tr K2.out hg3); clear hg3
        go_wp2
        refine Hx.out _ _ _ false false rfl Hb1.out Hb2.out ?_ K3.out
        rw [Bool.eq_iff_iff]
        simp only [Bool.false_or, Bool.or_false, Bool.or_eq_true, decide_eq_true_eq]
        omega
end
end Go.Proofs.Ytihnldhdpiokhaa
