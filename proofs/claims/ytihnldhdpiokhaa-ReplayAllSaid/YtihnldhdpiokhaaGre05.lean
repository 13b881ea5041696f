/- The walks of the reference's Same of texts, and of what is more than is played. -/
import Derived.Test.YtihnldhdpiokhaaUps
import Derived.Test.YtihnldhdpiokhaaMay
import Derived.BigQuiet
import Derived.Outline
namespace Go.Proofs.Ytihnldhdpiokhaa
open Go.RowKit
set_option linter.unusedVariables false

def QuietRet (w : World) (v : Value) (e : Ending) (w' : World) : Prop := e = .returned v ∧ ∃ m, w.drewN m = w'
theorem str_at {w : World} {A : Option Addr} {n : Nat} {ks : List ByteArray} (h : Rd w 1 A n (ks.map Value.string)) {k : Nat} (hk : k < n) :
    ∃ b off s, A = some ⟨b, off, none⟩ ∧ ks[k]? = some s ∧ w.cell? ⟨b, off + k, none⟩ = some (.string s) := by
  obtain ⟨b, off, hz, e, hc⟩ := h.map_at hk
  exact ⟨b, off, _, e, List.getElem?_eq_getElem hz, hc⟩
set_option maxHeartbeats 1000000 in
theorem same31 (A B : Option Addr) (n c c' : Nat) (ks : List ByteArray) (w : World) (ha : Rd w 1 A n (ks.map Value.string)) (hb : Rd w 1 B n (ks.map Value.string)) (hn : n ≤ 1099511627776) :
    Calls Try.prog 31 #[.slice A n c, .slice B n c'] w (QuietRet w (.bool true)) := by
  have Ha := Lib.hid ha; clear ha
  have Hb := Lib.hid hb; clear hb
  go_enter Try.func31, Try.ntmps31
  go_wp2
  go_loopw [5] (fun i wr => ∃ k m : Nat, k ≤ n ∧ i = .int .i64 k ∧ w.drewN m = wr) (fun i _ => n - (intOf i).toNat)
  case atStart => exact ⟨0, 0, by omega, rfl, rfl⟩
  case round =>
    obtain ⟨k, m, hk, rfl, rfl⟩ := hrel
    by_cases hlt : k < n
    · obtain ⟨b, off, s, rfl, e1, p0⟩ := str_at Ha.out hlt
      obtain ⟨b2, off2, s2, rfl, e2, r0⟩ := str_at Hb.out hlt
      rw [e1] at e2
      injection e2 with e2
      subst e2
      clear e1
      have hk0 : (0 : Int) ≤ (k : Int) := by omega
      have hkn : (k : Int) < (n : Int) := by omega
      go_wp2
      go_quiet (fail)
      go_wp2
      go_roundw
      case rel => exact ⟨k + 1, _, by omega, by go_num, rfl⟩
      case measure => simp [intOf]; omega
    · obtain rfl : k = n := by omega
      go_wp2
      go_ret
      exact ⟨rfl, m, rfl⟩

def bigU (u : Upd) : Bool := decide (100 < u.key.size) || decide (1200 < u.s.size)
def bigL (l : List Upd) : Bool := decide (200 < l.length) || l.any bigU
def great05 (l : List Upd) : Bool := bigL l || decide (60 < l.length)
theorem bigL_hit {l : List Upd} {k : Nat} {u : Upd} (hk : l[k]? = some u) (h : bigU u = true) : bigL l = true := by
  simp only [bigL, Bool.or_eq_true, List.any_eq_true]
  exact .inr ⟨u, List.mem_of_getElem? hk, h⟩
theorem bigL_miss {l : List Upd} (hl : l.length ≤ 200) (h : ∀ (j : Nat) (u : Upd), l[j]? = some u → bigU u = false) : bigL l = false := by
  simp only [bigL, Bool.or_eq_false_iff, decide_eq_false_iff_not, List.any_eq_false]
  refine ⟨by omega, fun a ha => ?_⟩
  obtain ⟨j, hj⟩ := List.mem_iff_getElem?.1 ha
  rw [h j a hj]
  decide
theorem bigL_small {l : List Upd} (h : bigL l = false) : l.length ≤ 200 ∧ ∀ u ∈ l, u.key.size ≤ 100 ∧ u.s.size ≤ 1200 := by
  simp only [bigL, Bool.or_eq_false_iff, decide_eq_false_iff_not, List.any_eq_false] at h
  refine ⟨by omega, fun u hu => ?_⟩
  have := h.2 u hu
  simp only [bigU, Bool.or_eq_true, decide_eq_true_eq] at this
  omega
theorem great05_small {l : List Upd} (h : great05 l = false) : l.length ≤ 60 ∧ ∀ u ∈ l, u.key.size ≤ 100 ∧ u.s.size ≤ 1200 := by
  simp only [great05, Bool.or_eq_false_iff, decide_eq_false_iff_not] at h
  exact ⟨by omega, (bigL_small h.1).2⟩
set_option maxHeartbeats 1000000 in
theorem great47 (u : Upd) (w : World) (hk : u.key.size ≤ maxLen) (hs : u.s.size ≤ maxLen) : Calls Try.prog 47 #[uval u] w (BoolRet w (bigU u)) := by
  obtain ⟨ky, kd, n, s⟩ := u
  unfold maxLen at hk hs
  dsimp only at hk hs
  have hx : ∀ (e : Ending) (w' : World) (b : Bool), e = .returned (.bool b) → bigU ⟨ky, kd, n, s⟩ = b → w.grownBy w' none → BoolRet w (bigU ⟨ky, kd, n, s⟩) e w' := fun e w' b h1 h2 h3 => by rw [h2]; exact ⟨h1, h3⟩
  have Hx := Lib.hid hx; clear hx
  generalize hR : BoolRet w (bigU ⟨ky, kd, n, s⟩) = R at *
  clear hR
  go_enter Try.func47, Try.ntmps47
  go_wp2
  all_goals
    refine Hx.out _ _ _ rfl ?_ (World.grownBy_alloc _ _ _)
    rw [Bool.eq_iff_iff]
    simp only [bigU, Bool.or_eq_true, decide_eq_true_eq]
    first | omega | (simp; omega)
set_option maxHeartbeats 2000000 in
theorem great38 (A : Option Addr) (c : Nat) (l : List Upd) (w : World) (h : Rd w 4 A l.length (ucells l)) (hw : ∀ u ∈ l, UpdWf u) :
    Calls Try.prog 38 #[.slice A l.length c] w (BoolRet w (bigL l)) := by
  by_cases hn : 200 < l.length
  · have hg : bigL l = true := by simp [bigL, hn]
    rw [hg]
    generalize l.length = n at *
    clear h hg hw
    go_enter Try.func38, Try.ntmps38
    go_wp2
    go_ret
    exact ⟨rfl, World.grownBy.refl _ _⟩
  · have H := Lib.hid h; clear h
    have Hw := Lib.hid hw; clear hw
    have hx : ∀ (e : Ending) (w' : World) (b : Bool), e = .returned (.bool b) → bigL l = b → w.grownBy w' none → BoolRet w (bigL l) e w' := fun e w' b h1 h2 h3 => by rw [h2]; exact ⟨h1, h3⟩
    have Hx := Lib.hid hx; clear hx
    generalize hN : l.length = n at *
    have HN := Lib.hid hN; clear hN
    generalize hR : BoolRet w (bigL l) = R at *
    clear hR
    go_enter Try.func38, Try.ntmps38
    go_wp2
    go_loopw [3] (fun v wr => ∃ k : Nat, k ≤ n ∧ v = .int .i64 k ∧ (∀ (j : Nat) (u : Upd), l[j]? = some u → j < k → bigU u = false) ∧ w.grownBy wr none) (fun v _ => n - (intOf v).toNat)
    case atStart => exact ⟨0, by omega, rfl, fun j a hj h => absurd h (by omega), World.grownBy.refl _ _⟩
    case round =>
      obtain ⟨k, hk, rfl, hall, hg⟩ := hrel
      have Hall := Lib.hid hall; clear hall
      by_cases hlt : k < n
      · have hkl : k < l.length := by have := HN.out; omega
        have hrd : Rd w 4 A l.length (ucells l) := by have := HN.out; rw [this]; exact H.out
        obtain ⟨b, off, u, rfl, hlu, c0, c1, c2, c3⟩ := upds_at hrd hkl
        clear hrd hkl
        have hwf := Hw.out u (List.mem_of_getElem? hlu)
        have d0 := (World.grownBy.cell hg c0 (by simp))
        have d1 := (World.grownBy.cell hg c1 (by simp))
        have d2 := (World.grownBy.cell hg c2 (by simp))
        have d3 := (World.grownBy.cell hg c3 (by simp))
        clear c0 c1 c2 c3
        have Hlu := Lib.hid hlu; clear hlu
        have Hg := Lib.hid hg; clear hg
        have hgr := fun W => great47 u W hwf.1 hwf.2.1
        have Hgr := Lib.hid hgr; clear hgr hwf
        obtain ⟨bb, hbb⟩ : ∃ bb, bigU u = bb := ⟨_, rfl⟩
        rw [hbb] at Hgr
        have Hbb := Lib.hid hbb; clear hbb
        obtain ⟨uk, ukd, un, us⟩ := u
        dsimp only at d0 d1 d2 d3
        cases bb with
        | true =>
          go_wp2_with fail
          refine (Hgr.out _).mono ?_
          rintro e w2 ⟨rfl, hg2⟩
          have Hg2 := Lib.hid hg2; clear hg2
          go_wp2
          exact Hx.out _ _ true (by rfl) (bigL_hit Hlu.out Hbb.out) (grown_tr Hg.out Hg2.out)
        | false =>
          have hs : ∀ (i : Nat) (u : Upd), l[i]? = some u → i < k + 1 → bigU u = false := fun i u' hi h => by
            rcases Nat.lt_or_ge i k with h' | h'
            · exact Hall.out i u' hi h'
            · obtain rfl : i = k := by omega
              have := Hlu.out
              rw [hi] at this
              injection this with this
              rw [this]; exact Hbb.out
          have Hs := Lib.hid hs; clear hs
          go_wp2_with fail
          refine (Hgr.out _).mono ?_
          rintro e w2 ⟨rfl, hg2⟩
          have hg3 := grown_tr Hg.out hg2
          have Hg2 := Lib.hid hg3; clear hg2 hg3
          go_wp2_with fail
          go_roundw
          case rel => exact ⟨k + 1, by omega, by go_num, Hs.out, Hg2.out⟩
          case measure => simp [intOf]; omega
      · obtain rfl : k = n := by omega
        have Hg := Lib.hid hg; clear hg
        go_wp2
        exact Hx.out _ _ false (by rfl) (bigL_miss (by have := HN.out; omega) (fun j a hj => Hall.out j a hj (by have := HN.out; have := (List.getElem?_eq_some_iff.1 hj).1; omega))) Hg.out
theorem great26 (A : Option Addr) (c : Nat) (l : List Upd) (w : World) (h : Rd w 4 A l.length (ucells l)) (hw : ∀ u ∈ l, UpdWf u) :
    Calls Try.prog 26 #[.slice A l.length c] w (BoolRet w (great05 l)) := by
  have hgr := great38 A c l w h hw
  have Hgr := Lib.hid hgr; clear hgr h hw
  have hx : ∀ (e : Ending) (w' : World) (b : Bool), e = .returned (.bool b) → great05 l = b → w.grownBy w' none → BoolRet w (great05 l) e w' := fun e w' b h1 h2 h3 => by rw [h2]; exact ⟨h1, h3⟩
  have Hx := Lib.hid hx; clear hx
  obtain ⟨bb, hbb⟩ : ∃ bb, bigL l = bb := ⟨_, rfl⟩
  rw [hbb] at Hgr
  have hd : ∀ b, (bb || decide (60 < l.length)) = b → great05 l = b := fun b h => by rw [great05, hbb]; exact h
  have Hd := Lib.hid hd; clear hd hbb
  generalize hN : l.length = n at *
  clear hN
  generalize hR : BoolRet w (great05 l) = R at *
  clear hR
  cases bb with
  | true =>
    go_enter Try.func26, Try.ntmps26
    go_wp2_with fail
    refine Hgr.out.mono ?_
    rintro e w2 ⟨rfl, hg2⟩
    have Hg2 := Lib.hid hg2; clear hg2
    go_wp2
    exact Hx.out _ _ true (by rfl) (Hd.out true (by rfl)) Hg2.out
  | false =>
    go_enter Try.func26, Try.ntmps26
    go_wp2_with fail
    refine Hgr.out.mono ?_
    rintro e w2 ⟨rfl, hg2⟩
    have Hg2 := Lib.hid hg2; clear hg2
    go_wp2
    refine Hx.out _ _ _ rfl (Hd.out _ ?_) Hg2.out
    rw [Bool.eq_iff_iff]
    simp only [Bool.false_or, decide_eq_true_eq]
    omega
end Go.Proofs.Ytihnldhdpiokhaa
