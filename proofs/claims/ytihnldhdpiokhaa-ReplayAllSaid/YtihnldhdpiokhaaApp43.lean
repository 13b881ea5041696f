/- The walk of value.Apply: it answers applyV, of an update that may be, on a value that a store may have. -/
import Derived.Test.YtihnldhdpiokhaaApp0
namespace Go.Proofs.Ytihnldhdpiokhaa
open Go.RowKit
set_option linter.unusedVariables false
theorem grown_al {w w' : World} (h : w.grownBy w' none) (o : Obj) : w.grownBy (w'.alloc o) none := grown_tr h (World.grownBy_alloc _ _ _)

set_option maxHeartbeats 2000000 in
theorem app43_10 (ky : ByteArray) (n : Int) (w : World) : Calls Try.prog 43 #[vval ⟨0, 0, noS⟩, uval ⟨ky, 1, n, noS⟩] w (NewRet w (vval ⟨1, n, noS⟩)) := by
  go_enter Try.func43, Try.ntmps43
  go_wp2_with (first
    | (go_at_call 52; refine (clean52_0 _).mono ?_; rintro e w' ⟨rfl, rfl⟩)
    | (go_at_call 53; refine (num53 _ _).mono ?_; rintro e w' ⟨rfl, rfl⟩)
    | (go_at_call 54; refine (txt54 _ _).mono ?_; rintro e w' ⟨rfl, rfl⟩))
  exact bodyPost_ret (v := vval ⟨1, n, noS⟩) (by simp [results, Try.results43, go_sem]) rfl ⟨rfl, by (repeat apply grown_al); exact World.grownBy.refl _ _⟩
set_option maxHeartbeats 2000000 in
theorem app43_11 (ky : ByteArray) (vn : Int) (n : Int) (w : World) : Calls Try.prog 43 #[vval ⟨1, vn, noS⟩, uval ⟨ky, 1, n, noS⟩] w (NewRet w (vval ⟨1, n, noS⟩)) := by
  go_enter Try.func43, Try.ntmps43
  go_wp2_with (first
    | (go_at_call 52; refine (clean52_1 _ _).mono ?_; rintro e w' ⟨rfl, rfl⟩)
    | (go_at_call 53; refine (num53 _ _).mono ?_; rintro e w' ⟨rfl, rfl⟩)
    | (go_at_call 54; refine (txt54 _ _).mono ?_; rintro e w' ⟨rfl, rfl⟩))
  exact bodyPost_ret (v := vval ⟨1, n, noS⟩) (by simp [results, Try.results43, go_sem]) rfl ⟨rfl, by (repeat apply grown_al); exact World.grownBy.refl _ _⟩
set_option maxHeartbeats 2000000 in
theorem app43_12 (ky : ByteArray) (vs : ByteArray) (hvs : (vs.size : Int) ≤ 1024) (n : Int) (w : World) : Calls Try.prog 43 #[vval ⟨2, 0, vs⟩, uval ⟨ky, 1, n, noS⟩] w (NewRet w (vval ⟨1, n, noS⟩)) := by
  go_enter Try.func43, Try.ntmps43
  go_wp2_with (first
    | (go_at_call 52; refine (clean52_2 _ _).mono ?_; rintro e w' ⟨rfl, rfl⟩)
    | (go_at_call 53; refine (num53 _ _).mono ?_; rintro e w' ⟨rfl, rfl⟩)
    | (go_at_call 54; refine (txt54 _ _).mono ?_; rintro e w' ⟨rfl, rfl⟩))
  exact bodyPost_ret (v := vval ⟨1, n, noS⟩) (by simp [results, Try.results43, go_sem]) rfl ⟨rfl, by (repeat apply grown_al); exact World.grownBy.refl _ _⟩
set_option maxHeartbeats 2000000 in
theorem app43_20 (ky : ByteArray) (s : ByteArray) (w : World) : Calls Try.prog 43 #[vval ⟨0, 0, noS⟩, uval ⟨ky, 2, 0, s⟩] w (NewRet w (vval ⟨2, 0, s⟩)) := by
  go_enter Try.func43, Try.ntmps43
  go_wp2_with (first
    | (go_at_call 52; refine (clean52_0 _).mono ?_; rintro e w' ⟨rfl, rfl⟩)
    | (go_at_call 53; refine (num53 _ _).mono ?_; rintro e w' ⟨rfl, rfl⟩)
    | (go_at_call 54; refine (txt54 _ _).mono ?_; rintro e w' ⟨rfl, rfl⟩))
  exact bodyPost_ret (v := vval ⟨2, 0, s⟩) (by simp [results, Try.results43, go_sem]) rfl ⟨rfl, by (repeat apply grown_al); exact World.grownBy.refl _ _⟩
set_option maxHeartbeats 2000000 in
theorem app43_21 (ky : ByteArray) (vn : Int) (s : ByteArray) (w : World) : Calls Try.prog 43 #[vval ⟨1, vn, noS⟩, uval ⟨ky, 2, 0, s⟩] w (NewRet w (vval ⟨2, 0, s⟩)) := by
  go_enter Try.func43, Try.ntmps43
  go_wp2_with (first
    | (go_at_call 52; refine (clean52_1 _ _).mono ?_; rintro e w' ⟨rfl, rfl⟩)
    | (go_at_call 53; refine (num53 _ _).mono ?_; rintro e w' ⟨rfl, rfl⟩)
    | (go_at_call 54; refine (txt54 _ _).mono ?_; rintro e w' ⟨rfl, rfl⟩))
  exact bodyPost_ret (v := vval ⟨2, 0, s⟩) (by simp [results, Try.results43, go_sem]) rfl ⟨rfl, by (repeat apply grown_al); exact World.grownBy.refl _ _⟩
set_option maxHeartbeats 2000000 in
theorem app43_22 (ky : ByteArray) (vs : ByteArray) (hvs : (vs.size : Int) ≤ 1024) (s : ByteArray) (w : World) : Calls Try.prog 43 #[vval ⟨2, 0, vs⟩, uval ⟨ky, 2, 0, s⟩] w (NewRet w (vval ⟨2, 0, s⟩)) := by
  go_enter Try.func43, Try.ntmps43
  go_wp2_with (first
    | (go_at_call 52; refine (clean52_2 _ _).mono ?_; rintro e w' ⟨rfl, rfl⟩)
    | (go_at_call 53; refine (num53 _ _).mono ?_; rintro e w' ⟨rfl, rfl⟩)
    | (go_at_call 54; refine (txt54 _ _).mono ?_; rintro e w' ⟨rfl, rfl⟩))
  exact bodyPost_ret (v := vval ⟨2, 0, s⟩) (by simp [results, Try.results43, go_sem]) rfl ⟨rfl, by (repeat apply grown_al); exact World.grownBy.refl _ _⟩
set_option maxHeartbeats 2000000 in
theorem app43_30 (ky : ByteArray) (n : Int) (h1 : -2305843009213693952 ≤ n) (h2 : n ≤ 2305843009213693951) (w : World) : Calls Try.prog 43 #[vval ⟨0, 0, noS⟩, uval ⟨ky, 3, n, noS⟩] w (NewRet w (vval ⟨1, n, noS⟩)) := by
  go_enter Try.func43, Try.ntmps43
  go_wp2_with (first
    | (go_at_call 52; refine (clean52_0 _).mono ?_; rintro e w' ⟨rfl, rfl⟩)
    | (go_at_call 53; refine (num53 _ _).mono ?_; rintro e w' ⟨rfl, rfl⟩)
    | (go_at_call 54; refine (txt54 _ _).mono ?_; rintro e w' ⟨rfl, rfl⟩))
  exact bodyPost_ret (v := vval ⟨1, n, noS⟩) (by simp [results, Try.results43, go_sem]; show wrap64 (0 + n) = n; unfold wrap64; omega) rfl ⟨rfl, by (repeat apply grown_al); exact World.grownBy.refl _ _⟩
set_option maxHeartbeats 2000000 in
theorem app43_31 (ky : ByteArray) (vn : Int) (n : Int) (h1 : -2305843009213693952 ≤ n) (h2 : n ≤ 2305843009213693951) (w : World) : Calls Try.prog 43 #[vval ⟨1, vn, noS⟩, uval ⟨ky, 3, n, noS⟩] w (NewRet w (vval ⟨1, wrap64 (vn + n), noS⟩)) := by
  go_enter Try.func43, Try.ntmps43
  go_wp2_with (first
    | (go_at_call 52; refine (clean52_1 _ _).mono ?_; rintro e w' ⟨rfl, rfl⟩)
    | (go_at_call 53; refine (num53 _ _).mono ?_; rintro e w' ⟨rfl, rfl⟩)
    | (go_at_call 54; refine (txt54 _ _).mono ?_; rintro e w' ⟨rfl, rfl⟩))
  exact bodyPost_ret (v := vval ⟨1, wrap64 (vn + n), noS⟩) (by simp [results, Try.results43, go_sem]) rfl ⟨rfl, by (repeat apply grown_al); exact World.grownBy.refl _ _⟩
set_option maxHeartbeats 2000000 in
theorem app43_32 (ky : ByteArray) (vs : ByteArray) (hvs : (vs.size : Int) ≤ 1024) (n : Int) (h1 : -2305843009213693952 ≤ n) (h2 : n ≤ 2305843009213693951) (w : World) : Calls Try.prog 43 #[vval ⟨2, 0, vs⟩, uval ⟨ky, 3, n, noS⟩] w (NewRet w (vval ⟨2, 0, vs⟩)) := by
  go_enter Try.func43, Try.ntmps43
  go_wp2_with (first
    | (go_at_call 52; refine (clean52_2 _ _).mono ?_; rintro e w' ⟨rfl, rfl⟩)
    | (go_at_call 53; refine (num53 _ _).mono ?_; rintro e w' ⟨rfl, rfl⟩)
    | (go_at_call 54; refine (txt54 _ _).mono ?_; rintro e w' ⟨rfl, rfl⟩))
  exact bodyPost_ret (v := vval ⟨2, 0, vs⟩) (by simp [results, Try.results43, go_sem]) rfl ⟨rfl, by (repeat apply grown_al); exact World.grownBy.refl _ _⟩
set_option maxHeartbeats 2000000 in
theorem app43_40 (ky : ByteArray) (s : ByteArray) (hs : (s.size : Int) ≤ 32) (w : World) : Calls Try.prog 43 #[vval ⟨0, 0, noS⟩, uval ⟨ky, 4, 0, s⟩] w (NewRet w (vval ⟨2, 0, s⟩)) := by
  go_enter Try.func43, Try.ntmps43
  go_wp2_with (first
    | (go_at_call 52; refine (clean52_0 _).mono ?_; rintro e w' ⟨rfl, rfl⟩)
    | (go_at_call 53; refine (num53 _ _).mono ?_; rintro e w' ⟨rfl, rfl⟩)
    | (go_at_call 54; refine (txt54 _ _).mono ?_; rintro e w' ⟨rfl, rfl⟩))
  exact bodyPost_ret (v := vval ⟨2, 0, s⟩) (by simp [results, Try.results43, go_sem]) rfl ⟨rfl, by (repeat apply grown_al); exact World.grownBy.refl _ _⟩
set_option maxHeartbeats 2000000 in
theorem app43_41 (ky : ByteArray) (vn : Int) (s : ByteArray) (hs : (s.size : Int) ≤ 32) (w : World) : Calls Try.prog 43 #[vval ⟨1, vn, noS⟩, uval ⟨ky, 4, 0, s⟩] w (NewRet w (vval ⟨1, vn, noS⟩)) := by
  go_enter Try.func43, Try.ntmps43
  go_wp2_with (first
    | (go_at_call 52; refine (clean52_1 _ _).mono ?_; rintro e w' ⟨rfl, rfl⟩)
    | (go_at_call 53; refine (num53 _ _).mono ?_; rintro e w' ⟨rfl, rfl⟩)
    | (go_at_call 54; refine (txt54 _ _).mono ?_; rintro e w' ⟨rfl, rfl⟩))
  exact bodyPost_ret (v := vval ⟨1, vn, noS⟩) (by simp [results, Try.results43, go_sem]) rfl ⟨rfl, by (repeat apply grown_al); exact World.grownBy.refl _ _⟩
set_option maxHeartbeats 2000000 in
theorem app43_42y (ky : ByteArray) (vs : ByteArray) (hvs : (vs.size : Int) ≤ 1024) (s : ByteArray) (hs : (s.size : Int) ≤ 32) (hc : (vs.size : Int) + (s.size : Int) ≤ 1024) (w : World) : Calls Try.prog 43 #[vval ⟨2, 0, vs⟩, uval ⟨ky, 4, 0, s⟩] w (NewRet w (vval ⟨2, 0, vs ++ s⟩)) := by
  go_enter Try.func43, Try.ntmps43
  go_wp2_with (first
    | (go_at_call 52; refine (clean52_2 _ _).mono ?_; rintro e w' ⟨rfl, rfl⟩)
    | (go_at_call 53; refine (num53 _ _).mono ?_; rintro e w' ⟨rfl, rfl⟩)
    | (go_at_call 54; refine (txt54 _ _).mono ?_; rintro e w' ⟨rfl, rfl⟩))
  exact bodyPost_ret (v := vval ⟨2, 0, vs ++ s⟩) (by simp [results, Try.results43, go_sem]) rfl ⟨rfl, by (repeat apply grown_al); exact World.grownBy.refl _ _⟩
set_option maxHeartbeats 2000000 in
theorem app43_42n (ky : ByteArray) (vs : ByteArray) (hvs : (vs.size : Int) ≤ 1024) (s : ByteArray) (hs : (s.size : Int) ≤ 32) (hc : 1024 < (vs.size : Int) + (s.size : Int)) (w : World) : Calls Try.prog 43 #[vval ⟨2, 0, vs⟩, uval ⟨ky, 4, 0, s⟩] w (NewRet w (vval ⟨2, 0, vs⟩)) := by
  go_enter Try.func43, Try.ntmps43
  go_wp2_with (first
    | (go_at_call 52; refine (clean52_2 _ _).mono ?_; rintro e w' ⟨rfl, rfl⟩)
    | (go_at_call 53; refine (num53 _ _).mono ?_; rintro e w' ⟨rfl, rfl⟩)
    | (go_at_call 54; refine (txt54 _ _).mono ?_; rintro e w' ⟨rfl, rfl⟩))
  exact bodyPost_ret (v := vval ⟨2, 0, vs⟩) (by simp [results, Try.results43, go_sem]) rfl ⟨rfl, by (repeat apply grown_al); exact World.grownBy.refl _ _⟩
set_option maxHeartbeats 2000000 in
theorem app43_50 (ky : ByteArray) (w : World) : Calls Try.prog 43 #[vval ⟨0, 0, noS⟩, uval ⟨ky, 5, 0, noS⟩] w (NewRet w (vval ⟨0, 0, noS⟩)) := by
  go_enter Try.func43, Try.ntmps43
  go_wp2_with (first
    | (go_at_call 52; refine (clean52_0 _).mono ?_; rintro e w' ⟨rfl, rfl⟩)
    | (go_at_call 53; refine (num53 _ _).mono ?_; rintro e w' ⟨rfl, rfl⟩)
    | (go_at_call 54; refine (txt54 _ _).mono ?_; rintro e w' ⟨rfl, rfl⟩))
  exact bodyPost_ret (v := vval ⟨0, 0, noS⟩) (by simp [results, Try.results43, go_sem]) rfl ⟨rfl, by (repeat apply grown_al); exact World.grownBy.refl _ _⟩
set_option maxHeartbeats 2000000 in
theorem app43_51 (ky : ByteArray) (vn : Int) (w : World) : Calls Try.prog 43 #[vval ⟨1, vn, noS⟩, uval ⟨ky, 5, 0, noS⟩] w (NewRet w (vval ⟨0, 0, noS⟩)) := by
  go_enter Try.func43, Try.ntmps43
  go_wp2_with (first
    | (go_at_call 52; refine (clean52_1 _ _).mono ?_; rintro e w' ⟨rfl, rfl⟩)
    | (go_at_call 53; refine (num53 _ _).mono ?_; rintro e w' ⟨rfl, rfl⟩)
    | (go_at_call 54; refine (txt54 _ _).mono ?_; rintro e w' ⟨rfl, rfl⟩))
  exact bodyPost_ret (v := vval ⟨0, 0, noS⟩) (by simp [results, Try.results43, go_sem]) rfl ⟨rfl, by (repeat apply grown_al); exact World.grownBy.refl _ _⟩
set_option maxHeartbeats 2000000 in
theorem app43_52 (ky : ByteArray) (vs : ByteArray) (hvs : (vs.size : Int) ≤ 1024) (w : World) : Calls Try.prog 43 #[vval ⟨2, 0, vs⟩, uval ⟨ky, 5, 0, noS⟩] w (NewRet w (vval ⟨0, 0, noS⟩)) := by
  go_enter Try.func43, Try.ntmps43
  go_wp2_with (first
    | (go_at_call 52; refine (clean52_2 _ _).mono ?_; rintro e w' ⟨rfl, rfl⟩)
    | (go_at_call 53; refine (num53 _ _).mono ?_; rintro e w' ⟨rfl, rfl⟩)
    | (go_at_call 54; refine (txt54 _ _).mono ?_; rintro e w' ⟨rfl, rfl⟩))
  exact bodyPost_ret (v := vval ⟨0, 0, noS⟩) (by simp [results, Try.results43, go_sem]) rfl ⟨rfl, by (repeat apply grown_al); exact World.grownBy.refl _ _⟩
theorem app43 (v : Val) (u : Upd) (w : World) (hv : ValOk v) (hm : mayU u = 0) : Calls Try.prog 43 #[vval v, uval u] w (NewRet w (vval (applyV v u))) := by
  obtain ⟨m1, m2, m3, m4, m5, m6⟩ := may_ok hm
  obtain ⟨ky, kd, n, s⟩ := u
  obtain ⟨vk, vn, vs⟩ := v
  simp only [ValOk] at hv
  dsimp only at m1 m2 m3 m4 m5 m6
  have hs0 : s.size = 0 → s = noS := fun h => by
    obtain ⟨d⟩ := s
    have : d = #[] := Array.eq_empty_of_size_eq_zero h
    rw [this]
  rcases m6 with ⟨rfl, m6⟩ | ⟨rfl, rfl⟩ | ⟨rfl, m6⟩ | ⟨rfl, rfl⟩ | ⟨rfl, rfl, m6⟩
  all_goals (try (have hs1 := hs0 m6; subst hs1))
  all_goals rcases hv with ⟨rfl, rfl, rfl⟩ | ⟨rfl, rfl, v1, v2⟩ | ⟨rfl, rfl, v1⟩
  · rw [show applyV ⟨0, 0, noS⟩ ⟨ky, 1, n, noS⟩ = ⟨1, n, noS⟩ by simp [applyV]]
    exact app43_10 ky n w
  · rw [show applyV ⟨1, vn, noS⟩ ⟨ky, 1, n, noS⟩ = ⟨1, n, noS⟩ by simp [applyV]]
    exact app43_11 ky vn n w
  · rw [show applyV ⟨2, 0, vs⟩ ⟨ky, 1, n, noS⟩ = ⟨1, n, noS⟩ by simp [applyV]]
    exact app43_12 ky vs (by omega) n w
  · rw [show applyV ⟨0, 0, noS⟩ ⟨ky, 2, 0, s⟩ = ⟨2, 0, s⟩ by simp [applyV]]
    exact app43_20 ky s w
  · rw [show applyV ⟨1, vn, noS⟩ ⟨ky, 2, 0, s⟩ = ⟨2, 0, s⟩ by simp [applyV]]
    exact app43_21 ky vn s w
  · rw [show applyV ⟨2, 0, vs⟩ ⟨ky, 2, 0, s⟩ = ⟨2, 0, s⟩ by simp [applyV]]
    exact app43_22 ky vs (by omega) s w
  · rw [show applyV ⟨0, 0, noS⟩ ⟨ky, 3, n, noS⟩ = ⟨1, n, noS⟩ by simp [applyV]; unfold wrap64; omega]
    exact app43_30 ky n m3 m4 w
  · rw [show applyV ⟨1, vn, noS⟩ ⟨ky, 3, n, noS⟩ = ⟨1, wrap64 (vn + n), noS⟩ by simp [applyV]]
    exact app43_31 ky vn n m3 m4 w
  · rw [show applyV ⟨2, 0, vs⟩ ⟨ky, 3, n, noS⟩ = ⟨2, 0, vs⟩ by simp [applyV]]
    exact app43_32 ky vs (by omega) n m3 m4 w
  · rw [show applyV ⟨0, 0, noS⟩ ⟨ky, 4, 0, s⟩ = ⟨2, 0, s⟩ by simp [applyV]]
    exact app43_40 ky s (by omega) w
  · rw [show applyV ⟨1, vn, noS⟩ ⟨ky, 4, 0, s⟩ = ⟨1, vn, noS⟩ by simp [applyV]]
    exact app43_41 ky vn s (by omega) w
  · by_cases hc : vs.size + s.size ≤ 1024
    · rw [show applyV ⟨2, 0, vs⟩ ⟨ky, 4, 0, s⟩ = ⟨2, 0, vs ++ s⟩ by simp [applyV, hc]]
      exact app43_42y ky vs (by omega) s (by omega) (by omega) w
    · rw [show applyV ⟨2, 0, vs⟩ ⟨ky, 4, 0, s⟩ = ⟨2, 0, vs⟩ by simp [applyV, hc]]
      exact app43_42n ky vs (by omega) s (by omega) (by omega) w
  · rw [show applyV ⟨0, 0, noS⟩ ⟨ky, 5, 0, noS⟩ = ⟨0, 0, noS⟩ by simp [applyV, zeroV]]
    exact app43_50 ky  w
  · rw [show applyV ⟨1, vn, noS⟩ ⟨ky, 5, 0, noS⟩ = ⟨0, 0, noS⟩ by simp [applyV, zeroV]]
    exact app43_51 ky vn  w
  · rw [show applyV ⟨2, 0, vs⟩ ⟨ky, 5, 0, noS⟩ = ⟨0, 0, noS⟩ by simp [applyV, zeroV]]
    exact app43_52 ky vs (by omega)  w
end Go.Proofs.Ytihnldhdpiokhaa
