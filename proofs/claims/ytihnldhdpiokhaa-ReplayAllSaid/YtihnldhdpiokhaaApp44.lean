/- The walk of the reference's Apply: it answers applyV, of an update that may be, on a value that a store may have. -/
import Derived.Test.YtihnldhdpiokhaaApp43
namespace Go.Proofs.Ytihnldhdpiokhaa
open Go.RowKit
set_option linter.unusedVariables false

set_option maxHeartbeats 2000000 in
theorem app44_10 (ky : ByteArray) (n : Int) (w : World) : Calls Try.prog 44 #[vval ⟨0, 0, noS⟩, uval ⟨ky, 1, n, noS⟩] w (NewRet w (vval ⟨1, n, noS⟩)) := by
  go_enter Try.func44, Try.ntmps44
  go_wp2
  exact bodyPost_ret (v := vval ⟨1, n, noS⟩) (by simp [results, Try.results44, go_sem]) rfl ⟨rfl, by (repeat apply grown_al); exact World.grownBy.refl _ _⟩
set_option maxHeartbeats 2000000 in
theorem app44_11 (ky : ByteArray) (vn : Int) (n : Int) (w : World) : Calls Try.prog 44 #[vval ⟨1, vn, noS⟩, uval ⟨ky, 1, n, noS⟩] w (NewRet w (vval ⟨1, n, noS⟩)) := by
  go_enter Try.func44, Try.ntmps44
  go_wp2
  exact bodyPost_ret (v := vval ⟨1, n, noS⟩) (by simp [results, Try.results44, go_sem]) rfl ⟨rfl, by (repeat apply grown_al); exact World.grownBy.refl _ _⟩
set_option maxHeartbeats 2000000 in
theorem app44_12 (ky : ByteArray) (vs : ByteArray) (hvs : (vs.size : Int) ≤ 1024) (n : Int) (w : World) : Calls Try.prog 44 #[vval ⟨2, 0, vs⟩, uval ⟨ky, 1, n, noS⟩] w (NewRet w (vval ⟨1, n, noS⟩)) := by
  go_enter Try.func44, Try.ntmps44
  go_wp2
  exact bodyPost_ret (v := vval ⟨1, n, noS⟩) (by simp [results, Try.results44, go_sem]) rfl ⟨rfl, by (repeat apply grown_al); exact World.grownBy.refl _ _⟩
set_option maxHeartbeats 2000000 in
theorem app44_20 (ky : ByteArray) (s : ByteArray) (w : World) : Calls Try.prog 44 #[vval ⟨0, 0, noS⟩, uval ⟨ky, 2, 0, s⟩] w (NewRet w (vval ⟨2, 0, s⟩)) := by
  go_enter Try.func44, Try.ntmps44
  go_wp2
  exact bodyPost_ret (v := vval ⟨2, 0, s⟩) (by simp [results, Try.results44, go_sem]) rfl ⟨rfl, by (repeat apply grown_al); exact World.grownBy.refl _ _⟩
set_option maxHeartbeats 2000000 in
theorem app44_21 (ky : ByteArray) (vn : Int) (s : ByteArray) (w : World) : Calls Try.prog 44 #[vval ⟨1, vn, noS⟩, uval ⟨ky, 2, 0, s⟩] w (NewRet w (vval ⟨2, 0, s⟩)) := by
  go_enter Try.func44, Try.ntmps44
  go_wp2
  exact bodyPost_ret (v := vval ⟨2, 0, s⟩) (by simp [results, Try.results44, go_sem]) rfl ⟨rfl, by (repeat apply grown_al); exact World.grownBy.refl _ _⟩
set_option maxHeartbeats 2000000 in
theorem app44_22 (ky : ByteArray) (vs : ByteArray) (hvs : (vs.size : Int) ≤ 1024) (s : ByteArray) (w : World) : Calls Try.prog 44 #[vval ⟨2, 0, vs⟩, uval ⟨ky, 2, 0, s⟩] w (NewRet w (vval ⟨2, 0, s⟩)) := by
  go_enter Try.func44, Try.ntmps44
  go_wp2
  exact bodyPost_ret (v := vval ⟨2, 0, s⟩) (by simp [results, Try.results44, go_sem]) rfl ⟨rfl, by (repeat apply grown_al); exact World.grownBy.refl _ _⟩
set_option maxHeartbeats 2000000 in
theorem app44_30 (ky : ByteArray) (n : Int) (h1 : -2305843009213693952 ≤ n) (h2 : n ≤ 2305843009213693951) (w : World) : Calls Try.prog 44 #[vval ⟨0, 0, noS⟩, uval ⟨ky, 3, n, noS⟩] w (NewRet w (vval ⟨1, n, noS⟩)) := by
  go_enter Try.func44, Try.ntmps44
  go_wp2
  exact bodyPost_ret (v := vval ⟨1, n, noS⟩) (by simp [results, Try.results44, go_sem]) rfl ⟨rfl, by (repeat apply grown_al); exact World.grownBy.refl _ _⟩
set_option maxHeartbeats 2000000 in
theorem app44_31 (ky : ByteArray) (vn : Int) (n : Int) (h1 : -2305843009213693952 ≤ n) (h2 : n ≤ 2305843009213693951) (w : World) : Calls Try.prog 44 #[vval ⟨1, vn, noS⟩, uval ⟨ky, 3, n, noS⟩] w (NewRet w (vval ⟨1, wrap64 (vn + n), noS⟩)) := by
  go_enter Try.func44, Try.ntmps44
  go_wp2
  exact bodyPost_ret (v := vval ⟨1, wrap64 (vn + n), noS⟩) (by simp [results, Try.results44, go_sem]) rfl ⟨rfl, by (repeat apply grown_al); exact World.grownBy.refl _ _⟩
set_option maxHeartbeats 2000000 in
theorem app44_32 (ky : ByteArray) (vs : ByteArray) (hvs : (vs.size : Int) ≤ 1024) (n : Int) (h1 : -2305843009213693952 ≤ n) (h2 : n ≤ 2305843009213693951) (w : World) : Calls Try.prog 44 #[vval ⟨2, 0, vs⟩, uval ⟨ky, 3, n, noS⟩] w (NewRet w (vval ⟨2, 0, vs⟩)) := by
  go_enter Try.func44, Try.ntmps44
  go_wp2
  exact bodyPost_ret (v := vval ⟨2, 0, vs⟩) (by simp [results, Try.results44, go_sem]) rfl ⟨rfl, by (repeat apply grown_al); exact World.grownBy.refl _ _⟩
set_option maxHeartbeats 2000000 in
theorem app44_40 (ky : ByteArray) (s : ByteArray) (hs : (s.size : Int) ≤ 32) (w : World) : Calls Try.prog 44 #[vval ⟨0, 0, noS⟩, uval ⟨ky, 4, 0, s⟩] w (NewRet w (vval ⟨2, 0, s⟩)) := by
  go_enter Try.func44, Try.ntmps44
  go_wp2
  exact bodyPost_ret (v := vval ⟨2, 0, s⟩) (by simp [results, Try.results44, go_sem]) rfl ⟨rfl, by (repeat apply grown_al); exact World.grownBy.refl _ _⟩
set_option maxHeartbeats 2000000 in
theorem app44_41 (ky : ByteArray) (vn : Int) (s : ByteArray) (hs : (s.size : Int) ≤ 32) (w : World) : Calls Try.prog 44 #[vval ⟨1, vn, noS⟩, uval ⟨ky, 4, 0, s⟩] w (NewRet w (vval ⟨1, vn, noS⟩)) := by
  go_enter Try.func44, Try.ntmps44
  go_wp2
  exact bodyPost_ret (v := vval ⟨1, vn, noS⟩) (by simp [results, Try.results44, go_sem]) rfl ⟨rfl, by (repeat apply grown_al); exact World.grownBy.refl _ _⟩
set_option maxHeartbeats 2000000 in
theorem app44_42y (ky : ByteArray) (vs : ByteArray) (hvs : (vs.size : Int) ≤ 1024) (s : ByteArray) (hs : (s.size : Int) ≤ 32) (hc : (vs.size : Int) + (s.size : Int) ≤ 1024) (w : World) : Calls Try.prog 44 #[vval ⟨2, 0, vs⟩, uval ⟨ky, 4, 0, s⟩] w (NewRet w (vval ⟨2, 0, vs ++ s⟩)) := by
  go_enter Try.func44, Try.ntmps44
  go_wp2
  exact bodyPost_ret (v := vval ⟨2, 0, vs ++ s⟩) (by simp [results, Try.results44, go_sem]) rfl ⟨rfl, by (repeat apply grown_al); exact World.grownBy.refl _ _⟩
set_option maxHeartbeats 2000000 in
theorem app44_42n (ky : ByteArray) (vs : ByteArray) (hvs : (vs.size : Int) ≤ 1024) (s : ByteArray) (hs : (s.size : Int) ≤ 32) (hc : 1024 < (vs.size : Int) + (s.size : Int)) (w : World) : Calls Try.prog 44 #[vval ⟨2, 0, vs⟩, uval ⟨ky, 4, 0, s⟩] w (NewRet w (vval ⟨2, 0, vs⟩)) := by
  go_enter Try.func44, Try.ntmps44
  go_wp2
  exact bodyPost_ret (v := vval ⟨2, 0, vs⟩) (by simp [results, Try.results44, go_sem]) rfl ⟨rfl, by (repeat apply grown_al); exact World.grownBy.refl _ _⟩
set_option maxHeartbeats 2000000 in
theorem app44_50 (ky : ByteArray) (w : World) : Calls Try.prog 44 #[vval ⟨0, 0, noS⟩, uval ⟨ky, 5, 0, noS⟩] w (NewRet w (vval ⟨0, 0, noS⟩)) := by
  go_enter Try.func44, Try.ntmps44
  go_wp2
  exact bodyPost_ret (v := vval ⟨0, 0, noS⟩) (by simp [results, Try.results44, go_sem]) rfl ⟨rfl, by (repeat apply grown_al); exact World.grownBy.refl _ _⟩
set_option maxHeartbeats 2000000 in
theorem app44_51 (ky : ByteArray) (vn : Int) (w : World) : Calls Try.prog 44 #[vval ⟨1, vn, noS⟩, uval ⟨ky, 5, 0, noS⟩] w (NewRet w (vval ⟨0, 0, noS⟩)) := by
  go_enter Try.func44, Try.ntmps44
  go_wp2
  exact bodyPost_ret (v := vval ⟨0, 0, noS⟩) (by simp [results, Try.results44, go_sem]) rfl ⟨rfl, by (repeat apply grown_al); exact World.grownBy.refl _ _⟩
set_option maxHeartbeats 2000000 in
theorem app44_52 (ky : ByteArray) (vs : ByteArray) (hvs : (vs.size : Int) ≤ 1024) (w : World) : Calls Try.prog 44 #[vval ⟨2, 0, vs⟩, uval ⟨ky, 5, 0, noS⟩] w (NewRet w (vval ⟨0, 0, noS⟩)) := by
  go_enter Try.func44, Try.ntmps44
  go_wp2
  exact bodyPost_ret (v := vval ⟨0, 0, noS⟩) (by simp [results, Try.results44, go_sem]) rfl ⟨rfl, by (repeat apply grown_al); exact World.grownBy.refl _ _⟩
theorem app44 (v : Val) (u : Upd) (w : World) (hv : ValOk v) (hm : mayU u = 0) : Calls Try.prog 44 #[vval v, uval u] w (NewRet w (vval (applyV v u))) := by
  obtain ⟨m1, m2, m3, m4, m5, m6⟩ := may_ok hm
  obtain ⟨ky, kd, n, s⟩ := u
  obtain ⟨vk, vn, vs⟩ := v
  simp only [ValOk] at hv
  dsimp only at m1 m2 m3 m4 m5 m6
  have hs0 : s.size = 0 → s = noS := fun h => by
    obtain ⟨d⟩ := s
    have : d = #[] := Array.eq_empty_of_size_eq_zero h
    rw [this]
  rcases m6 with ⟨rfl, m6⟩ | ⟨rfl, rfl⟩ | ⟨rfl, m6⟩ | ⟨rfl, rfl⟩ | ⟨rfl, rfl, m6⟩
  all_goals (try (have hs1 := hs0 m6; subst hs1))
  all_goals rcases hv with ⟨rfl, rfl, rfl⟩ | ⟨rfl, rfl, v1, v2⟩ | ⟨rfl, rfl, v1⟩
  · rw [show applyV ⟨0, 0, noS⟩ ⟨ky, 1, n, noS⟩ = ⟨1, n, noS⟩ by simp [applyV]]
    exact app44_10 ky n w
  · rw [show applyV ⟨1, vn, noS⟩ ⟨ky, 1, n, noS⟩ = ⟨1, n, noS⟩ by simp [applyV]]
    exact app44_11 ky vn n w
  · rw [show applyV ⟨2, 0, vs⟩ ⟨ky, 1, n, noS⟩ = ⟨1, n, noS⟩ by simp [applyV]]
    exact app44_12 ky vs (by omega) n w
  · rw [show applyV ⟨0, 0, noS⟩ ⟨ky, 2, 0, s⟩ = ⟨2, 0, s⟩ by simp [applyV]]
    exact app44_20 ky s w
  · rw [show applyV ⟨1, vn, noS⟩ ⟨ky, 2, 0, s⟩ = ⟨2, 0, s⟩ by simp [applyV]]
    exact app44_21 ky vn s w
  · rw [show applyV ⟨2, 0, vs⟩ ⟨ky, 2, 0, s⟩ = ⟨2, 0, s⟩ by simp [applyV]]
    exact app44_22 ky vs (by omega) s w
  · rw [show applyV ⟨0, 0, noS⟩ ⟨ky, 3, n, noS⟩ = ⟨1, n, noS⟩ by simp [applyV]; unfold wrap64; omega]
    exact app44_30 ky n m3 m4 w
  · rw [show applyV ⟨1, vn, noS⟩ ⟨ky, 3, n, noS⟩ = ⟨1, wrap64 (vn + n), noS⟩ by simp [applyV]]
    exact app44_31 ky vn n m3 m4 w
  · rw [show applyV ⟨2, 0, vs⟩ ⟨ky, 3, n, noS⟩ = ⟨2, 0, vs⟩ by simp [applyV]]
    exact app44_32 ky vs (by omega) n m3 m4 w
  · rw [show applyV ⟨0, 0, noS⟩ ⟨ky, 4, 0, s⟩ = ⟨2, 0, s⟩ by simp [applyV]]
    exact app44_40 ky s (by omega) w
  · rw [show applyV ⟨1, vn, noS⟩ ⟨ky, 4, 0, s⟩ = ⟨1, vn, noS⟩ by simp [applyV]]
    exact app44_41 ky vn s (by omega) w
  · by_cases hc : vs.size + s.size ≤ 1024
    · rw [show applyV ⟨2, 0, vs⟩ ⟨ky, 4, 0, s⟩ = ⟨2, 0, vs ++ s⟩ by simp [applyV, hc]]
      exact app44_42y ky vs (by omega) s (by omega) (by omega) w
    · rw [show applyV ⟨2, 0, vs⟩ ⟨ky, 4, 0, s⟩ = ⟨2, 0, vs⟩ by simp [applyV, hc]]
      exact app44_42n ky vs (by omega) s (by omega) (by omega) w
  · rw [show applyV ⟨0, 0, noS⟩ ⟨ky, 5, 0, noS⟩ = ⟨0, 0, noS⟩ by simp [applyV, zeroV]]
    exact app44_50 ky  w
  · rw [show applyV ⟨1, vn, noS⟩ ⟨ky, 5, 0, noS⟩ = ⟨0, 0, noS⟩ by simp [applyV, zeroV]]
    exact app44_51 ky vn  w
  · rw [show applyV ⟨2, 0, vs⟩ ⟨ky, 5, 0, noS⟩ = ⟨0, 0, noS⟩ by simp [applyV, zeroV]]
    exact app44_52 ky vs (by omega)  w
end Go.Proofs.Ytihnldhdpiokhaa
