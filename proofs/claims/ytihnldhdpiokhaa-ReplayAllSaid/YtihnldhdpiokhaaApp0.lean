/- The walks of value.number, value.text, value.clean. -/
import Derived.Test.YtihnldhdpiokhaaMay
import Derived.Test.YtihnldhdpiokhaaSto0
import Derived.Outline
namespace Go.Proofs.Ytihnldhdpiokhaa
open Go.RowKit
set_option linter.unusedVariables false

theorem num53 (n : Int) (w : World) : Calls Try.prog 53 #[.int .i64 n] w (fun e w' => e = .returned (vval ⟨1, n, noS⟩) ∧ w' = w.alloc (.cells #[.int .i64 1, .int .i64 n, .string noS] 29)) := by
  go_enter Try.func53, Try.ntmps53
  go_wp2
  exact bodyPost_ret (v := vval ⟨1, n, noS⟩) (by simp [results, Try.results53, go_sem]) rfl ⟨rfl, rfl⟩
theorem txt54 (s : ByteArray) (w : World) : Calls Try.prog 54 #[.string s] w (fun e w' => e = .returned (vval ⟨2, 0, s⟩) ∧ w' = w.alloc (.cells #[.int .i64 2, .int .i64 0, .string s] 29)) := by
  go_enter Try.func54, Try.ntmps54
  go_wp2
  exact bodyPost_ret (v := vval ⟨2, 0, s⟩) (by simp [results, Try.results54, go_sem]) rfl ⟨rfl, rfl⟩
theorem clean52_0 (w : World) : Calls Try.prog 52 #[vval zeroV] w (fun e w' => e = .returned (vval zeroV) ∧ w' = (w.alloc (.cells #[.int .i64 0, .int .i64 0, .string noS] 29)).alloc (.cells #[.int .i64 0, .int .i64 0, .string noS] 29)) := by
  unfold zeroV
  go_enter Try.func52, Try.ntmps52
  go_wp2
  exact bodyPost_ret (v := vval ⟨0, 0, noS⟩) (by simp [results, Try.results52, go_sem]) rfl ⟨rfl, rfl⟩
theorem clean52_1 (n : Int) (w : World) : Calls Try.prog 52 #[vval ⟨1, n, noS⟩] w (fun e w' => e = .returned (vval ⟨1, n, noS⟩) ∧ w' = ((w.alloc (.cells #[.int .i64 1, .int .i64 n, .string noS] 29)).alloc (.cells #[.int .i64 1, .int .i64 n, .string noS] 29)).alloc (.cells #[.int .i64 1, .int .i64 n, .string noS] 29)) := by
  go_enter Try.func52, Try.ntmps52
  go_wp2_with (first | (go_at_call 53; refine (num53 _ _).mono ?_; rintro e w' ⟨rfl, rfl⟩))
  exact bodyPost_ret (v := vval ⟨1, n, noS⟩) (by simp [results, Try.results52, go_sem]) rfl ⟨rfl, rfl⟩
theorem clean52_2 (s : ByteArray) (w : World) : Calls Try.prog 52 #[vval ⟨2, 0, s⟩] w (fun e w' => e = .returned (vval ⟨2, 0, s⟩) ∧ w' = ((w.alloc (.cells #[.int .i64 2, .int .i64 0, .string s] 29)).alloc (.cells #[.int .i64 2, .int .i64 0, .string s] 29)).alloc (.cells #[.int .i64 2, .int .i64 0, .string s] 29)) := by
  go_enter Try.func52, Try.ntmps52
  go_wp2_with (first | (go_at_call 54; refine (txt54 _ _).mono ?_; rintro e w' ⟨rfl, rfl⟩))
  exact bodyPost_ret (v := vval ⟨2, 0, s⟩) (by simp [results, Try.results52, go_sem]) rfl ⟨rfl, rfl⟩
end Go.Proofs.Ytihnldhdpiokhaa
