/- The walks of value.May and of the reference's: both answer mayU. -/
import Derived.Test.YtihnldhdpiokhaaVal0
import Derived.Test.YtihnldhdpiokhaaGrp0
import Derived.Test.YtihnldhdpiokhaaProg
import Derived.Outline
namespace Go.Proofs.Ytihnldhdpiokhaa
open Go.RowKit
set_option linter.unusedVariables false

@[reducible] def uval (u : Upd) : Value := .agg #[.string u.key, .int .i64 u.kind, .int .i64 u.n, .string u.s]
def IntRet (w : World) (x : Int) (e : Ending) (w' : World) : Prop := e = .returned (.int .i64 x) ∧ w.grownBy w' none
theorem size_toList (s : ByteArray) : s.toList.isEmpty = decide (s.size = 0) := by
  rw [ByteArray.toList_eq, show s.size = s.data.toList.length from (Array.length_toList).symm]
  generalize s.data.toList = l
  cases l with
  | nil => rfl
  | cons a l => exact (decide_eq_false (Nat.succ_ne_zero _)).symm

set_option maxHeartbeats 2000000 in
theorem may40 (u : Upd) (w : World) (hk : u.key.size ≤ maxLen) (hs : u.s.size ≤ maxLen) : Calls Try.prog 40 #[uval u] w (IntRet w (mayU u)) := by
  obtain ⟨ky, kd, n, s⟩ := u
  unfold maxLen at hk hs
  dsimp only at hk hs
  have hx : ∀ (e : Ending) (w' : World) (x : Int), e = .returned (.int .i64 x) → mayU ⟨ky, kd, n, s⟩ = x → w.grownBy w' none → IntRet w (mayU ⟨ky, kd, n, s⟩) e w' := fun e w' x h1 h2 h3 => by rw [h2]; exact ⟨h1, h3⟩
  have Hx := Lib.hid hx; clear hx
  have Hs := Lib.hid (size_toList s)
  generalize hR : IntRet w (mayU ⟨ky, kd, n, s⟩) = R at *
  clear hR
  go_enter Try.func40, Try.ntmps40
  go_wp2
  all_goals
    refine Hx.out _ _ _ rfl ?_ (World.grownBy_alloc _ _ _)
    have hs0 := Hs.out
    simp only [hs0, Bool.not_eq_true', Bool.not_eq_false', beq_iff_eq, beq_eq_false_iff_ne, bne_iff_ne, bne_eq_false_iff_eq, ne_eq, decide_eq_true_eq, decide_eq_false_iff_not] at *
    unfold mayU
    dsimp only
    (repeat' split) <;> omega
set_option maxHeartbeats 2000000 in
theorem may27 (u : Upd) (w : World) (hk : u.key.size ≤ maxLen) (hs : u.s.size ≤ maxLen) : Calls Try.prog 27 #[uval u] w (IntRet w (mayU u)) := by
  obtain ⟨ky, kd, n, s⟩ := u
  unfold maxLen at hk hs
  dsimp only at hk hs
  have hx : ∀ (e : Ending) (w' : World) (x : Int), e = .returned (.int .i64 x) → mayU ⟨ky, kd, n, s⟩ = x → w.grownBy w' none → IntRet w (mayU ⟨ky, kd, n, s⟩) e w' := fun e w' x h1 h2 h3 => by rw [h2]; exact ⟨h1, h3⟩
  have Hx := Lib.hid hx; clear hx
  have Hs := Lib.hid (size_toList s)
  have hkz : ky = ByteArray.empty → ky.size = 0 := fun e => by rw [e]; rfl
  have Hkz := Lib.hid hkz; clear hkz
  generalize hR : IntRet w (mayU ⟨ky, kd, n, s⟩) = R at *
  clear hR
  go_enter Try.func27, Try.ntmps27
  go_wp2
  all_goals
    refine Hx.out _ _ _ rfl ?_ (World.grownBy_alloc _ _ _)
    have hs0 := Hs.out
    simp only [hs0, Bool.not_eq_true', Bool.not_eq_false', beq_iff_eq, beq_eq_false_iff_ne, ne_eq, decide_eq_true_eq, decide_eq_false_iff_not] at *
    unfold mayU
    dsimp only
    (repeat' split) <;> first | omega | (have := Hkz.out (by assumption); omega)
end Go.Proofs.Ytihnldhdpiokhaa
