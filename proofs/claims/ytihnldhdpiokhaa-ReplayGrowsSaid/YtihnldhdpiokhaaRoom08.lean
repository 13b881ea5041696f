/- What came in is no longer than the machine reaches: one round more still fits. -/
import Derived.Test.YtihnldhdpiokhaaOpenR
import Derived.SizedLaws
namespace Go.Proofs.Ytihnldhdpiokhaa
open Go.ChangeShapes Go.WideShapes Go.ChangeAt Go.RowKit Go.Deep
set_option linter.unusedVariables false

section
variable {H : Type} {enc : TypeId × Value → H} {w : World} {base : Nat} {spare : Nat → Bool} {held : Bool}
theorem rnds_room {ts : List TypeId} {ds : List (DataW H)} (hS : (DataW.weightsEach Try.prog ts ds).all (· ≤ reachBytes) = true) (j : Nat) {d : DataW H} (ht : ts[j]? = some 22) (hd : ds[j]? = some d)
    {A : Option Addr} {len cap : Nat} {ps : List MemPlace} (h : DataW.Trod enc Try.prog w base spare held 22 (.slice A len cap) d ps) : (len + 1) * 40 ≤ 140737488355328 := by
  obtain ⟨m, hm⟩ := h
  rcases DataW.trod_slice Try.underlying22 hm with ⟨h1, _⟩ | ⟨a, l, c, elems, rest, n, _, h1, h2, _, _, _, h3, _⟩
  · simp [Value.cells] at h1
    omega
  · simp [Value.cells] at h1
    simp at h2
    have hs := sized_slice hS ht (by rw [hd, h2.1]) Try.underlying22
    rw [show Try.prog.bytesOf 27 = 40 by kernel_rfl] at hs
    simp only [List.length_map, h3] at hs
    unfold reachBytes at hs
    obtain ⟨_, rfl, _⟩ := h1
    omega
end
end Go.Proofs.Ytihnldhdpiokhaa
