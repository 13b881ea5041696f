/- ReceiverPlays where there is more than is played; the whole law. -/
import Derived.Test.YtjloipjchcaloaaLawPlays11
namespace Go.Proofs.Ytjloipjchcaloaa
open Go.RowKit
set_option linter.unusedVariables false

set_option maxHeartbeats 2000000 in
set_option maxRecDepth 10000 in
theorem plays11_great (room : Int) (A : Option Addr) (c : Nat) (l : List Act3) (w : World) (hr : Rd w 3 A l.length (acells l)) (hgr : great3 l = true) :
    Calls Try.prog 6 #[.int .i64 room, .slice A l.length c] w (BoolRet w true) := by
  have hg3 : ∀ W, Rd W 3 A l.length (acells l) → Calls Try.prog 29 #[.slice A l.length c] W (BoolRet W true) := fun W h => by
    have := great11 A c l W h
    rwa [hgr] at this
  have Hg3 := Lib.hid hg3; clear hg3
  have Hr := Lib.hid hr; clear hr
  clear hgr
  generalize hN : l.length = m at *
  have HN := Lib.hid hN; clear hN
  go_enter Try.func6, Try.ntmps6
  go_wp2_with fail
  refine (rcv_new 1 (fun _ => 0) room w).mono ?_
  rintro e w1 ⟨rfl, own1, st1, h1⟩
  have hB1 := (Base.start w).step st1 (by omega)
  obtain ⟨ga, hga⟩ : ∃ ga, ga = w.heap.size := ⟨_, rfl⟩
  rw [← hga] at h1 ⊢
  clear hga st1
  go_wp2_with fail
  refine (ref_new 2 own1 room w1).mono ?_
  rintro e w2 ⟨rfl, own2, st2, h2⟩
  have hB2 := hB1.step st2 (by omega)
  have h12 := h1.other st2 (by omega)
  obtain ⟨gb, hgb⟩ : ∃ gb, gb = w1.heap.size := ⟨_, rfl⟩
  rw [← hgb] at h2 ⊢
  clear hgb st2 h1 hB1
  have ht : Two w ga (Rcv.new room) gb (Rcv.new room) [] w2 := ⟨own2, hB2, h12, h2, by simp⟩
  clear hB2 h12 h2
  go_wp2_with fail
  refine (awake11 w2).mono ?_
  rintro e w3 ⟨rfl, hg⟩
  have ht3 := ht.grown hg
  clear ht hg
  go_wp2_with fail
  refine (Hg3.out w3 (Hr.out.keep (fun b off _ _ hb => ht3.end_.block b hb (by simp)) (by omega))).mono ?_
  rintro e w4 ⟨rfl, hg⟩
  have ht4 := ht3.grown hg
  clear ht3 hg
  go_wp2_with fail
  refine (awake11 w4).mono ?_
  rintro e w5 ⟨rfl, hg⟩
  have ht5 := ht4.grown hg
  clear ht4 hg
  go_wp2
  go_ret
  exact ⟨rfl, ht5.end_⟩

theorem i64_le {n : Int} (h : (Lit.int .i64 n).wf = true) : n ≤ 9223372036854775807 := by
  simp [Lit.wf] at h
  omega

theorem plays11_walk (room : Int) (A : Option Addr) (c : Nat) (l : List Act3) (w : World) (hr : Rd w 3 A l.length (acells l)) (hw : ∀ a ∈ l, (Lit.int .i64 a.kind).wf = true ∧ (Lit.int .i64 a.n).wf = true ∧ a.text.size ≤ maxLen) :
    Calls Try.prog 6 #[.int .i64 room, .slice A l.length c] w (BoolRet w true) := by
  cases hg : great3 l with
  | true => exact plays11_great room A c l w hr hg
  | false => exact plays11_play room A c l w hr (fun a ha => i64_le (hw a ha).2.1) hg
end Go.Proofs.Ytjloipjchcaloaa
