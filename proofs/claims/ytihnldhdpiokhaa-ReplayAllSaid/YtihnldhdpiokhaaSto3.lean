/- The walks of the store's Keys and Copy. -/
import Derived.Test.YtihnldhdpiokhaaSto1
import Derived.LoopNIn
import Derived.LoopIn
import Derived.OwnWalkIn
import Derived.TacticsInMore
namespace Go.Proofs.Ytihnldhdpiokhaa
open Go.RowKit Go.Maps Go.Sort Go.Shelf
set_option linter.unusedVariables false

/-- Texts in a slice in new memory. -/
def StrRet (w : World) (ks : List ByteArray) (e : Ending) (w' : World) : Prop := ∃ A c, e = .returned (.slice A ks.length c) ∧ NewRow 9 1 (ks.map Value.string) w A ks.length c w'
theorem NewRow.of_owns {e size n : Nat} {xs : List Value} {w w' : World} {v : Value} (hg : w.grownBy w' none) (h : w'.ownsRow w.heap.size e size v n xs) : ∃ A c, v = .slice A n c ∧ NewRow e size xs w A n c w' := by
  rcases h.2 with ⟨rfl, rfl⟩ | ⟨g, cap, cur, rfl, hge, hb, hnc, hm, hs, ht⟩
  · refine ⟨none, 0, rfl, Nat.le_refl _, Nat.zero_le _, hg, fun own b0 j hb0 => ⟨h.1, fun hn => absurd hn (by omega)⟩⟩
  · refine ⟨_, cap, rfl, hnc, hm, hg, fun own b0 j hb0 => ⟨h.1, fun hn => ⟨g, 0, cur, rfl, give_new (by omega), hb, fun k u hu => ?_⟩⟩⟩
    rw [← ht, List.getElem?_take] at hu
    split at hu
    · simpa using hu
    · cases hu
theorem grown_of_below {w w' : World} (h : Below w.heap.size w w') : w.grownBy w' none := ⟨h.os, h.tape, h.output, h.size, fun k hk _ => h.block k hk⟩
theorem sorted_is {P : ByteArray → Prop} {ks : List ByteArray} (hk : KSet P ks) {ss : List (List UInt8)} (hp : ss.Perm (ks.map fun k => k.data.toList)) : (ss.mergeSort (fun x y => decide (x ≤ y))).map encStr = ks.map Value.string := by
  have tr : ∀ a b c : List UInt8, leB a b = true → leB b c = true → leB a c = true := fun a b c h1 h2 => by simp only [leB, decide_eq_true_eq] at *; exact List.le_trans h1 h2
  have to : ∀ a b : List UInt8, (leB a b || leB b a) = true := fun a b => by simp only [leB, Bool.or_eq_true, decide_eq_true_eq]; exact List.le_total a b
  have e : ss.mergeSort leB = ks.map fun k => k.data.toList := by
    refine List.Perm.eq_of_pairwise (le := fun a b => leB a b = true) (fun a b _ _ h1 h2 => ?_) (List.pairwise_mergeSort tr to ss) ?_ ((List.mergeSort_perm ss leB).trans hp)
    · simp only [leB, decide_eq_true_eq] at h1 h2
      exact List.le_antisymm h1 h2
    · refine List.pairwise_map.2 (hk.sorted.imp fun {a b} hab => ?_)
      simp only [leB, decide_eq_true_eq]
      exact Std.le_of_lt hab
  show (ss.mergeSort leB).map encStr = _
  rw [e, List.map_map]
  refine List.map_congr_left fun k _ => ?_
  obtain ⟨d⟩ := k
  simp [encStr]
section
variable {w : World} {own : Nat → Nat} {l g n : Nat} {m : Vals}
set_option maxHeartbeats 1000000 in
theorem sto_keys (h : StAt w own l g m n) {ks : List ByteArray} (hk : KeysOf m ks) (hn : n ≤ 1000000) : Calls Try.prog 30 #[.pointer (some ⟨g, 0, none⟩)] w (StrRet w ks) := by
  obtain ⟨-, b, -, hb, ⟨D, hown, hsays⟩, -⟩ := h
  have hsz := hown.size_le
  have hmax : Maps.size D ≤ maxLen := by unfold maxLen; omega
  have hbytes : Maps.size D * 16 ≤ 140737488355328 := by omega
  have hperm := says_perm hown hsays hk
  have c0 := hb.cell 0
  simp only [List.getElem?_toArray, List.getElem?_cons_zero] at c0
  have Hk := Lib.hid hk; clear hk hsays hb hsz
  have Hperm := Lib.hid hperm; clear hperm
  refine (callsIn_wide (n := 6)).1 ?_
  have hfK : Fence.wide.fn 45 := trivial
  have hfS : Fence.wide.fn 41 := trivial
  refine callsIn_of_wp Try.func30 rfl trivial ?_ rfl
  simp only [Try.ntmps30, List.size_toArray, List.length_cons, List.length_nil, Nat.reduceAdd, Nat.reduceSub, Array.replicate_succ, Array.replicate_zero, List.push_toArray, List.append_toArray, List.nil_append, List.cons_append]
  gi_wp2_with (first
    | (gi_at_call 45; refine (Try.maps_Keys_45 _ _).mono ?_; rintro e w' ⟨rfl, rfl⟩)
    | (gi_at_call 41; refine (Try.slices_Sorted_keys_41_45 b n D RV w hown hmax hbytes).mono ?_; rintro e w' ⟨v, ss, rfl, hS, hrow, hnil, hbl⟩))
  go_ret
  have hg : w.grownBy w' none := grown_tr (World.grownBy_alloc _ _ _) (grown_of_below hbl)
  have hp2 := hS.trans Hperm.out.symm
  have hrow2 := ownsRow_base_a (base' := w.heap.size) hrow (by simp)
  rw [sorted_is Hk.out hp2, show ss.length = ks.length by rw [hp2.length_eq, List.length_map]] at hrow2
  obtain ⟨A, c, rfl, hnr⟩ := NewRow.of_owns hg hrow2
  exact ⟨A, c, rfl, hnr⟩
theorem clone46c (b : Nat) (es : Array MapEntry) (clock : Nat) (w : World) (hb : w.heap[b]? = some (.map es clock)) :
    Calls Try.prog 46 #[.map (some b)] w fun e w' => e = .returned (.map (some w.heap.size)) ∧ w' = w.alloc (.map es clock) := AnyW.maps_Clone Try.clone46 b es clock w hb
theorem sto_copy (h : StAt w own l g m n) (j : Nat) : Calls Try.prog 32 #[.pointer (some ⟨g, 0, none⟩)] w (StoRet j own w (w.heap.size + 1) m n) := by
  obtain ⟨-, b, -, hb, ⟨D, ⟨es, clock, hes, rest⟩, hsays⟩, hok⟩ := h
  have hr : ∀ e w', e = .returned (.pointer (some ⟨w.heap.size + 1, 0, none⟩)) → w' = (w.alloc (.map es clock)).alloc (.cells #[.map (some w.heap.size)] 70) → StoRet j own w (w.heap.size + 1) m n e w' := by
    rintro e w' rfl rfl
    refine ⟨rfl, fun k => if k < w.heap.size then own k else if k = w.heap.size then 10 * j + 1 else 10 * j, ⟨rfl, rfl, rfl, by simp; omega, fun k hk hn => ?_, fun k hk => by simp [hk]⟩, by simp; omega, w.heap.size, by simp, ?_, ?_, hok⟩
    · rw [Below.heap_alloc _ _ _ (by simp; omega), Below.heap_alloc _ _ _ hk]
    · have := Blk.new (w.alloc (.map es clock)) 70 #[.map (some w.heap.size)]
      simpa using this
    · exact ⟨D, ⟨es, clock, (Below.heap_alloc _ _ _ (by simp)).trans (heap_alloc_new w _), rest⟩, hsays⟩
  have Hr := Lib.hid hr; clear hr
  have c0 := hb.cell 0
  simp only [List.getElem?_toArray, List.getElem?_cons_zero] at c0
  have Hes := Lib.hid hes; clear hes hb rest hsays hok
  generalize StoRet j own w (w.heap.size + 1) m n = R at *
  go_enter Try.func32, Try.ntmps32
  go_wp2_with fail
  refine (clone46c b es clock w Hes.out).mono ?_
  rintro e w' ⟨rfl, rfl⟩
  go_wp2
  exact Hr.out _ _ rfl rfl
end
end Go.Proofs.Ytihnldhdpiokhaa
