/- The walks of the reference's Flat, Read and Len. -/
import Derived.Test.YtihnldhdpiokhaaRead08
namespace Go.Proofs.Ytihnldhdpiokhaa
open Go.RowKit
set_option linter.unusedVariables false

def FlatOk (w : World) (q : Nat) (l : List Upd) (e : Ending) (w' : World) : Prop := ∃ A c, e = .returned (.slice A q c) ∧ NewRow 38 4 (ucells l) w A q c w'
theorem NewRow.rdN {e size k c : Nat} {xs : List Value} {A : Option Addr} {w w' : World} (h : NewRow e size xs w A k c w') : Rd w' size A k xs := (h.row (fun _ => 0) _ 32 (Nat.le_refl _)).rd
theorem ucells_one (l : List Upd) : ∀ u ∈ ucells l, u.oneCell' = true := by
  intro u hu
  obtain ⟨x, _, hx⟩ := List.mem_flatMap.1 hu
  simp only [ucells1, List.mem_cons, List.not_mem_nil, or_false] at hx
  rcases hx with rfl | rfl | rfl | rfl <;> rfl
section
variable {w w0 w' : World} {A B : Option Addr} {n p : Nat} {os : List Upd} {rs : List Rnd}
set_option maxHeartbeats 4000000 in
set_option maxRecDepth 10000 in
theorem flat36 (h : ArgsAt w A n os B p rs) (c d q : Nat) (hq : (flat rs ++ os).length = q) : Calls Try.prog 36 #[.slice A n c, .slice B p d] w (FlatOk w q (flat rs ++ os)) := by
  obtain ⟨i0, hi, hz0, hz1, hz2⟩ := info_parts Try.info38
  have hlen := h.len
  rw [hq] at hlen
  have hrl := h.rl
  have hql : (flat rs).length + n = q := by rw [← hq, List.length_append, h.lo]
  have Hql := Lib.hid hql; clear hql hq
  have H := Lib.hid h; clear h
  have hfin : ∀ e w', (∃ A c, e = .returned (.slice A q c) ∧ NewRow 38 4 (ucells (flat rs ++ os)) w A q c w') → FlatOk w q (flat rs ++ os) e w' := fun e w' h => h
  have Hfin := Lib.hid hfin; clear hfin
  generalize FlatOk w q (flat rs ++ os) = R at *
  go_enter Try.func36, Try.ntmps36
  go_wp2_with fail
  go_loopw [5, 6] (fun v5 v wr => ∃ k : Nat, k ≤ p ∧ v = .int .i64 k ∧ ∃ (A1 : Option Addr) (c1 f : Nat) (own' : Nat → Nat), v5 = .slice A1 f c1 ∧ Hid ((flat (rs.take k)).length = f) ∧ Step 1 w (fun _ => 0) wr own' ∧ OwnS wr own' 1 38 4 A1 f c1 (ucells (flat (rs.take k)))) (fun _ v _ => p - (intOf v).toNat)
  case atStart =>
    refine ⟨0, by omega, rfl, _, _, 0, give (fun _ => 0) w.heap.size 1, rfl, Lib.hid rfl, ((Step.refl 1 w (fun _ => 0)).give_ 1).alloc _, rfl, .inr ⟨w.heap.size, #[], rfl, give_new (Nat.le_refl _), Blk.new w 38 #[], by omega, by omega, rfl, rfl⟩⟩
  case round =>
    obtain ⟨k, hkp, rfl, A1, c1, f, own', rfl, Hf, st, hO⟩ := hrel
    have hg := grown_of_step st (by omega)
    by_cases hlt : k < p
    · obtain ⟨b, off, r, rfl, hlr, e0, e1, e2⟩ := rnds_at H.out.hr hlt
      have d2 := World.grownBy.cell hg e2 (by simp)
      have hwf := (H.out.wr r (List.mem_of_getElem? hlr)).kept hg
      have hft := flat_take rs k r hlr
      have hfq : f + r.us.length ≤ q := by have := flat_len_take rs (k + 1); rw [hft, List.length_append, Hf.out] at this; have := Hql.out; omega
      have hus := hwf.2.2.1
      clear hwf hlr e0 e1 e2 hg
      obtain ⟨ro, rn, rA, rc, us⟩ := r
      dsimp only at d2 hus hft hfq
      obtain ⟨m, hm⟩ : ∃ m, us.length = m := ⟨_, rfl⟩
      rw [hm] at d2 hus hfq
      have Hf2 := Lib.hid (show (flat (rs.take (k + 1))).length = f + m by rw [hft, List.length_append, Hf.out, hm])
      have Hus := Lib.hid hus; have Hft := Lib.hid hft; have Hst := Lib.hid st; have HO := Lib.hid hO
      clear hm hus hft st hO
      go_wp2_with (at_builtin; refine wpList_mine rfl (.tmp 14) (.tmp 19) 25 rfl 38 i0 (.agg #[.string ByteArray.empty, .int .i64 0, .int .i64 0, .string ByteArray.empty]) 4 48 Try.underlying25 hi hz0 hz1 hz2 rfl (by decide) own' 1 A1 f c1 (ucells (flat (rs.take k))) (by rfl) HO.out rA m rc (ucells us) (by rfl) Hus.out (ucells_one us) (by unfold maxLen; omega) (by omega) ?_; intro A3 c3 w3 own3 hO3 st3; have HO3 := Lib.hid hO3; clear hO3; have Hst3 := Lib.hid st3; clear st3)
      go_roundw
      case rel => exact ⟨k + 1, by omega, by go_num, A3, c3, f + m, own3, rfl, Hf2, Hst.out.trans Hst3.out, by rw [Hft.out, ucells_append]; exact HO3.out⟩
      case measure => simp [intOf]; omega
    · obtain rfl : k = p := by omega
      rw [show rs.take k = rs from List.take_of_length_le (by rw [H.out.lr]; exact Nat.le_refl _)] at Hf hO
      have Ho := Lib.hid (H.out.ho.kept hg (by omega))
      have hfq : f + n = q := by have := Hql.out; rw [Hf.out] at this; exact this
      have hfq2 : f + n ≤ 1000000 := by omega
      have Hfq := Lib.hid hfq; clear hfq hg
      have Hst := Lib.hid st; have HO := Lib.hid hO
      clear st hO
      go_wp2_with (at_builtin; refine wpList_mine rfl (.tmp 21) (.tmp 22) 25 rfl 38 i0 (.agg #[.string ByteArray.empty, .int .i64 0, .int .i64 0, .string ByteArray.empty]) 4 48 Try.underlying25 hi hz0 hz1 hz2 rfl (by decide) own' 1 A1 f c1 (ucells (flat rs)) (by rfl) HO.out A n c (ucells os) (by rfl) Ho.out (ucells_one os) (by unfold maxLen; omega) (by omega) ?_; intro A3 c3 w3 own3 hO3 st3; have HO3 := Lib.hid hO3; clear hO3; have Hst3 := Lib.hid st3; clear st3)
      refine Hfin.out _ _ ⟨A3, c3, by rw [← Hfq.out]; rfl, ?_⟩
      rw [← Hfq.out, ucells_append]
      exact NewRow.of_mine (Hst.out.trans Hst3.out) HO3.out
theorem read33 (h : ArgsAt w A n os B p rs) (c d : Nat) (key : ByteArray) (hk : key.size ≤ maxLen) (v : Val) (hv : stOf (flat rs ++ os) key = v) :
    Calls Try.prog 33 #[.string key, .slice A n c, .slice B p d] w (NewRet w (.agg #[.int .i64 v.kind, .int .i64 v.n, .string v.s])) := by
  obtain ⟨q, hq⟩ : ∃ q, (flat rs ++ os).length = q := ⟨_, rfl⟩
  have hlen := h.len
  rw [hq] at hlen
  have hwf : ∀ u ∈ flat rs ++ os, UpdWf u := fun u hu => (List.mem_append.1 hu).elim (flat_wf h.wr u) (h.wo u)
  have hg0 := World.grownBy_alloc w (.cells #[.int .i64 0, .int .i64 0, .string { data := #[] }] 29) none
  have hb0 := Blk.new w 29 #[.int .i64 0, .int .i64 0, .string { data := #[] }]
  have hs := flat36 (h.grown hg0) c d q hq
  have hget : ∀ (A' : Option Addr) (c' : Nat) (W : World), Rd W 4 A' q (ucells (flat rs ++ os)) → Calls Try.prog 28 #[.string key, .slice A' q c'] W (NewRet W (.agg #[.int .i64 v.kind, .int .i64 v.n, .string v.s])) := fun A' c' W hr => get28n key A' c' q _ W v hq hr hwf hk hlen hv
  have Hs := Lib.hid hs; have Hget := Lib.hid hget; have Hg0 := Lib.hid hg0; have Hb0 := Lib.hid hb0
  clear hs hget hg0 hb0 h hwf hv hq
  obtain ⟨x1, x2, x3⟩ := v
  go_enter Try.func33, Try.ntmps33
  go_wp2_with fail
  refine Hs.out.mono ?_
  rintro e w1 ⟨A', c', rfl, hnr⟩
  have hb1 := Hb0.out.grown hnr.grown (by simp)
  have hg1 := grown_tr Hg0.out hnr.grown
  have hr1 := hnr.rdN
  have Hb1 := Lib.hid hb1; have Hg1 := Lib.hid hg1; have Hr1 := Lib.hid hr1
  clear hb1 hg1 hr1 hnr
  go_wp2_with fail
  refine (Hget.out A' c' w1 Hr1.out).mono ?_
  rintro e w2 ⟨rfl, hg2⟩
  have bx := Hb1.out.grown hg2 (by simp)
  have e0 := bx.cell 0
  have e1 := bx.cell 1
  have e2 := bx.cell 2
  have f0 := bx.free 0
  have f1 := bx.free 1
  have f2 := bx.free 2
  simp only [List.getElem?_toArray, List.getElem?_cons_zero, List.getElem?_cons_succ] at e0 e1 e2
  have Hend := Lib.hid (grown_tr Hg1.out hg2)
  clear hg2 bx
  go_wp2
  refine bodyPost_ret (v := .agg #[.int .i64 x1, .int .i64 x2, .string x3]) (by simp [results, Try.results33, go_sem, e0, e1, e2]) rfl ⟨rfl, ?_⟩
  exact grown_set (grown_set (grown_set Hend.out (Nat.le_refl _) _) (Nat.le_refl _) _) (Nat.le_refl _) _
theorem len34 (h : ArgsAt w A n os B p rs) (c d : Nat) {ks : List ByteArray} (hk : KeysOf (stOf (flat rs ++ os)) ks) (x : Nat) (hx : ks.length = x) :
    Calls Try.prog 34 #[.slice A n c, .slice B p d] w (fun e w' => e = .returned (.int .i64 (x : Int)) ∧ w.grownBy w' none) := by
  obtain ⟨q, hq⟩ : ∃ q, (flat rs ++ os).length = q := ⟨_, rfl⟩
  have hlen := h.len
  rw [hq] at hlen
  have hwf : ∀ u ∈ flat rs ++ os, UpdWf u := fun u hu => (List.mem_append.1 hu).elim (flat_wf h.wr u) (h.wo u)
  have hs := flat36 h c d q hq
  have hget : ∀ (A' : Option Addr) (c' : Nat) (W : World), Rd W 4 A' q (ucells (flat rs ++ os)) → _ := fun A' c' W hr => keys29n A' c' q x _ W hq hr hwf hlen hk hx
  have Hs := Lib.hid hs; have Hget := Lib.hid hget
  clear hs hget h hwf hk hx hq
  go_enter Try.func34, Try.ntmps34
  go_wp2_with fail
  refine Hs.out.mono ?_
  rintro e w1 ⟨A', c', rfl, hnr⟩
  have Hg1 := Lib.hid hnr.grown; have Hr1 := Lib.hid hnr.rdN
  clear hnr
  go_wp2_with fail
  refine (Hget.out A' c' w1 Hr1.out).mono ?_
  rintro e w2 ⟨A2, c2, rfl, hnr⟩
  have Hend := Lib.hid (grown_tr Hg1.out hnr.grown)
  clear hnr
  go_wp2
  go_ret
  exact ⟨rfl, Hend.out⟩
end
end Go.Proofs.Ytihnldhdpiokhaa
