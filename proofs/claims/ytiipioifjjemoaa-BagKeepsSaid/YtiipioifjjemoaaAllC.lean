/- all of layer 19's statements: the packets, in new memory. -/
import Derived.Test.YtiipioifjjemoaaActsC
namespace Go.Proofs.Ytiipioifjjemoaa
open Go.RowKit
set_option linter.unusedVariables false

theorem pcells_take (l : List Pkt) (k : Nat) (p : Pkt) (h : l[k]? = some p) : pcells (l.take k) ++ [.int .i64 p.src, .int .i64 p.dst, .string p.bytes] = pcells (l.take (k + 1)) := by
  rw [List.take_add_one, h, Option.toList_some, pcells_append]
  rfl

def AllOk (s : BSt) (w : World) (e : Ending) (w' : World) : Prop := ∃ A c, e = .returned (.slice A s.length c) ∧ NewRow 39 3 (pcells (s.map Prod.fst)) w A s.length c w'

set_option maxHeartbeats 2000000 in
set_option maxRecDepth 10000 in
theorem all19 {w : World} {own : Nat → Nat} {l g : Nat} {s : BSt} (h : BagAt w own l g s) : Calls Try.prog 12 #[.pointer (some ⟨g, 0, none⟩)] w (AllOk s w) := by
  obtain ⟨i0, hi, hz0, hz1, hz2⟩ := info_parts Try.info39
  have hl : s.length ≤ 4096 := h.2.1
  have H := Lib.hid h; clear h
  obtain ⟨n, hn⟩ : ∃ n, s.length = n := ⟨_, rfl⟩
  have Hn := Lib.hid hn
  rw [hn] at hl
  obtain ⟨ps, hps⟩ : ∃ ps, s.map Prod.fst = ps := ⟨_, rfl⟩
  have hfin : ∀ e w', (∃ A c, e = .returned (.slice A n c) ∧ NewRow 39 3 (pcells ps) w A n c w') → AllOk s w e w' := by
    rw [← hn, ← hps]; exact fun e w' h => h
  have Hfin := Lib.hid hfin; clear hfin
  have Hps := Lib.hid hps; clear hps
  have hnn : (s.length : Int) = (n : Int) := by rw [hn]
  have Hnn := Lib.hid hnn; clear hnn hn
  generalize AllOk s w = R at *
  go_enter Try.func12, Try.ntmps12
  go_wp2_with fail
  refine (bag_len H.out n Hnn.out).mono ?_
  rintro e w' ⟨rfl, rfl⟩
  go_wp2_with fail
  go_loopw [3, 9] (fun v3 v9 wr => ∃ k : Nat, k ≤ n ∧ v9 = .int .i64 k ∧ ∃ A c own', v3 = .slice A k c ∧ Step 1 w (fun _ => 0) wr own' ∧ OwnS wr own' 1 39 3 A k c (pcells (ps.take k))) (fun _ v _ => n - (intOf v).toNat)
  case atStart => exact ⟨0, by omega, rfl, none, 0, _, rfl, Step.refl _ _ _, OwnS.nil _ _ _ _ _⟩
  case round =>
    obtain ⟨k, hk, rfl, A, c, own', rfl, st, hO⟩ := hrel
    by_cases hlt : k < n
    · obtain ⟨p, sp, hsk⟩ : ∃ p sp, s[k]? = some (p, sp) := ⟨(s[k]'(by have := Hn.out; omega)).1, (s[k]'(by have := Hn.out; omega)).2, List.getElem?_eq_getElem (by have := Hn.out; omega)⟩
      have hpk : ps[k]? = some p := by rw [← Hps.out]; simp [hsk]
      have hg := grown_of_step st (by omega)
      have hB := H.out.grown hg 40
      have hpt := pcells_take ps k p hpk
      have Hpt := Lib.hid hpt; clear hpt hpk
      have HB := Lib.hid hB; clear hB
      have Hst := Lib.hid st; clear st
      have HO := Lib.hid hO; clear hO hg
      have hk0 : (0 : Int) ≤ (k : Int) := by omega
      go_wp2_with fail
      refine (bag_at_yes HB.out k p sp hsk).mono ?_
      rintro e w2 ⟨rfl, hg2⟩
      have hst2 := Hst.out.grown hg2 (by simp)
      have hO2 : OwnS w2 own' 1 39 3 A k c _ := HO.out.keep fun q hq ho => ⟨hg2.block q hq (by simp), ho⟩
      have Hst2 := Lib.hid hst2; clear hst2 hg2
      have HO2 := Lib.hid hO2; clear hO2
      have hnews : Rd ((w2.alloc (.cells #[.int .i64 p.src, .int .i64 p.dst, .string p.bytes] 39)).alloc (.cells #[.int .i64 p.src, .int .i64 p.dst, .string p.bytes] 39)) 3 (some ⟨w2.heap.size + 1, 0, none⟩) 1 [.int .i64 p.src, .int .i64 p.dst, .string p.bytes] := by
        have hb := Blk.new (w2.alloc (.cells #[.int .i64 p.src, .int .i64 p.dst, .string p.bytes] 39)) 39 #[.int .i64 p.src, .int .i64 p.dst, .string p.bytes]
        rw [show (w2.alloc (.cells #[.int .i64 p.src, .int .i64 p.dst, .string p.bytes] 39)).heap.size = w2.heap.size + 1 by simp] at hb
        exact Rd.of_blk hb (by simp) (fun j u h => by simpa using h)
      have Hnews := Lib.hid hnews; clear hnews
      go_wp2_with (at_builtin; refine wpList_mine rfl (.tmp 18) (.tmp 20) 26 rfl 39 i0 (.agg #[.int .i64 0, .int .i64 0, .string ByteArray.empty]) 3 32 Try.underlying26 hi hz0 hz1 hz2 rfl (by decide) own' 1 A k c _ (by rfl) ((HO2.out.alloc _).alloc _) (some ⟨w2.heap.size + 1, 0, none⟩) 1 1 [.int .i64 p.src, .int .i64 p.dst, .string p.bytes] (by rfl) Hnews.out (by simp [Value.oneCell']) (by unfold maxLen; omega) (by omega) ?_; intro A3 c3 w3 own3 hO3 st3; have HO3 := Lib.hid hO3; clear hO3; have Hst3 := Lib.hid st3; clear st3)
      go_roundw
      case rel => exact ⟨k + 1, by omega, by go_num, A3, c3, own3, rfl, Hst2.out.trans ((((Step.refl 1 w2 own').alloc _).alloc _).trans Hst3.out), by rw [← Hpt.out]; exact HO3.out⟩
      case measure => simp [intOf]; omega
    · obtain rfl : k = n := by omega
      have Hst := Lib.hid st; clear st
      have HO := Lib.hid hO; clear hO
      go_wp2
      refine Hfin.out _ _ ⟨A, c, rfl, NewRow.of_mine Hst.out ?_⟩
      have := HO.out
      rwa [List.take_of_length_le (by rw [← Hps.out]; simp [Hn.out])] at this
end Go.Proofs.Ytiipioifjjemoaa
