/- A bag: Spoil out of range; Spoil in all cases. -/
import Derived.Test.YtiipioifjjemoaaBag6
import Derived.Deep.CutRange
import Derived.Deep.DeepCutAuto
namespace Go.Proofs.Ytiipioifjjemoaa
open Go.RowKit
set_option linter.unusedVariables false
section
variable {w : World} {own : Nat → Nat} {l g : Nat} {s : BSt}
set_option maxHeartbeats 4000000 in
set_option maxRecDepth 10000 in
theorem bag_spoil_out (h : BagAt w own l g s) (k : Nat) (p : Pkt) (bit mask : Int) (hk : s[k]? = some (p, false)) (hm0 : 0 ≤ mask) (hm1 : mask ≤ 4294967295) (hout : bit < -32 ∨ 8 * (p.bytes.size : Int) ≤ bit) (hsz : p.bytes.size ≤ 1099511627776) :
    Calls Try.prog 18 #[.pointer (some ⟨g, 0, none⟩), .int .i64 (k : Int), .int .i64 bit, .int .u32 mask] w (BagRet l own w g (.int .i64 0) (s.set k ({ p with bytes := spoilt p.bytes bit mask }, true))) := by
  have kc := fun (w : World) (s : ByteArray) => run_bytes_of_string (P := Try.prog) w 9 62 5 s Try.underlying9 Try.underlying62 Try.underlying5
  obtain ⟨ho, hl, A, c, hb, hO⟩ := h
  have hkl : k < s.length := (List.getElem?_eq_some_iff.1 hk).1
  obtain ⟨b, cur, rfl, hob, hbb, hnc, hcm, hcs, hct⟩ := own_block hO (by omega)
  obtain ⟨q0, q1, q2, q3⟩ := qcells_get k s _ hk
  have hq2 : cur[k * 4 + 2]? = some (.string p.bytes) := take_get hct q2
  have c2 := (hbb.cell (k * 4 + 2)).trans hq2
  have c3 := (hbb.cell (k * 4 + 3)).trans (take_get hct q3)
  have f3 := hbb.free (k * 4 + 3)
  have hqs := fun sb => qcells_spoil s k p sb hk
  have Hqs := Lib.hid hqs; clear hqs
  obtain ⟨n, hn⟩ : ∃ n, s.length = n := ⟨_, rfl⟩
  rw [hn] at hb hkl hnc hct hl
  have h0 := hb.cell 0
  simp only [List.getElem?_toArray, List.getElem?_cons_zero] at h0
  have Hb := Lib.hid hb; clear hb
  have Hct := Lib.hid hct; clear hct
  have Hbb := Lib.hid hbb; clear hbb hO q0 q1 q2 q3
  have hk0 : (0 : Int) ≤ (k : Int) := by omega
  have hkn : (k : Int) < (n : Int) := by omega
  obtain ⟨pb, hpb⟩ : ∃ pb, p.bytes = pb := ⟨_, rfl⟩
  rw [hpb] at c2 hout hsz hq2
  have Hout := Lib.hid hout; clear hout
  have Hq2 := Lib.hid hq2; clear hq2
  have Hpb := Lib.hid hpb; clear hpb hk
  have Hcs := Lib.hid hcs; clear hcs
  have Hn := Lib.hid hn; clear hn
  have hnb : b ≠ g := Hbb.out.ne_ Hb.out (by decide)
  go_enter Try.func18, Try.ntmps18
  go_wp2_with fail
  refine (there_yes Hb.out k hkl).mono ?_
  rintro e w' ⟨rfl, rfl⟩
  go_wp2_with fail
  have hbl := Hbb.out.lt
  obtain ⟨W0, hW0⟩ : ∃ W0, W0 = w.setCell ⟨b, k * 4 + 3, none⟩ (.bool true) := ⟨_, rfl⟩
  obtain ⟨bk, hbk⟩ : ∃ bk, bk = w.heap.size := ⟨_, rfl⟩
  rw [← hW0, ← hbk]
  obtain ⟨cap, hcap⟩ : ∃ cap, cap = grownCap W0 pb.size 0 5 := ⟨_, rfl⟩
  rw [← hcap]
  have hW0s : W0.heap.size = bk := by rw [hW0, hbk]; simp
  have hBB : BBlk (W0.alloc (.cells (bytesRow pb cap) 5 ((bytesRow pb cap).size, (bytesRow pb cap).size + 1))) bk (bytesRow pb cap) ((bytesRow pb cap).size, (bytesRow pb cap).size + 1) := by
    rw [← hW0s]
    exact heap_alloc_new W0 _
  have hg1 := World.grownBy_alloc W0 (.cells (bytesRow pb cap) 5 ((bytesRow pb cap).size, (bytesRow pb cap).size + 1)) none
  generalize W0.alloc (.cells (bytesRow pb cap) 5 ((bytesRow pb cap).size, (bytesRow pb cap).size + 1)) = W1 at hBB hg1 ⊢
  have hcb : pb.size ≤ cap := by rw [hcap]; exact grownCap_ge W0 pb.size 0 5
  have Hby := Lib.hid (Bytes.of_row pb cap)
  have hmk : (bytesRow pb cap).size ≤ ((bytesRow pb cap).size, (bytesRow pb cap).size + 1).1 := Nat.le_refl _
  generalize bytesRow pb cap = cs0 at hBB Hby hmk
  generalize (cs0.size, cs0.size + 1) = mm at hBB hmk
  have HW0 := Lib.hid hW0; clear hW0
  have Hbk := Lib.hid hbk; clear hbk
  have Hcap := Lib.hid hcap; clear hcap kc h0 c2 c3 f3
  have HW0s := Lib.hid hW0s; clear hW0s
  go_loopw [36] (fun v wr => ∃ j : Nat, j ≤ 32 ∧ v = .int .i64 j ∧ BBlk wr bk cs0 mm ∧ W1.grownBy wr (some bk)) (fun v _ => 32 - (intOf v).toNat)
  case atStart => exact ⟨0, by omega, rfl, hBB, ⟨rfl, rfl, rfl, Nat.le_refl _, fun _ _ _ => rfl⟩⟩
  case round =>
    clear hBB
    obtain ⟨j, hj, rfl, hBB, hgw⟩ := hrel
    by_cases hlt : j < 32
    · have hj0 : (0 : Int) ≤ (j : Int) := by omega
      have hj32 : (j : Int) < 32 := by omega
      have HBB := Lib.hid hBB; clear hBB
      have Hgw := Lib.hid hgw; clear hgw
      by_cases hon : maskOn mask j = true
      · have hq : bits BinOp.and IntKind.u32 (mask / 2 ^ j) 1 = 1 := by
          rw [mask_bit mask hm0 hm1 j]
          simpa [maskOn] using hon
        clear hon
        rcases Int.lt_or_le bit (-32) with hlo | hlo
        · have hd : decide (-32 ≤ bit) = false := by simp; omega
          go_wp2_with fail
          go_roundw
          case rel => exact ⟨j + 1, by omega, by go_num, HBB.out, Hgw.out⟩
          case measure => simp [intOf]; omega
        · have hhi : 8 * (pb.size : Int) ≤ bit := by
            rcases Hout.out with h | h
            · omega
            · exact h
          have hd : decide (bit < 8 * (pb.size : Int)) = false := by simp; omega
          go_wp2_with fail
          go_roundw
          case rel => exact ⟨j + 1, by omega, by go_num, HBB.out, Hgw.out⟩
          case measure => simp [intOf]; omega
      · have hq : (bits BinOp.and IntKind.u32 (mask / 2 ^ j) 1 == 1) = false := by
          rw [mask_bit mask hm0 hm1 j]
          simpa [maskOn] using hon
        clear hon
        go_wp2_with fail
        go_roundw
        case rel => exact ⟨j + 1, by omega, by go_num, HBB.out, Hgw.out⟩
        case measure => simp [intOf]; omega
    · obtain rfl : j = 32 := by omega
      have kb : (convert 62 9 (.slice (some ⟨bk, 0, none⟩) pb.size cap)).run Try.prog wr = .ok (.string ⟨pb.data.toList.toArray⟩) wr := by
        have hl32 : pb.data.toList.length = pb.size := by simp
        have := run_convert_bytes_back (P := Try.prog) wr 62 9 5 ⟨bk, 0, none⟩ cap pb.data.toList Try.underlying62 Try.underlying5 Try.underlying9 (fun q hq => by
          rw [add_lit, Nat.zero_add, hBB.cell]
          exact Hby.out q _ (by simp))
        rw [hl32] at this
        exact this
      have hsp : spoilt pb bit mask = pb := by
        unfold spoilt
        rw [if_neg]
        rcases Hout.out with h | h <;> omega
      rw [show (⟨pb.data.toList.toArray⟩ : ByteArray) = pb by simp] at kb
      clear hBB Hby hmk
      have Hsp := Lib.hid hsp; clear hsp
      have hbw := spoil_blk Hbb.out HW0.out hg1 hgw (by rw [Hbk.out]; exact Nat.ne_of_lt hbl)
      have f2 := hbw.free (k * 4 + 2)
      have c2 : wr.cell? ⟨b, k * 4 + 2, none⟩ = some (.string pb) := by
        rw [hbw.cell, Array.getElem?_setIfInBounds_ne (by omega)]
        exact Hq2.out
      clear hbw
      have Hg1 := Lib.hid hg1; clear hg1
      have Hgw := Lib.hid hgw; clear hgw
      go_wp2
      go_ret
      rw [Hpb.out, Hsp.out]
      exact spoil_fin ho hob Hb.out Hbb.out HW0.out Hg1.out Hgw.out Hbk.out Hn.out (by simp) hl hnc hcm Hcs.out Hct.out hkl (Hqs.out pb) _

theorem bag_spoil (h : BagAt w own l g s) (k : Nat) (p : Pkt) (bit mask : Int) (hk : s[k]? = some (p, false)) (hm0 : 0 ≤ mask) (hm1 : mask ≤ 4294967295) (hsz : p.bytes.size ≤ 1099511627776) :
    Calls Try.prog 18 #[.pointer (some ⟨g, 0, none⟩), .int .i64 (k : Int), .int .i64 bit, .int .u32 mask] w (BagRet l own w g (.int .i64 0) (s.set k ({ p with bytes := spoilt p.bytes bit mask }, true))) := by
  rcases Int.lt_or_le bit (-32) with h1 | h1
  · exact bag_spoil_out h k p bit mask hk hm0 hm1 (.inl h1) hsz
  · rcases Int.lt_or_le bit (8 * (p.bytes.size : Int)) with h2 | h2
    · exact bag_spoil_in h k p bit mask hk hm0 hm1 h1 h2 hsz
    · exact bag_spoil_out h k p bit mask hk hm0 hm1 (.inr h2) hsz
end
end Go.Proofs.Ytiipioifjjemoaa
