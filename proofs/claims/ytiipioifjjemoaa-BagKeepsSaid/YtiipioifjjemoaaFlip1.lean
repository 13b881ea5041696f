/- The reference's Flip. -/
import Derived.Test.YtiipioifjjemoaaBag7
namespace Go.Proofs.Ytiipioifjjemoaa
open Go.RowKit
set_option linter.unusedVariables false

theorem half_mask (mask : Int) (k : Nat) : mask / 2 ^ k / 2 = mask / 2 ^ (k + 1) := by
  rw [Int.ediv_ediv_of_nonneg (Int.pow_nonneg (by omega)), Int.pow_succ]
theorem grown_past {w W1 wr : World} {bk : Nat} (h1 : w.grownBy W1 none) (h2 : W1.grownBy wr (some bk)) (hb : bk = w.heap.size) : w.grownBy wr none :=
  ⟨h2.os.trans h1.os, h2.tape.trans h1.tape, h2.output.trans h1.output, Nat.le_trans h1.size h2.size, fun k hk hn => (h2.block k (Nat.lt_of_lt_of_le hk h1.size) (fun e => by injection e with e; omega)).trans (h1.block k hk (by simp))⟩
theorem flip_grown0 {W1 wr : World} {bk : Nat} (h : W1.grownBy wr (some bk)) (i : Nat) (u : Value) : W1.grownBy (wr.setCell ⟨bk, i, none⟩ u) (some bk) :=
  ⟨h.os, h.tape, h.output, by have := h.size; simpa using this, fun k hk hn => (Below.heap_setCell wr ⟨bk, i, none⟩ u k (fun e => hn (by rw [e]))).trans (h.block k hk hn)⟩
theorem pow_dbl (i : Nat) (h : i < 7) : IntKind.u8.wrap (2 ^ i * 2) = 2 ^ (i + 1) := by
  have : i = 0 ∨ i = 1 ∨ i = 2 ∨ i = 3 ∨ i = 4 ∨ i = 5 ∨ i = 6 := by omega
  rcases this with rfl | rfl | rfl | rfl | rfl | rfl | rfl <;> decide
theorem pow_lt8 (j : Nat) (h : j < 8) : (1 : Int) ≤ 2 ^ j ∧ (2 : Int) ^ j ≤ 128 := by
  have : j = 0 ∨ j = 1 ∨ j = 2 ∨ j = 3 ∨ j = 4 ∨ j = 5 ∨ j = 6 ∨ j = 7 := by omega
  rcases this with rfl | rfl | rfl | rfl | rfl | rfl | rfl | rfl <;> decide

set_option maxHeartbeats 4000000 in
set_option maxRecDepth 10000 in
theorem flip27 (w : World) (pb : ByteArray) (bit mask : Int) (hm0 : 0 ≤ mask) (hm1 : mask ≤ 4294967295) (hin : -32 ≤ bit) (hin2 : bit < 8 * (pb.size : Int)) (hsz : pb.size ≤ 1099511627776) :
    Calls Try.prog 27 #[.string pb, .int .i64 bit, .int .u32 mask] w (NewRet w (.string (spoilt pb bit mask))) := by
  have kc := fun (w : World) (s : ByteArray) => run_bytes_of_string (P := Try.prog) w 9 62 5 s Try.underlying9 Try.underlying62 Try.underlying5
  go_enter Try.func27, Try.ntmps27
  go_wp2_with fail
  obtain ⟨bk, hbk⟩ : ∃ bk, bk = w.heap.size := ⟨_, rfl⟩
  rw [← hbk]
  obtain ⟨cap, hcap⟩ : ∃ cap, cap = grownCap w pb.size 0 5 := ⟨_, rfl⟩
  rw [← hcap]
  have hBB : BBlk (w.alloc (.cells (bytesRow pb cap) 5 ((bytesRow pb cap).size, (bytesRow pb cap).size + 1))) bk (bytesRow pb cap) ((bytesRow pb cap).size, (bytesRow pb cap).size + 1) := by
    rw [hbk]
    exact heap_alloc_new w _
  have hg1 := World.grownBy_alloc w (.cells (bytesRow pb cap) 5 ((bytesRow pb cap).size, (bytesRow pb cap).size + 1)) none
  generalize w.alloc (.cells (bytesRow pb cap) 5 ((bytesRow pb cap).size, (bytesRow pb cap).size + 1)) = W1 at hBB hg1 ⊢
  have hcb : pb.size ≤ cap := by rw [hcap]; exact grownCap_ge w pb.size 0 5
  have Hby := Lib.hid (Bytes.of_row pb cap)
  have hmk : (bytesRow pb cap).size ≤ ((bytesRow pb cap).size, (bytesRow pb cap).size + 1).1 := Nat.le_refl _
  generalize bytesRow pb cap = cs0 at hBB Hby hmk
  generalize (cs0.size, cs0.size + 1) = mm at hBB hmk
  have Hbk := Lib.hid hbk; clear hbk
  have Hcap := Lib.hid hcap; clear hcap kc
  have Hg1 := Lib.hid hg1; clear hg1
  go_loopw [2, 8] (fun v2 v wr => ∃ j : Nat, j ≤ 32 ∧ v = .int .i64 j ∧ v2 = .int .u32 (mask / 2 ^ j) ∧ ∃ cs, BBlk wr bk cs mm ∧ cs.size ≤ mm.1 ∧ Hid (Bytes (flips pb.data.toList bit (maskOn mask) j) cs) ∧ W1.grownBy wr (some bk)) (fun _ v _ => 32 - (intOf v).toNat)
  case atStart => exact ⟨0, by omega, rfl, by simp, cs0, hBB, hmk, Hby, ⟨rfl, rfl, rfl, Nat.le_refl _, fun _ _ _ => rfl⟩⟩
  case round =>
    clear hBB Hby hmk
    obtain ⟨j, hj, rfl, rfl, cs, hBB, hmk, Hby, hgw⟩ := hrel
    by_cases hlt : j < 32
    · have hj0 : (0 : Int) ≤ (j : Int) := by omega
      have hj32 : (j : Int) < 32 := by omega
      have Hgw := Lib.hid hgw; clear hgw
      have hmh := half_mask mask j
      have hmp : 0 ≤ mask / 2 ^ j := Int.ediv_nonneg hm0 (Int.pow_nonneg (by omega))
      have hmq : mask / 2 ^ j ≤ 4294967295 := Int.le_trans (Int.ediv_le_self _ hm0) hm1
      obtain ⟨mj, hmj⟩ : ∃ mj, mask / 2 ^ j = mj := ⟨_, rfl⟩
      obtain ⟨mj2, hmj2⟩ : ∃ mj2, mask / 2 ^ (j + 1) = mj2 := ⟨_, rfl⟩
      rw [hmj] at hmh hmp hmq ⊢
      rw [hmj2] at hmh
      have Hmj2 := Lib.hid hmj2; clear hmj2
      have hon0 : maskOn mask j = (mj % 2 == 1) := by unfold maskOn; rw [hmj]
      clear hmj
      by_cases hc : maskOn mask j = true ∧ 0 ≤ bit + (j : Int) ∧ bit + (j : Int) < 8 * (pb.size : Int)
      · obtain ⟨hon, he0, he1⟩ := hc
        have hq : mj % 2 = 1 := by rw [hon0] at hon; simpa using hon
        obtain ⟨e, he⟩ : ∃ e : Nat, bit + (j : Int) = (e : Int) := ⟨(bit + (j : Int)).toNat, by omega⟩
        have hel : e < 8 * pb.size := by omega
        have hfl : (flips pb.data.toList bit (maskOn mask) j).length = pb.size := by rw [flips_length]; simp
        obtain ⟨bs, hbs⟩ : ∃ bs, flips pb.data.toList bit (maskOn mask) j = bs := ⟨_, rfl⟩
        rw [hbs] at hfl Hby
        obtain ⟨x, hx⟩ : ∃ x, bs[e / 8]? = some x := ⟨bs[e / 8]'(by omega), by simp⟩
        have hcl : e / 8 < cs.size := (Array.getElem?_eq_some_iff.1 (Hby.out _ _ hx)).1
        have Hon := Lib.hid hon; clear hon hon0
        have Hx := Lib.hid hx; clear hx
        have Hbs := Lib.hid hbs; clear hbs
        have Hfl := Lib.hid hfl; clear hfl
        have hxb := x.toNat_lt
        have he00 : (0 : Int) ≤ (e : Int) := by omega
        have hel2 : (e : Int) < 8 * (pb.size : Int) := by omega
        have he8 : (e : Int) / 8 < (pb.size : Int) := by omega
        have he80 : (0 : Int) ≤ (e : Int) / 8 := by omega
        have HBB := Lib.hid hBB; clear hBB
        go_wp2_with fail
        go_loopw [10, 11] (fun v10 v11 wr2 => ∃ i : Nat, i ≤ e % 8 ∧ v11 = .int .i64 i ∧ v10 = .int .u8 (2 ^ i) ∧ BBlk wr2 bk cs mm ∧ W1.grownBy wr2 (some bk)) (fun _ v _ => 8 - (intOf v).toNat)
        case atStart => exact ⟨0, by omega, rfl, rfl, HBB.out, Hgw.out⟩
        case round =>
          clear HBB Hgw
          obtain ⟨i, hi8, rfl, rfl, hBB, hgw⟩ := hrel
          have Hgw := Lib.hid hgw; clear hgw
          by_cases hil : i < e % 8
          · have hiI : (i : Int) < (e : Int) % 8 := by omega
            have hpd := pow_dbl i (by omega)
            have HBB := Lib.hid hBB; clear hBB
            go_wp2_with fail
            go_roundw
            case rel => exact ⟨i + 1, by omega, by go_num, rfl, HBB.out, Hgw.out⟩
            case measure => simp [intOf]; omega
          · obtain rfl : i = e % 8 := by omega
            have y0 : wr.cell? ⟨bk, e / 8, none⟩ = some (.int .u8 (x.toNat : Int)) := (hBB.cell _).trans (Hby.out _ _ Hx.out)
            have yf := hBB.free hmk (e / 8) hcl
            have HBB := Lib.hid hBB; clear hBB
            go_wp2_with fail
            have hB2 := (HBB.out.set_ (e / 8) (.int .u8 (bits BinOp.xor IntKind.u8 (x.toNat : Int) (2 ^ (e % 8)))))
            have hby2 : Bytes (flips pb.data.toList bit (maskOn mask) (j + 1)) (cs.setIfInBounds (e / 8) (.int .u8 (bits BinOp.xor IntKind.u8 (x.toNat : Int) (2 ^ (e % 8))))) := by
              have e1 : flips pb.data.toList bit (maskOn mask) (j + 1) = bs.set (e / 8) (xorb x (2 ^ (e % 8))) := by
                show (if maskOn mask j = true then flipAt (flips pb.data.toList bit (maskOn mask) j) (bit + (j : Int)) else flips pb.data.toList bit (maskOn mask) j) = _
                rw [if_pos Hon.out, Hbs.out, he]
                unfold flipAt
                rw [if_pos ⟨he00, by rw [Hfl.out]; exact hel2⟩, show ((e : Int) / 8).toNat = e / 8 by omega, show ((e : Int) % 8).toNat = e % 8 by omega]
                congr 2
                rw [List.getD_eq_getElem?_getD, Hx.out]
                rfl
              rw [e1, ← xorb_toNat]
              exact Hby.out.set_ (e / 8) _ (by rw [Hfl.out]; omega)
            go_roundw
            case rel => exact ⟨j + 1, by omega, by go_num, by rw [Hmj2.out, hmh], _, hB2, by simpa using hmk, Lib.hid hby2, flip_grown0 Hgw.out _ _⟩
            case measure => simp [intOf]; omega
      · have hsame : flips pb.data.toList bit (maskOn mask) (j + 1) = flips pb.data.toList bit (maskOn mask) j := by
          show (if maskOn mask j = true then flipAt (flips pb.data.toList bit (maskOn mask) j) (bit + (j : Int)) else flips pb.data.toList bit (maskOn mask) j) = _
          split
          · rename_i hon
            unfold flipAt
            rw [if_neg]
            rw [flips_length]
            simp only [Array.length_toList]
            exact fun h => hc ⟨hon, h.1, h.2⟩
          · rfl
        have hby2 : Hid (Bytes (flips pb.data.toList bit (maskOn mask) (j + 1)) cs) := by rw [hsame]; exact Hby
        clear hsame
        have HBB := Lib.hid hBB; clear hBB
        by_cases hon : maskOn mask j = true
        · have hq : mj % 2 = 1 := by rw [hon0] at hon; simpa using hon
          by_cases he0 : 0 ≤ bit + (j : Int)
          · have he1 : 8 * (pb.size : Int) ≤ bit + (j : Int) := by
              rcases Int.lt_or_le (bit + (j : Int)) (8 * (pb.size : Int)) with h | h
              · exact absurd ⟨hon, he0, h⟩ hc
              · exact h
            clear hc hon hon0
            have hd : decide (bit + (j : Int) < 8 * (pb.size : Int)) = false := by simp; omega
            go_wp2_with fail
            go_roundw
            case rel => exact ⟨j + 1, by omega, by go_num, by rw [Hmj2.out, hmh], cs, HBB.out, hmk, hby2, Hgw.out⟩
            case measure => simp [intOf]; omega
          · have hd : decide (0 ≤ bit + (j : Int)) = false := by simp; omega
            clear hc hon hon0
            go_wp2_with fail
            go_roundw
            case rel => exact ⟨j + 1, by omega, by go_num, by rw [Hmj2.out, hmh], cs, HBB.out, hmk, hby2, Hgw.out⟩
            case measure => simp [intOf]; omega
        · have hq : (mj % 2 == 1) = false := by rw [hon0] at hon; simpa using hon
          clear hc hon hon0
          go_wp2_with fail
          go_roundw
          case rel => exact ⟨j + 1, by omega, by go_num, by rw [Hmj2.out, hmh], cs, HBB.out, hmk, hby2, Hgw.out⟩
          case measure => simp [intOf]; omega
    · obtain rfl : j = 32 := by omega
      have kb : (convert 62 9 (.slice (some ⟨bk, 0, none⟩) pb.size cap)).run Try.prog wr = .ok (.string ⟨(flips pb.data.toList bit (maskOn mask) 32).toArray⟩) wr := by
        have hl32 : (flips pb.data.toList bit (maskOn mask) 32).length = pb.size := by rw [flips_length]; simp
        have := run_convert_bytes_back (P := Try.prog) wr 62 9 5 ⟨bk, 0, none⟩ cap (flips pb.data.toList bit (maskOn mask) 32) Try.underlying62 Try.underlying5 Try.underlying9 (fun q hq => by
          rw [add_lit, Nat.zero_add, hBB.cell]
          exact Hby.out q _ (by simp [hq]))
        rw [hl32] at this
        exact this
      have hsp : spoilt pb bit mask = ⟨(flips pb.data.toList bit (maskOn mask) 32).toArray⟩ := by unfold spoilt; rw [if_pos ⟨hin, hin2⟩]
      rw [← hsp] at kb
      clear hsp hBB Hby hmk
      generalize hsb : spoilt pb bit mask = sb at kb
      have Hsb := Lib.hid hsb; clear hsb
      have Hgw := Lib.hid hgw; clear hgw
      go_wp2
      go_ret
      rw [Hsb.out]
      exact ⟨rfl, grown_past Hg1.out Hgw.out Hbk.out⟩
end Go.Proofs.Ytiipioifjjemoaa
