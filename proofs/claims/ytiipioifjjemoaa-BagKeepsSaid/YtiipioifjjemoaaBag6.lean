/- A bag: Spoil. -/
import Derived.Test.YtiipioifjjemoaaFlip0
import Derived.Deep.CutRange
import Derived.Deep.DeepCutAuto
namespace Go.Proofs.Ytiipioifjjemoaa
open Go.RowKit
set_option linter.unusedVariables false

theorem qcells_spoil : ∀ (s : BSt) (k : Nat) (p : Pkt) (sb : ByteArray), s[k]? = some (p, false) → qcells (s.set k ({ p with bytes := sb }, true)) = ((qcells s).set (k * 4 + 3) (.bool true)).set (k * 4 + 2) (.string sb)
  | [], k, p, sb, h => by simp at h
  | x :: s, 0, p, sb, h => by
    simp only [List.getElem?_cons_zero, Option.some.injEq] at h
    subst h
    rfl
  | x :: s, k + 1, p, sb, h => by
    have ih := qcells_spoil s k p sb (by simpa using h)
    rw [show (k + 1) * 4 + 3 = k * 4 + 3 + 1 + 1 + 1 + 1 by omega, show (k + 1) * 4 + 2 = k * 4 + 2 + 1 + 1 + 1 + 1 by omega]
    simp only [List.set_cons_succ, qcells]
    rw [ih]
theorem pow_byte (e : Nat) (h : e < 8) : (2 : Int) ^ e % 256 = 2 ^ e := by
  have : e = 0 ∨ e = 1 ∨ e = 2 ∨ e = 3 ∨ e = 4 ∨ e = 5 ∨ e = 6 ∨ e = 7 := by omega
  rcases this with rfl | rfl | rfl | rfl | rfl | rfl | rfl | rfl <;> rfl
theorem flip_grown {W1 wr : World} {bk : Nat} (h : W1.grownBy wr (some bk)) (i : Nat) (u : Value) : W1.grownBy (wr.setCell ⟨bk, i, none⟩ u).drew (some bk) :=
  ⟨h.os, h.tape, h.output, by have := h.size; simpa using this, fun k hk hn => (Below.heap_setCell wr ⟨bk, i, none⟩ u k (fun e => hn (by rw [e]))).trans (h.block k hk hn)⟩
theorem spoil_blk {w W0 W1 wr : World} {b bk i : Nat} {cur : Array Value} {v : Value} (hb : Blk w b 59 cur) (hW : W0 = w.setCell ⟨b, i, none⟩ v) (h1 : W0.grownBy W1 none) (h2 : W1.grownBy wr (some bk)) (hne : b ≠ bk) : Blk wr b 59 (cur.setIfInBounds i v) := by
  have h0 : Blk W0 b 59 (cur.setIfInBounds i v) := by rw [hW]; exact hb.set_ i v
  exact (h0.grown h1 (by simp)).grown h2 (by simpa using hne)
theorem spoil_fin {w W0 W1 wr : World} {own : Nat → Nat} {l g b bk k n c : Nat} {cur : Array Value} {s s' : BSt} {sb : ByteArray} (ho : own g = 10 * l) (hob : own b = 10 * l + 1) (hb : Blk w g 53 #[.slice (some ⟨b, 0, none⟩) n c]) (hbb : Blk w b 59 cur)
    (hW : W0 = w.setCell ⟨b, k * 4 + 3, none⟩ (.bool true)) (h1 : W0.grownBy W1 none) (h2 : W1.grownBy wr (some bk)) (hbk : bk = w.heap.size) (hsl : s.length = n) (hs' : s'.length = s.length) (hl : n ≤ 4096) (hnc : n ≤ c) (hcm : c ≤ maxLen) (hcs : cur.size = c * 4)
    (hct : cur.toList.take (n * 4) = qcells s) (hk : k < n) (hq : qcells s' = ((qcells s).set (k * 4 + 3) (.bool true)).set (k * 4 + 2) (.string sb)) (v : Value) :
    BagRet l own w g v s' (.returned v) (wr.setCell ⟨b, k * 4 + 2, none⟩ (.string sb)) := by
  have hbl := hbb.lt
  have hwr := spoil_blk hbb hW h1 h2 (by omega)
  have hgb : give own w.heap.size (10 * l + 1) b = 10 * l + 1 := (give_old hbl).trans hob
  have st : Step (10 * l + 1) w own wr (give own w.heap.size (10 * l + 1)) := by
    have s0 : Step (10 * l + 1) w own W0 (give own w.heap.size (10 * l + 1)) := by
      rw [hW]
      exact ((Step.refl (10 * l + 1) w own).give_ (10 * l + 1)).setCell hgb _
    refine (s0.grown h1 (by simp)).grown h2 (fun q hq => ?_)
    injection hq with hq
    subst hq
    exact give_new (by omega)
  have st2 := st.setCell (p := ⟨b, k * 4 + 2, none⟩) hgb (.string sb)
  have q := st2.other (j := 10 * l) (by omega) hb.lt ho
  have hw2 := hwr.set_ (k * 4 + 2) (.string sb)
  rw [← hsl] at hb hct hnc
  refine ⟨rfl, _, st2.toG (by omega), q.2, by omega, some ⟨b, 0, none⟩, c, ?_, ?_, .inr ⟨b, _, rfl, hgb, hw2, by omega, hcm, by simpa using hcs, ?_⟩⟩
  · rw [hs']
    exact hb.of_eq q.1
  · rw [qcells_length]
  · rw [hs', Array.toList_setIfInBounds, Array.toList_setIfInBounds, List.take_set, List.take_set, hct, hq]

section
variable {w : World} {own : Nat → Nat} {l g : Nat} {s : BSt}
theorem bag_spoil_none (h : BagAt w own l g s) (x bit mask : Int) (hx : x < 0 ∨ (s.length : Int) ≤ x) :
    Calls Try.prog 18 #[.pointer (some ⟨g, 0, none⟩), .int .i64 x, .int .i64 bit, .int .u32 mask] w fun e w' => e = .returned (.int .i64 11) ∧ w = w' := by
  obtain ⟨ho, hl, A, c, hb, hO⟩ := h
  have Hb := Lib.hid hb; clear hb
  have Hx := Lib.hid hx; clear hx hO
  go_enter Try.func18, Try.ntmps18
  go_wp2_with fail
  refine (there_no Hb.out x Hx.out).mono ?_
  rintro e w' ⟨rfl, rfl⟩
  go_wp2
  go_ret
  exact ⟨rfl, rfl⟩

theorem own_block {A : Option Addr} {n c i : Nat} {xs : List Value} (h : OwnS w own i 59 4 A n c xs) (hn : 0 < n) : ∃ b cur, A = some ⟨b, 0, none⟩ ∧ own b = i ∧ Blk w b 59 cur ∧ n ≤ c ∧ c ≤ maxLen ∧ cur.size = c * 4 ∧ cur.toList.take (n * 4) = xs := by
  rcases h.2 with ⟨_, h0, _⟩ | ⟨b, cur, e, h1⟩
  · omega
  · exact ⟨b, cur, e, h1⟩
theorem take_get {cur : Array Value} {n : Nat} {xs : List Value} (h : cur.toList.take n = xs) {j : Nat} {u : Value} (hx : xs[j]? = some u) : cur[j]? = some u := by
  rw [← h, List.getElem?_take] at hx
  split at hx
  · simpa using hx
  · cases hx

theorem bag_spoil_twice (h : BagAt w own l g s) (k : Nat) (p : Pkt) (bit mask : Int) (hk : s[k]? = some (p, true)) :
    Calls Try.prog 18 #[.pointer (some ⟨g, 0, none⟩), .int .i64 (k : Int), .int .i64 bit, .int .u32 mask] w fun e w' => e = .returned (.int .i64 12) ∧ w = w' := by
  obtain ⟨ho, hl, A, c, hb, hO⟩ := h
  have hkl : k < s.length := (List.getElem?_eq_some_iff.1 hk).1
  obtain ⟨b, cur, rfl, hob, hbb, hnc, hcm, hcs, hct⟩ := own_block hO (by omega)
  obtain ⟨q0, q1, q2, q3⟩ := qcells_get k s _ hk
  have c3 := (hbb.cell (k * 4 + 3)).trans (take_get hct q3)
  obtain ⟨n, hn⟩ : ∃ n, s.length = n := ⟨_, rfl⟩
  rw [hn] at hb hkl
  have h0 := hb.cell 0
  simp only [List.getElem?_toArray, List.getElem?_cons_zero] at h0
  have Hb := Lib.hid hb; clear hb hO hbb hct q0 q1 q2 q3 hk hn hcs
  have hk0 : (0 : Int) ≤ (k : Int) := by omega
  have hkn : (k : Int) < (n : Int) := by omega
  go_enter Try.func18, Try.ntmps18
  go_wp2_with fail
  refine (there_yes Hb.out k hkl).mono ?_
  rintro e w' ⟨rfl, rfl⟩
  go_wp2
  go_ret
  exact ⟨rfl, rfl⟩

set_option maxHeartbeats 4000000 in
set_option maxRecDepth 10000 in
theorem bag_spoil_in (h : BagAt w own l g s) (k : Nat) (p : Pkt) (bit mask : Int) (hk : s[k]? = some (p, false)) (hm0 : 0 ≤ mask) (hm1 : mask ≤ 4294967295) (hin : -32 ≤ bit) (hin2 : bit < 8 * (p.bytes.size : Int)) (hsz : p.bytes.size ≤ 1099511627776) :
    Calls Try.prog 18 #[.pointer (some ⟨g, 0, none⟩), .int .i64 (k : Int), .int .i64 bit, .int .u32 mask] w (BagRet l own w g (.int .i64 0) (s.set k ({ p with bytes := spoilt p.bytes bit mask }, true))) := by
  have kc := fun (w : World) (s : ByteArray) => run_bytes_of_string (P := Try.prog) w 9 62 5 s Try.underlying9 Try.underlying62 Try.underlying5
  obtain ⟨ho, hl, A, c, hb, hO⟩ := h
  have hkl : k < s.length := (List.getElem?_eq_some_iff.1 hk).1
  obtain ⟨b, cur, rfl, hob, hbb, hnc, hcm, hcs, hct⟩ := own_block hO (by omega)
  obtain ⟨q0, q1, q2, q3⟩ := qcells_get k s _ hk
  have hq2 : cur[k * 4 + 2]? = some (.string p.bytes) := take_get hct q2
  have c2 := (hbb.cell (k * 4 + 2)).trans hq2
  have c3 := (hbb.cell (k * 4 + 3)).trans (take_get hct q3)
  have f3 := hbb.free (k * 4 + 3)
  have hqs := fun sb => qcells_spoil s k p sb hk
  have Hqs := Lib.hid hqs; clear hqs
  obtain ⟨n, hn⟩ : ∃ n, s.length = n := ⟨_, rfl⟩
  rw [hn] at hb hkl hnc hct hl
  have h0 := hb.cell 0
  simp only [List.getElem?_toArray, List.getElem?_cons_zero] at h0
  have Hb := Lib.hid hb; clear hb
  have Hct := Lib.hid hct; clear hct
  have Hbb := Lib.hid hbb; clear hbb hO q0 q1 q2 q3
  have hk0 : (0 : Int) ≤ (k : Int) := by omega
  have hkn : (k : Int) < (n : Int) := by omega
  obtain ⟨pb, hpb⟩ : ∃ pb, p.bytes = pb := ⟨_, rfl⟩
  rw [hpb] at c2 hin2 hsz hq2
  have Hq2 := Lib.hid hq2; clear hq2
  have Hpb := Lib.hid hpb; clear hpb hk
  have Hcs := Lib.hid hcs; clear hcs
  have Hn := Lib.hid hn; clear hn
  have hnb : b ≠ g := Hbb.out.ne_ Hb.out (by decide)
  go_enter Try.func18, Try.ntmps18
  go_wp2_with fail
  refine (there_yes Hb.out k hkl).mono ?_
  rintro e w' ⟨rfl, rfl⟩
  go_wp2_with fail
  have hbl := Hbb.out.lt
  obtain ⟨W0, hW0⟩ : ∃ W0, W0 = w.setCell ⟨b, k * 4 + 3, none⟩ (.bool true) := ⟨_, rfl⟩
  obtain ⟨bk, hbk⟩ : ∃ bk, bk = w.heap.size := ⟨_, rfl⟩
  rw [← hW0, ← hbk]
  obtain ⟨cap, hcap⟩ : ∃ cap, cap = grownCap W0 pb.size 0 5 := ⟨_, rfl⟩
  rw [← hcap]
  have hW0s : W0.heap.size = bk := by rw [hW0, hbk]; simp
  have hBB : BBlk (W0.alloc (.cells (bytesRow pb cap) 5 ((bytesRow pb cap).size, (bytesRow pb cap).size + 1))) bk (bytesRow pb cap) ((bytesRow pb cap).size, (bytesRow pb cap).size + 1) := by
    rw [← hW0s]
    exact heap_alloc_new W0 _
  have hg1 := World.grownBy_alloc W0 (.cells (bytesRow pb cap) 5 ((bytesRow pb cap).size, (bytesRow pb cap).size + 1)) none
  generalize W0.alloc (.cells (bytesRow pb cap) 5 ((bytesRow pb cap).size, (bytesRow pb cap).size + 1)) = W1 at hBB hg1 ⊢
  have hcb : pb.size ≤ cap := by rw [hcap]; exact grownCap_ge W0 pb.size 0 5
  have Hby := Lib.hid (Bytes.of_row pb cap)
  have hmk : (bytesRow pb cap).size ≤ ((bytesRow pb cap).size, (bytesRow pb cap).size + 1).1 := Nat.le_refl _
  generalize bytesRow pb cap = cs0 at hBB Hby hmk
  generalize (cs0.size, cs0.size + 1) = mm at hBB hmk
  have HW0 := Lib.hid hW0; clear hW0
  have Hbk := Lib.hid hbk; clear hbk
  have Hcap := Lib.hid hcap; clear hcap kc h0 c2 c3 f3
  have HW0s := Lib.hid hW0s; clear hW0s
  go_loopw [36] (fun v wr => ∃ j : Nat, j ≤ 32 ∧ v = .int .i64 j ∧ ∃ cs, BBlk wr bk cs mm ∧ cs.size ≤ mm.1 ∧ Hid (Bytes (flips pb.data.toList bit (maskOn mask) j) cs) ∧ W1.grownBy wr (some bk)) (fun v _ => 32 - (intOf v).toNat)
  case atStart => exact ⟨0, by omega, rfl, cs0, hBB, hmk, Hby, ⟨rfl, rfl, rfl, Nat.le_refl _, fun _ _ _ => rfl⟩⟩
  case round =>
    clear hBB Hby hmk
    obtain ⟨j, hj, rfl, cs, hBB, hmk, Hby, hgw⟩ := hrel
    by_cases hlt : j < 32
    · have hj0 : (0 : Int) ≤ (j : Int) := by omega
      have hj32 : (j : Int) < 32 := by omega
      have Hgw := Lib.hid hgw; clear hgw
      by_cases hc : maskOn mask j = true ∧ 0 ≤ bit + (j : Int) ∧ bit + (j : Int) < 8 * (pb.size : Int)
      · obtain ⟨hon, he0, he1⟩ := hc
        have hq : bits BinOp.and IntKind.u32 (mask / 2 ^ j) 1 = 1 := by
          rw [mask_bit mask hm0 hm1 j]
          simpa [maskOn] using hon
        obtain ⟨e, he⟩ : ∃ e : Nat, bit + (j : Int) = (e : Int) := ⟨(bit + (j : Int)).toNat, by omega⟩
        have hel : e < 8 * pb.size := by omega
        have hfl : (flips pb.data.toList bit (maskOn mask) j).length = pb.size := by rw [flips_length]; simp
        obtain ⟨bs, hbs⟩ : ∃ bs, flips pb.data.toList bit (maskOn mask) j = bs := ⟨_, rfl⟩
        rw [hbs] at hfl Hby
        obtain ⟨x, hx⟩ : ∃ x, bs[e / 8]? = some x := ⟨bs[e / 8]'(by omega), by simp⟩
        have y0 : wr.cell? ⟨bk, e / 8, none⟩ = some (.int .u8 (x.toNat : Int)) := (hBB.cell _).trans (Hby.out _ _ hx)
        have hcl : e / 8 < cs.size := (Array.getElem?_eq_some_iff.1 (Hby.out _ _ hx)).1
        have yf := hBB.free hmk (e / 8) hcl
        have Hon := Lib.hid hon; clear hon
        have Hx := Lib.hid hx; clear hx
        have Hbs := Lib.hid hbs; clear hbs
        have Hfl := Lib.hid hfl; clear hfl
        have hxb := x.toNat_lt
        have he00 : (0 : Int) ≤ (e : Int) := by omega
        have hel2 : (e : Int) < 8 * (pb.size : Int) := by omega
        have he8 : (e : Int) / 8 < (pb.size : Int) := by omega
        have he80 : (0 : Int) ≤ (e : Int) / 8 := by omega
        have HBB := Lib.hid hBB; clear hBB
        go_wp2_with fail
        go_region
        go_wp2_with fail
        have hpow := pow_byte (e % 8) (by omega)
        have hB2 := (HBB.out.set_ (e / 8) (.int .u8 (bits BinOp.xor IntKind.u8 (x.toNat : Int) (2 ^ (e % 8) % 256))))
        have hby2 : Bytes (flips pb.data.toList bit (maskOn mask) (j + 1)) (cs.setIfInBounds (e / 8) (.int .u8 (bits BinOp.xor IntKind.u8 (x.toNat : Int) (2 ^ (e % 8) % 256)))) := by
          have e1 : flips pb.data.toList bit (maskOn mask) (j + 1) = bs.set (e / 8) (xorb x (2 ^ (e % 8))) := by
            show (if maskOn mask j = true then flipAt (flips pb.data.toList bit (maskOn mask) j) (bit + (j : Int)) else flips pb.data.toList bit (maskOn mask) j) = _
            rw [if_pos Hon.out, Hbs.out, he]
            unfold flipAt
            rw [if_pos ⟨he00, by rw [Hfl.out]; exact hel2⟩, show ((e : Int) / 8).toNat = e / 8 by omega, show ((e : Int) % 8).toNat = e % 8 by omega]
            congr 2
            rw [List.getD_eq_getElem?_getD, Hx.out]
            rfl
          rw [e1, hpow, ← xorb_toNat]
          exact Hby.out.set_ (e / 8) _ (by rw [Hfl.out]; omega)
        go_roundw
        case rel => exact ⟨j + 1, by omega, by go_num, _, hB2, by simpa using hmk, Lib.hid hby2, flip_grown Hgw.out _ _⟩
        case measure => simp [intOf]; omega
      · have hsame : flips pb.data.toList bit (maskOn mask) (j + 1) = flips pb.data.toList bit (maskOn mask) j := by
          show (if maskOn mask j = true then flipAt (flips pb.data.toList bit (maskOn mask) j) (bit + (j : Int)) else flips pb.data.toList bit (maskOn mask) j) = _
          split
          · rename_i hon
            unfold flipAt
            rw [if_neg]
            rw [flips_length]
            simp only [Array.length_toList]
            exact fun h => hc ⟨hon, h.1, h.2⟩
          · rfl
        have hby2 : Hid (Bytes (flips pb.data.toList bit (maskOn mask) (j + 1)) cs) := by rw [hsame]; exact Hby
        clear hsame
        have HBB := Lib.hid hBB; clear hBB
        by_cases hon : maskOn mask j = true
        · have hq : bits BinOp.and IntKind.u32 (mask / 2 ^ j) 1 = 1 := by
            rw [mask_bit mask hm0 hm1 j]
            simpa [maskOn] using hon
          by_cases he0 : 0 ≤ bit + (j : Int)
          · have he1 : 8 * (pb.size : Int) ≤ bit + (j : Int) := by
              rcases Int.lt_or_le (bit + (j : Int)) (8 * (pb.size : Int)) with h | h
              · exact absurd ⟨hon, he0, h⟩ hc
              · exact h
            clear hc hon
            have hd : decide (bit + (j : Int) < 8 * (pb.size : Int)) = false := by simp; omega
            go_wp2_with fail
            go_roundw
            case rel => exact ⟨j + 1, by omega, by go_num, cs, HBB.out, hmk, hby2, Hgw.out⟩
            case measure => simp [intOf]; omega
          · have hd : decide (0 ≤ bit + (j : Int)) = false := by simp; omega
            clear hc hon
            go_wp2_with fail
            go_roundw
            case rel => exact ⟨j + 1, by omega, by go_num, cs, HBB.out, hmk, hby2, Hgw.out⟩
            case measure => simp [intOf]; omega
        · have hq : (bits BinOp.and IntKind.u32 (mask / 2 ^ j) 1 == 1) = false := by
            rw [mask_bit mask hm0 hm1 j]
            simpa [maskOn] using hon
          clear hc hon
          go_wp2_with fail
          go_roundw
          case rel => exact ⟨j + 1, by omega, by go_num, cs, HBB.out, hmk, hby2, Hgw.out⟩
          case measure => simp [intOf]; omega
    · obtain rfl : j = 32 := by omega
      have kb : (convert 62 9 (.slice (some ⟨bk, 0, none⟩) pb.size cap)).run Try.prog wr = .ok (.string ⟨(flips pb.data.toList bit (maskOn mask) 32).toArray⟩) wr := by
        have hl32 : (flips pb.data.toList bit (maskOn mask) 32).length = pb.size := by rw [flips_length]; simp
        have := run_convert_bytes_back (P := Try.prog) wr 62 9 5 ⟨bk, 0, none⟩ cap (flips pb.data.toList bit (maskOn mask) 32) Try.underlying62 Try.underlying5 Try.underlying9 (fun q hq => by
          rw [add_lit, Nat.zero_add, hBB.cell]
          exact Hby.out q _ (by simp [hq]))
        rw [hl32] at this
        exact this
      have hsp : spoilt pb bit mask = ⟨(flips pb.data.toList bit (maskOn mask) 32).toArray⟩ := by unfold spoilt; rw [if_pos ⟨hin, hin2⟩]
      rw [← hsp] at kb
      clear hsp hBB Hby hmk
      generalize hsb : spoilt pb bit mask = sb at kb
      have Hsb := Lib.hid hsb; clear hsb
      have hbw := spoil_blk Hbb.out HW0.out hg1 hgw (by rw [Hbk.out]; exact Nat.ne_of_lt hbl)
      have f2 := hbw.free (k * 4 + 2)
      have c2 : wr.cell? ⟨b, k * 4 + 2, none⟩ = some (.string pb) := by
        rw [hbw.cell, Array.getElem?_setIfInBounds_ne (by omega)]
        exact Hq2.out
      clear hbw
      have Hg1 := Lib.hid hg1; clear hg1
      have Hgw := Lib.hid hgw; clear hgw
      go_wp2
      go_ret
      rw [Hpb.out, Hsb.out]
      exact spoil_fin ho hob Hb.out Hbb.out HW0.out Hg1.out Hgw.out Hbk.out Hn.out (by simp) hl hnc hcm Hcs.out Hct.out hkl (Hqs.out sb) _
end
end Go.Proofs.Ytiipioifjjemoaa
