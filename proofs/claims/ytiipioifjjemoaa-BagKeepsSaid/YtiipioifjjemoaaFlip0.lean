/- Bits of bytes that change: plain lemmas. -/
import Derived.Test.YtiipioifjjemoaaBag5
import Derived.Laws.IdiomStrings
import Derived.Laws.Closers25b
namespace Go.Proofs.Ytiipioifjjemoaa
open Go.RowKit
set_option linter.unusedVariables false

def xorb (b : UInt8) (m : Int) : UInt8 := UInt8.ofNat (bits .xor .u8 (b.toNat : Int) m).toNat
theorem xorb_toNat (b : UInt8) (m : Int) : ((xorb b m).toNat : Int) = bits .xor .u8 (b.toNat : Int) m := by
  have h1 := bits_lo_u8 .xor (b.toNat : Int) m
  have h2 := bits_hi_u8 .xor (b.toNat : Int) m
  unfold xorb
  simp
  omega
/-- bit e (from the first byte's lowest bit on) is changed -/
def flipAt (bs : List UInt8) (e : Int) : List UInt8 :=
  if 0 ≤ e ∧ e < 8 * (bs.length : Int) then bs.set (e / 8).toNat (xorb (bs.getD (e / 8).toNat 0) (2 ^ (e % 8).toNat)) else bs
theorem flipAt_length (bs : List UInt8) (e : Int) : (flipAt bs e).length = bs.length := by unfold flipAt; split <;> simp
def flips (bs : List UInt8) (bit : Int) (on : Nat → Bool) : Nat → List UInt8
  | 0 => bs
  | k + 1 => if on k then flipAt (flips bs bit on k) (bit + k) else flips bs bit on k
theorem flips_length (bs : List UInt8) (bit : Int) (on : Nat → Bool) : ∀ k, (flips bs bit on k).length = bs.length
  | 0 => rfl
  | k + 1 => by unfold flips; split <;> simp [flipAt_length, flips_length bs bit on k]
def maskOn (mask : Int) (k : Nat) : Bool := (mask / 2 ^ k) % 2 == 1
/-- what Spoil makes of bytes -/
def spoilt (s : ByteArray) (bit mask : Int) : ByteArray :=
  if -32 ≤ bit ∧ bit < 8 * (s.size : Int) then ⟨(flips s.data.toList bit (maskOn mask) 32).toArray⟩ else s

theorem bits_and_one (x : Nat) (h1 : x < 4294967296) : bits .and .u32 (x : Int) 1 = ((x % 2 : Nat) : Int) := by
  have e1 : (BitVec.ofInt 32 (x : Int)).toNat = x := by
    rw [BitVec.toNat_ofInt]
    omega
  have e2 : (BitVec.ofInt 32 (1 : Int)).toNat = 1 := by decide
  show IntKind.u32.wrap (((BitVec.ofInt 32 (x : Int)) &&& (BitVec.ofInt 32 (1 : Int))).toNat : Int) = _
  rw [BitVec.toNat_and, e1, e2, Nat.and_one_is_mod]
  simp [IntKind.wrap, IntKind.bits, IntKind.signed]
  omega
theorem mask_bit (mask : Int) (h0 : 0 ≤ mask) (h1 : mask ≤ 4294967295) (j : Nat) : bits .and .u32 (mask / 2 ^ j) 1 = (mask / 2 ^ j) % 2 := by
  obtain ⟨x, hx⟩ : ∃ x : Nat, mask / 2 ^ j = (x : Int) := ⟨(mask / 2 ^ j).toNat, by
    have := Int.ediv_nonneg h0 (show (0 : Int) ≤ 2 ^ j from Int.pow_nonneg (by omega))
    omega⟩
  have hle : mask / 2 ^ j ≤ mask := Int.ediv_le_self _ h0
  rw [hx, bits_and_one x (by omega)]
  omega

/-- a block of bytes, whatever its mark behind -/
def BBlk (w : World) (g : Nat) (cs : Array Value) (m : Nat × Nat) : Prop := w.heap[g]? = some (.cells cs 5 m)
section
variable {w : World} {g : Nat} {cs : Array Value} {m : Nat × Nat}
theorem BBlk.lt (h : BBlk w g cs m) : g < w.heap.size := by
  rcases Nat.lt_or_ge g w.heap.size with hlt | hge
  · exact hlt
  · unfold BBlk at h; rw [Array.getElem?_eq_none hge] at h; cases h
theorem BBlk.cell (h : BBlk w g cs m) (i : Nat) : w.cell? ⟨g, i, none⟩ = cs[i]? := cell_of_row w g i cs 5 m h
theorem BBlk.set_ (h : BBlk w g cs m) (i : Nat) (u : Value) : BBlk (w.setCell ⟨g, i, none⟩ u) g (cs.setIfInBounds i u) m := by
  unfold BBlk at h ⊢
  simp [World.setCell, Array.getElem?_modify, h]
theorem BBlk.free (h : BBlk w g cs m) (hm : cs.size ≤ m.1) (i : Nat) (hi : i < cs.size) : w.frozen? ⟨g, i, none⟩ = false := by
  unfold BBlk at h
  unfold World.frozen?
  rw [h]
  simp
  omega
end
/-- the block reads as bytes -/
def Bytes (bs : List UInt8) (cs : Array Value) : Prop := ∀ (j : Nat) (b : UInt8), bs[j]? = some b → cs[j]? = some (Value.int .u8 (b.toNat : Int))
theorem Bytes.set_ {bs : List UInt8} {cs : Array Value} (h : Bytes bs cs) (i : Nat) (b : UInt8) (hi : i < bs.length) : Bytes (bs.set i b) (cs.setIfInBounds i (.int .u8 (b.toNat : Int))) := by
  intro j c hj
  have hic : i < cs.size := (Array.getElem?_eq_some_iff.1 (h i bs[i] (by simp [hi]))).1
  rw [List.getElem?_set] at hj
  by_cases e : i = j
  · subst e
    simp [hi] at hj
    subst hj
    simp [hic]
  · rw [if_neg e] at hj
    rw [Array.getElem?_setIfInBounds_ne e]
    exact h j c hj
theorem Bytes.of_row (s : ByteArray) (cap : Nat) : Bytes s.data.toList (bytesRow s cap) := by
  intro j b hj
  have hjl : j < s.data.size := by
    have := (List.getElem?_eq_some_iff.1 hj).1
    simpa using this
  rw [bytesRow_at s cap j hjl]
  have e : s.data[j] = b := by
    have := (List.getElem?_eq_some_iff.1 hj).2
    simpa using this
  rw [e]
end Go.Proofs.Ytiipioifjjemoaa
