/- The reference's Same; what an act does to sizes. -/
import Derived.Test.YtiipioifjjemoaaDoC
import Derived.BigQuiet
namespace Go.Proofs.Ytiipioifjjemoaa
open Go.RowKit
set_option linter.unusedVariables false

def QuietRet (w : World) (v : Value) (e : Ending) (w' : World) : Prop := e = .returned v ∧ ∃ m, w.drewN m = w'
theorem pkt_at {w : World} {A : Option Addr} {n : Nat} {l : List Pkt} (h : Rd w 3 A n (pcells l)) {k : Nat} (hk : k < n) :
    ∃ b off p, A = some ⟨b, off, none⟩ ∧ l[k]? = some p ∧ w.cell? ⟨b, off + k * 3, none⟩ = some (.int .i64 p.src) ∧ w.cell? ⟨b, off + k * 3 + 1, none⟩ = some (.int .i64 p.dst) ∧ w.cell? ⟨b, off + k * 3 + 2, none⟩ = some (.string p.bytes) := by
  have hl : l.length = n := by have := h.1; rw [pcells_length] at this; omega
  subst hl
  exact pkts_at h hk

set_option maxHeartbeats 1000000 in
theorem same16 (A B : Option Addr) (n c c' : Nat) (l : List Pkt) (w : World) (ha : Rd w 3 A n (pcells l)) (hb : Rd w 3 B n (pcells l)) (hn : n ≤ 1099511627776) :
    Calls Try.prog 11 #[.slice A n c, .slice B n c'] w (QuietRet w (.bool true)) := by
  have Ha := Lib.hid ha; clear ha
  have Hb := Lib.hid hb; clear hb
  go_enter Try.func11, Try.ntmps11
  go_wp2
  go_loopw [5] (fun i wr => ∃ k m : Nat, k ≤ n ∧ i = .int .i64 k ∧ w.drewN m = wr) (fun i _ => n - (intOf i).toNat)
  case atStart => exact ⟨0, 0, by omega, rfl, rfl⟩
  case round =>
    obtain ⟨k, m, hk, rfl, rfl⟩ := hrel
    by_cases hlt : k < n
    · obtain ⟨b, off, f, rfl, e1, p0, p1, p2⟩ := pkt_at Ha.out hlt
      obtain ⟨b2, off2, f2, rfl, e2, r0, r1, r2⟩ := pkt_at Hb.out hlt
      rw [e1] at e2
      injection e2 with e2
      subst e2
      clear e1
      generalize f.src = x0 at p0 r0
      generalize f.dst = x1 at p1 r1
      generalize f.bytes = x2 at p2 r2
      have hk0 : (0 : Int) ≤ (k : Int) := by omega
      have hkn : (k : Int) < (n : Int) := by omega
      go_wp2
      go_quiet (fail)
      go_wp2
      go_roundw
      case rel => exact ⟨k + 1, _, by omega, by go_num, rfl⟩
      case measure => simp [intOf]; omega
    · obtain rfl : k = n := by omega
      go_wp2
      go_ret
      exact ⟨rfl, m, rfl⟩

theorem flips_size' (s : ByteArray) (bit mask : Int) : (spoilt s bit mask).size = s.size := by
  unfold spoilt
  split
  · show (flips s.data.toList bit (maskOn mask) 32).toArray.size = s.data.size
    rw [List.size_toArray, flips_length, Array.length_toList]
  · rfl
/-- no packet is long -/
def Small60 (s : BSt) : Prop := ∀ q ∈ s, q.1.bytes.size ≤ 60
theorem Small60.smallB {s : BSt} (h : Small60 s) : SmallB s := fun q hq => Nat.le_trans (h q hq) (by omega)
theorem Small60.nil : Small60 [] := fun q hq => by simp at hq
theorem Small60.step {s : BSt} (h : Small60 s) (a : ActC) (ha : ∀ p ∈ a.ps, p.bytes.size ≤ 60) : Small60 (stepC s a) := by
  unfold stepC
  split
  · intro q hq
    simp only [addS, List.mem_append, fresh, List.mem_map] at hq
    rcases hq with hq | ⟨p, hp, rfl⟩
    · exact h q hq
    · exact ha p (List.mem_of_mem_take hp)
  · split
    · unfold takeS
      split
      · exact h
      · intro q hq
        rw [List.mem_append] at hq
        rcases hq with hq | hq
        · exact h q (List.mem_of_mem_take hq)
        · exact h q (List.mem_of_mem_drop hq)
    · split
      · unfold twiceB
        split
        · exact h
        · split
          · exact h
          · intro q hq
            simp only [List.mem_append, Option.mem_toList] at hq
            rcases hq with hq | hq
            · exact h q hq
            · exact h q (List.mem_of_getElem? hq)
      · split
        · unfold spoilB
          split
          · exact h
          · split
            · rename_i p hp
              intro q hq
              rcases List.mem_or_eq_of_mem_set hq with hq | rfl
              · exact h q hq
              · show (spoilt p.bytes a.bit a.mask).size ≤ 60
                rw [flips_size']
                exact h _ (List.mem_of_getElem? hp)
            · exact h
        · exact h
end Go.Proofs.Ytiipioifjjemoaa
