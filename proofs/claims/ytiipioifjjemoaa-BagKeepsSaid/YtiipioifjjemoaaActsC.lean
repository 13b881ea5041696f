/- Lists of acts with packets each; great of layer 19's statements. -/
import Derived.Test.YtiipioifjjemoaaBgs
namespace Go.Proofs.Ytiipioifjjemoaa
open Go.RowKit
set_option linter.unusedVariables false

structure ActC where
  kind : Int
  n : Int
  bit : Int
  mask : Int
  A : Option Addr
  c : Nat
  ps : List Pkt

def ccells1 (a : ActC) : List Value := [.int .i64 a.kind, .int .i64 a.n, .int .i64 a.bit, .int .u32 a.mask, .slice a.A a.ps.length a.c]
def ccells (l : List ActC) : List Value := l.flatMap ccells1
theorem ccells_get : ∀ (k : Nat) (l : List ActC) (a : ActC), l[k]? = some a → (ccells l)[k * 5]? = some (.int .i64 a.kind) ∧ (ccells l)[k * 5 + 1]? = some (.int .i64 a.n) ∧ (ccells l)[k * 5 + 2]? = some (.int .i64 a.bit) ∧ (ccells l)[k * 5 + 3]? = some (.int .u32 a.mask) ∧ (ccells l)[k * 5 + 4]? = some (.slice a.A a.ps.length a.c)
  | 0, x :: l, a, h => by
    simp only [List.getElem?_cons_zero, Option.some.injEq] at h
    subst h
    exact ⟨rfl, rfl, rfl, rfl, rfl⟩
  | k + 1, x :: l, a, h => by
    have ih := ccells_get k l a (by simpa using h)
    rw [show ccells (x :: l) = .int .i64 x.kind :: .int .i64 x.n :: .int .i64 x.bit :: .int .u32 x.mask :: .slice x.A x.ps.length x.c :: ccells l from rfl]
    rw [show (k + 1) * 5 = k * 5 + 1 + 1 + 1 + 1 + 1 by omega]
    simp only [List.getElem?_cons_succ]
    exact ih
  | k, [], a, h => by simp at h

/-- what is told of an act where it comes in -/
def ActWf (w : World) (a : ActC) : Prop := a.ps.length ≤ a.c ∧ a.c ≤ maxLen ∧ 0 ≤ a.mask ∧ a.mask ≤ 4294967295 ∧ Rd w 3 a.A a.ps.length (pcells a.ps)

theorem actsC_at {w : World} {A : Option Addr} {l : List ActC} (h : Rd w 5 A l.length (ccells l)) {k : Nat} (hk : k < l.length) :
    ∃ b off a, A = some ⟨b, off, none⟩ ∧ l[k]? = some a ∧ w.cell? ⟨b, off + k * 5, none⟩ = some (.int .i64 a.kind) ∧ w.cell? ⟨b, off + k * 5 + 1, none⟩ = some (.int .i64 a.n) ∧ w.cell? ⟨b, off + k * 5 + 2, none⟩ = some (.int .i64 a.bit) ∧ w.cell? ⟨b, off + k * 5 + 3, none⟩ = some (.int .u32 a.mask) ∧ w.cell? ⟨b, off + k * 5 + 4, none⟩ = some (.slice a.A a.ps.length a.c) := by
  obtain ⟨b, off, e, hc⟩ := h.2 (by omega)
  have g := ccells_get k l l[k] (by simp [hk])
  exact ⟨b, off, l[k], e, by simp [hk], hc _ _ g.1, hc _ _ g.2.1, hc _ _ g.2.2.1, hc _ _ g.2.2.2.1, hc _ _ g.2.2.2.2⟩
theorem pkts_at {w : World} {A : Option Addr} {l : List Pkt} (h : Rd w 3 A l.length (pcells l)) {k : Nat} (hk : k < l.length) :
    ∃ b off p, A = some ⟨b, off, none⟩ ∧ l[k]? = some p ∧ w.cell? ⟨b, off + k * 3, none⟩ = some (.int .i64 p.src) ∧ w.cell? ⟨b, off + k * 3 + 1, none⟩ = some (.int .i64 p.dst) ∧ w.cell? ⟨b, off + k * 3 + 2, none⟩ = some (.string p.bytes) := by
  obtain ⟨b, off, e, hc⟩ := h.2 (by omega)
  have g := pcells_get k l l[k] (by simp [hk])
  exact ⟨b, off, l[k], e, by simp [hk], hc _ _ g.1, hc _ _ g.2.1, hc _ _ g.2.2⟩

def bigP (p : Pkt) : Bool := decide (60 < p.bytes.size)
def bigA (a : ActC) : Bool := decide (20 < a.ps.length) || a.ps.any bigP
def greatC (l : List ActC) : Bool := decide (60 < l.length) || l.any bigA
theorem bigA_hit {a : ActC} {k : Nat} {p : Pkt} (hk : a.ps[k]? = some p) (h : bigP p = true) : bigA a = true := by
  simp only [bigA, Bool.or_eq_true, List.any_eq_true]
  exact .inr ⟨p, List.mem_of_getElem? hk, h⟩
theorem bigA_miss {a : ActC} (hl : a.ps.length ≤ 20) (h : ∀ (j : Nat) (p : Pkt), a.ps[j]? = some p → bigP p = false) : bigA a = false := by
  simp only [bigA, Bool.or_eq_false_iff, decide_eq_false_iff_not, List.any_eq_false]
  refine ⟨by omega, fun a ha => ?_⟩
  obtain ⟨j, hj⟩ := List.mem_iff_getElem?.1 ha
  rw [h j a hj]
  decide
theorem greatC_hit {l : List ActC} {k : Nat} {a : ActC} (hk : l[k]? = some a) (h : bigA a = true) : greatC l = true := by
  simp only [greatC, Bool.or_eq_true, List.any_eq_true]
  exact .inr ⟨a, List.mem_of_getElem? hk, h⟩
theorem greatC_miss {l : List ActC} (hl : l.length ≤ 60) (h : ∀ (j : Nat) (a : ActC), l[j]? = some a → bigA a = false) : greatC l = false := by
  simp only [greatC, Bool.or_eq_false_iff, decide_eq_false_iff_not, List.any_eq_false]
  refine ⟨by omega, fun a ha => ?_⟩
  obtain ⟨j, hj⟩ := List.mem_iff_getElem?.1 ha
  rw [h j a hj]
  decide
theorem greatC_small {l : List ActC} (h : greatC l = false) : l.length ≤ 60 ∧ ∀ a ∈ l, a.ps.length ≤ 20 ∧ ∀ p ∈ a.ps, p.bytes.size ≤ 60 := by
  simp only [greatC, Bool.or_eq_false_iff, decide_eq_false_iff_not, List.any_eq_false] at h
  refine ⟨by omega, fun a ha => ?_⟩
  have h2 := h.2 a ha
  have h2 : bigA a = false := by simpa using h2
  simp only [bigA, Bool.or_eq_false_iff, decide_eq_false_iff_not, List.any_eq_false] at h2
  refine ⟨by omega, fun p hp => ?_⟩
  have h3 := h2.2 p hp
  simp only [bigP, decide_eq_true_eq] at h3
  omega

set_option maxHeartbeats 2000000 in
set_option maxRecDepth 10000 in
theorem great19 (A : Option Addr) (c : Nat) (l : List ActC) (w : World) (h : Rd w 5 A l.length (ccells l)) (hw : ∀ a ∈ l, ActWf w a) :
    Calls Try.prog 9 #[.slice A l.length c] w (BoolRet w (greatC l)) := by
  by_cases hn : 60 < l.length
  · have hg : greatC l = true := by simp [greatC, hn]
    rw [hg]
    generalize l.length = n at *
    clear h hg hw
    go_enter Try.func9, Try.ntmps9
    go_wp2
    go_ret
    exact ⟨rfl, World.grownBy.refl _ _⟩
  · have H := Lib.hid h; clear h
    have Hw := Lib.hid hw; clear hw
    have hx : ∀ (e : Ending) (w' : World) (b : Bool), e = .returned (.bool b) → greatC l = b → w.grownBy w' none → BoolRet w (greatC l) e w' := fun e w' b h1 h2 h3 => by rw [h2]; exact ⟨h1, h3⟩
    have Hx := Lib.hid hx; clear hx
    generalize hN : l.length = n at *
    have HN := Lib.hid hN; clear hN
    generalize hR : BoolRet w (greatC l) = R at *
    clear hR
    go_enter Try.func9, Try.ntmps9
    go_wp2
    go_loopw [12] (fun v wr => ∃ k : Nat, k ≤ n ∧ v = .int .i64 k ∧ (∀ (j : Nat) (a : ActC), l[j]? = some a → j < k → bigA a = false) ∧ w.grownBy wr none) (fun v _ => n - (intOf v).toNat)
    case atStart => exact ⟨0, by omega, rfl, fun j a hj h => absurd h (by omega), World.grownBy.refl _ _⟩
    case round =>
      obtain ⟨k, hk, rfl, hall, hg⟩ := hrel
      have Hall := Lib.hid hall; clear hall
      by_cases hlt : k < n
      · have hkl : k < l.length := by have := HN.out; omega
        have hrd : Rd w 5 A l.length (ccells l) := by have := HN.out; rw [this]; exact H.out
        obtain ⟨b, off, a, rfl, hla, c0, c1, c2, c3, c4⟩ := actsC_at hrd hkl
        clear hrd hkl
        obtain ⟨wf1, wf2, wf3, wf4, hps⟩ := Hw.out a (List.mem_of_getElem? hla)
        have d0 := (World.grownBy.cell hg c0 (by simp))
        have d1 := (World.grownBy.cell hg c1 (by simp))
        have d2 := (World.grownBy.cell hg c2 (by simp))
        have d3 := (World.grownBy.cell hg c3 (by simp))
        have d4 := (World.grownBy.cell hg c4 (by simp))
        clear c0 c1 c2 c3 c4 wf1 wf2 wf3 wf4
        have Hla := Lib.hid hla; clear hla
        have Hps := Lib.hid hps; clear hps
        obtain ⟨m, hm⟩ : ∃ m, a.ps.length = m := ⟨_, rfl⟩
        rw [hm] at d4
        have Hm := Lib.hid hm; clear hm
        by_cases ht : 20 < m
        · have Hg := Lib.hid hg; clear hg
          go_wp2
          exact Hx.out _ _ true rfl (greatC_hit Hla.out (by simp [bigA, Hm.out, ht])) (grown_tr Hg.out (World.grownBy_alloc _ _ _))
        · generalize a.kind = a1 at d0
          generalize a.n = a2 at d1
          generalize a.bit = a3 at d2
          generalize a.mask = a4 at d3
          have hg1 := grown_tr hg (World.grownBy_alloc wr (.cells #[.int .i64 a1, .int .i64 a2, .int .i64 a3, .int .u32 a4, .slice a.A m a.c] 34) none)
          have hblk : Blk (wr.alloc (.cells #[.int .i64 a1, .int .i64 a2, .int .i64 a3, .int .u32 a4, .slice a.A m a.c] 34)) wr.heap.size 34 _ := Blk.new wr 34 _
          have e4 := hblk.cell 4
          simp only [List.getElem?_toArray, List.getElem?_cons_zero, List.getElem?_cons_succ] at e4
          clear hblk
          have Hg := Lib.hid hg; clear hg
          have Hg1 := Lib.hid hg1; clear hg1
          go_wp2
          go_loopw [23] (fun v wr2 => ∃ j : Nat, j ≤ m ∧ v = .int .i64 j ∧ (∀ (i : Nat) (p : Pkt), a.ps[i]? = some p → i < j → bigP p = false) ∧ w.grownBy wr2 none) (fun v _ => m - (intOf v).toNat)
          case atStart => exact ⟨0, by omega, rfl, fun j a hj h => absurd h (by omega), Hg1.out⟩
          case round =>
            obtain ⟨j, hj, rfl, halj, hg2⟩ := hrel
            clear e4 d0 d1 d2 d3 d4
            have Halj := Lib.hid halj; clear halj
            by_cases hlt2 : j < m
            · have hrd : Rd w 3 a.A a.ps.length (pcells a.ps) := Hps.out
              obtain ⟨b2, off2, p, hA2, hpj, q0, q1, q2⟩ := pkts_at hrd (k := j) (by rw [Hm.out]; exact hlt2)
              clear hrd
              have r0 := (World.grownBy.cell hg2 q0 (by simp))
              have r1 := (World.grownBy.cell hg2 q1 (by simp))
              have r2 := (World.grownBy.cell hg2 q2 (by simp))
              clear q0 q1 q2
              have Hg2 := Lib.hid hg2; clear hg2
              have Hpj := Lib.hid hpj; clear hpj
              have hb : ∀ b, decide (60 < p.bytes.size) = b → bigP p = b := fun b h => h
              have Hb := Lib.hid hb; clear hb
              generalize p.bytes = pb at r2 Hb
              by_cases hp : 60 < pb.size
              · rw [hA2]
                go_wp2
                exact Hx.out _ _ true rfl (greatC_hit Hla.out (bigA_hit Hpj.out (Hb.out true (by simp [hp])))) (grown_tr Hg2.out (World.grownBy_alloc _ _ _))
              · have hs : ∀ (i : Nat) (p : Pkt), a.ps[i]? = some p → i < j + 1 → bigP p = false := fun i p' hi h => by
                  rcases Nat.lt_or_ge i j with h' | h'
                  · exact Halj.out i p' hi h'
                  · obtain rfl : i = j := by omega
                    have := Hpj.out
                    rw [hi] at this
                    injection this with this
                    rw [this]; exact Hb.out false (by simp [hp])
                have Hs := Lib.hid hs; clear hs
                rw [hA2]
                go_wp2
                go_roundw
                case rel => exact ⟨j + 1, by omega, by go_num, Hs.out, grown_tr Hg2.out (World.grownBy_alloc _ _ _)⟩
                case measure => simp [intOf]; omega
            · obtain rfl : j = m := by omega
              have Hg2 := Lib.hid hg2; clear hg2
              have hbf : bigA a = false := bigA_miss (by have := Hm.out; omega) (fun i p hi => Halj.out i p hi (by have := Hm.out; have := (List.getElem?_eq_some_iff.1 hi).1; omega))
              have hs : ∀ (i : Nat) (a : ActC), l[i]? = some a → i < k + 1 → bigA a = false := fun i a' hi h => by
                rcases Nat.lt_or_ge i k with h' | h'
                · exact Hall.out i a' hi h'
                · obtain rfl : i = k := by omega
                  have := Hla.out
                  rw [hi] at this
                  injection this with this
                  rw [this]; exact hbf
              have Hs := Lib.hid hs; clear hs hbf
              go_wp2
              go_roundw
              case rel => exact ⟨k + 1, by omega, by go_num, Hs.out, Hg2.out⟩
              case measure => simp [intOf]; omega
      · obtain rfl : k = n := by omega
        have Hg := Lib.hid hg; clear hg
        go_wp2
        exact Hx.out _ _ false rfl (greatC_miss (by have := HN.out; omega) (fun j a hj => Hall.out j a hj (by have := HN.out; have := (List.getElem?_eq_some_iff.1 hj).1; omega))) Hg.out
end Go.Proofs.Ytiipioifjjemoaa
