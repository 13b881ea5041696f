/- Lists of acts with a frame each; great of layer 12's statements. -/
import Derived.Test.YtjloipjchcaloaaRFrms
namespace Go.Proofs.Ytjloipjchcaloaa
open Go.RowKit
set_option linter.unusedVariables false

structure Act6 where
  kind : Int
  text : ByteArray
  f : Frm

def a6cells : List Act6 → List Value
  | [] => []
  | a :: l => .int .i64 a.kind :: .string a.text :: .int .i64 a.f.epoch :: .int .i64 a.f.seq :: .int .i64 a.f.ack :: .string a.f.data :: a6cells l
theorem a6cells_length : ∀ l : List Act6, (a6cells l).length = l.length * 6
  | [] => rfl
  | a :: l => by simp [a6cells, a6cells_length l]; omega
theorem a6cells_get : ∀ (k : Nat) (l : List Act6) (a : Act6), l[k]? = some a → (a6cells l)[k * 6]? = some (.int .i64 a.kind) ∧ (a6cells l)[k * 6 + 1]? = some (.string a.text) ∧ (a6cells l)[k * 6 + 2]? = some (.int .i64 a.f.epoch) ∧ (a6cells l)[k * 6 + 3]? = some (.int .i64 a.f.seq) ∧ (a6cells l)[k * 6 + 4]? = some (.int .i64 a.f.ack) ∧ (a6cells l)[k * 6 + 5]? = some (.string a.f.data)
  | 0, x :: l, a, h => by
    simp only [List.getElem?_cons_zero, Option.some.injEq] at h
    subst h
    exact ⟨rfl, rfl, rfl, rfl, rfl, rfl⟩
  | k + 1, x :: l, a, h => by
    have ih := a6cells_get k l a (by simpa using h)
    simp only [a6cells]
    rw [show (k + 1) * 6 = k * 6 + 1 + 1 + 1 + 1 + 1 + 1 by omega]
    simp only [List.getElem?_cons_succ]
    exact ih
  | k, [], a, h => by simp at h

/-- an act's cells where the slice lies -/
theorem acts6_at {w : World} {A : Option Addr} {l : List Act6} (h : Rd w 6 A l.length (a6cells l)) {k : Nat} (hk : k < l.length) :
    ∃ b off a, A = some ⟨b, off, none⟩ ∧ l[k]? = some a ∧ w.cell? ⟨b, off + k * 6, none⟩ = some (.int .i64 a.kind) ∧ w.cell? ⟨b, off + k * 6 + 1, none⟩ = some (.string a.text) ∧ w.cell? ⟨b, off + k * 6 + 2, none⟩ = some (.int .i64 a.f.epoch) ∧ w.cell? ⟨b, off + k * 6 + 3, none⟩ = some (.int .i64 a.f.seq) ∧ w.cell? ⟨b, off + k * 6 + 4, none⟩ = some (.int .i64 a.f.ack) ∧ w.cell? ⟨b, off + k * 6 + 5, none⟩ = some (.string a.f.data) := by
  obtain ⟨b, off, e, hc⟩ := h.2 (by omega)
  have g := a6cells_get k l l[k] (by simp [hk])
  exact ⟨b, off, l[k], e, by simp [hk], hc _ _ g.1, hc _ _ g.2.1, hc _ _ g.2.2.1, hc _ _ g.2.2.2.1, hc _ _ g.2.2.2.2.1, hc _ _ g.2.2.2.2.2⟩

def big6 (a : Act6) : Bool := decide (100 < a.text.size) || decide (100 < a.f.data.size)
def great6 (l : List Act6) : Bool := decide (100 < l.length) || l.any big6

theorem great6_hit {l : List Act6} {k : Nat} {a : Act6} (hk : l[k]? = some a) (h : big6 a = true) : great6 l = true := by
  simp only [great6, Bool.or_eq_true, List.any_eq_true]
  exact .inr ⟨a, List.mem_of_getElem? hk, h⟩
theorem great6_miss {l : List Act6} (hl : l.length ≤ 100) (h : ∀ (j : Nat) (a : Act6), l[j]? = some a → big6 a = false) : great6 l = false := by
  simp only [great6, Bool.or_eq_false_iff, decide_eq_false_iff_not, List.any_eq_false]
  refine ⟨by omega, fun a ha => ?_⟩
  obtain ⟨j, hj⟩ := List.mem_iff_getElem?.1 ha
  rw [h j a hj]
  decide

set_option maxHeartbeats 1000000 in
set_option maxRecDepth 10000 in
theorem great12 (A : Option Addr) (c : Nat) (l : List Act6) (w : World) (h : Rd w 6 A l.length (a6cells l)) :
    Calls Try.prog 47 #[.slice A l.length c] w (BoolRet w (great6 l)) := by
  by_cases hn : 100 < l.length
  · have hg : great6 l = true := by simp [great6, hn]
    rw [hg]
    generalize l.length = n at *
    clear h hg
    go_enter Try.func47, Try.ntmps47
    go_wp2
    go_ret
    exact ⟨rfl, World.grownBy.refl _ _⟩
  · have H := Lib.hid h; clear h
    have hx : ∀ (e : Ending) (w' : World) (b : Bool), e = .returned (.bool b) → great6 l = b → w.grownBy w' none → BoolRet w (great6 l) e w' := fun e w' b h1 h2 h3 => by rw [h2]; exact ⟨h1, h3⟩
    have Hx := Lib.hid hx; clear hx
    generalize hN : l.length = n at *
    have HN := Lib.hid hN; clear hN
    generalize hR : BoolRet w (great6 l) = R at *
    clear hR
    go_enter Try.func47, Try.ntmps47
    go_wp2
    go_loopw [10] (fun v wr => ∃ k : Nat, k ≤ n ∧ v = .int .i64 k ∧ (∀ (j : Nat) (a : Act6), l[j]? = some a → j < k → big6 a = false) ∧ w.grownBy wr none) (fun v _ => n - (intOf v).toNat)
    case atStart => exact ⟨0, by omega, rfl, fun j a hj h => absurd h (by omega), World.grownBy.refl _ _⟩
    case round =>
      obtain ⟨k, hk, rfl, hall, hg⟩ := hrel
      have Hall := Lib.hid hall; clear hall
      by_cases hlt : k < n
      · have hkl : k < l.length := by have := HN.out; omega
        have hrd : Rd w 6 A l.length (a6cells l) := by have := HN.out; rw [this]; exact H.out
        obtain ⟨b, off, a, rfl, hla, c0, c1, c2, c3, c4, c5⟩ := acts6_at hrd hkl
        clear hrd
        have d0 := (World.grownBy.cell hg c0 (by simp))
        have d1 := (World.grownBy.cell hg c1 (by simp))
        have d2 := (World.grownBy.cell hg c2 (by simp))
        have d3 := (World.grownBy.cell hg c3 (by simp))
        have d4 := (World.grownBy.cell hg c4 (by simp))
        have d5 := (World.grownBy.cell hg c5 (by simp))
        clear c0 c1 c2 c3 c4 c5
        have Hg := Lib.hid hg; clear hg
        have Hla := Lib.hid hla; clear hla
        have hb : ∀ b, (decide (100 < a.text.size) || decide (100 < a.f.data.size)) = b → big6 a = b := fun b h => h
        have Hb := Lib.hid hb; clear hb
        generalize a.text = tx at d1 Hb
        generalize a.f.data = fd at d5 Hb
        by_cases ht : 100 < tx.size
        · go_wp2
          exact Hx.out _ _ true rfl (great6_hit Hla.out (Hb.out true (by simp [ht]))) (grown_tr Hg.out (World.grownBy_alloc _ _ _))
        · by_cases hd : 100 < fd.size
          · go_wp2
            exact Hx.out _ _ true rfl (great6_hit Hla.out (Hb.out true (by simp [hd]))) (grown_tr Hg.out (World.grownBy_alloc _ _ _))
          · have hbf : big6 a = false := Hb.out false (by simp [ht, hd])
            have hs : ∀ (j : Nat) (a : Act6), l[j]? = some a → j < k + 1 → big6 a = false := fun j a' hj h => by
              rcases Nat.lt_or_ge j k with h' | h'
              · exact Hall.out j a' hj h'
              · obtain rfl : j = k := by omega
                have := Hla.out
                rw [hj] at this
                injection this with this
                rw [this]; exact hbf
            have Hs := Lib.hid hs; clear hs hbf
            go_wp2
            go_roundw
            case rel => exact ⟨k + 1, by omega, by go_num, Hs.out, grown_tr Hg.out (World.grownBy_alloc _ _ _)⟩
            case measure => simp [intOf]; omega
      · obtain rfl : k = n := by omega
        have Hg := Lib.hid hg; clear hg
        go_wp2
        exact Hx.out _ _ false rfl (great6_miss (by have := HN.out; omega) (fun j a hj => Hall.out j a hj (by have := HN.out; have := (List.getElem?_eq_some_iff.1 hj).1; omega))) Hg.out
end Go.Proofs.Ytjloipjchcaloaa
