/- The walk of ReceiverOnce: for every room and every list of numbers it returns true and changes nothing that was there. -/
import Derived.Test.YtjloipjchcaloaaLawRoom
namespace Go.Proofs.Ytjloipjchcaloaa
open Go.RowKit
set_option linter.unusedVariables false

/-- the text of a number: its two low bytes -/
def tagS (z : Int) : ByteArray := (ByteArray.empty.push (UInt8.ofNat (z % 256).toNat)).push (UInt8.ofNat (z / 256 % 256).toNat)

theorem run_tag (z : Int) (W : World) : (convert 60 9 (.slice (some ⟨W.heap.size, 0, none⟩) 2 2)).run Try.prog (W.alloc (.cells #[.int .u8 (z % 256), .int .u8 (z / 256 % 256)] 5)) =
    .ok (.string (tagS z)) (W.alloc (.cells #[.int .u8 (z % 256), .int .u8 (z / 256 % 256)] 5)) := by
  rw [run_convert_bytes_string _ 60 9 5 _ _ _ Try.underlying60 Try.underlying5 Try.underlying9]
  rw [run_bytesToString _ _ 2 2 [z % 256, z / 256 % 256]]
  · rfl
  · exact run_loadCells_list (P := Try.prog) _ ⟨W.heap.size, 0, none⟩ [.int .u8 (z % 256), .int .u8 (z / 256 % 256)] (fun j v h => by
      rw [add_lit, Nat.zero_add, (Blk.new W 5 _).cell j]
      simpa using h)

theorem run_tag_small (z : Int) (h : 0 ≤ z ∧ z < 65536) (W : World) : (convert 60 9 (.slice (some ⟨W.heap.size, 0, none⟩) 2 2)).run Try.prog (W.alloc (.cells #[.int .u8 (z % 256), .int .u8 (z / 256)] 5)) =
    .ok (.string (tagS z)) (W.alloc (.cells #[.int .u8 (z % 256), .int .u8 (z / 256)] 5)) := by
  have e := run_tag z W
  rwa [show z / 256 % 256 = z / 256 by omega] at e

/-- t pieces heard, p of them popped -/
def onceS (Z t p : Nat) : Rcv := ⟨Z, t, (List.range (t - p)).map fun j : Nat => tagS ((p : Int) + 1 + (j : Int))⟩

theorem onceS_hear (Z t p : Nat) (z : Int) (h : p ≤ t) : ∃ b t', (onceS Z t p).takes z = b ∧ (onceS Z t p).hear z (tagS z) = onceS Z t' p ∧ t ≤ t' ∧ t' ≤ t + 1 := by
  by_cases ht : (onceS Z t p).takes z = true
  · refine ⟨true, t + 1, ht, ?_, by omega, by omega⟩
    rw [Rcv.hear, ht]
    simp only [Rcv.takes, decide_eq_true_eq] at ht
    obtain ⟨_, ht⟩ := ht
    simp only [onceS] at ht ⊢
    subst ht
    simp only [if_true, Rcv.mk.injEq, true_and]
    rw [show t + 1 - p = (t - p) + 1 by omega, List.range_succ, List.map_append]
    simp only [List.map_cons, List.map_nil]
    rw [show (p : Int) + 1 + ((t - p : Nat) : Int) = (t : Int) + 1 by omega]
  · have ht : (onceS Z t p).takes z = false := by simpa using ht
    refine ⟨false, t, ht, ?_, by omega, by omega⟩
    rw [Rcv.hear, ht]; rfl

theorem onceS_none (Z t : Nat) : (onceS Z t t).popV = ByteArray.empty ∧ (onceS Z t t).popB = false ∧ (onceS Z t t).pop = onceS Z t t := by
  simp [onceS, Rcv.popV, Rcv.popB, Rcv.pop]

theorem onceS_pop (Z t p : Nat) (h : p < t) : (onceS Z t p).popV = tagS ((p : Int) + 1) ∧ (onceS Z t p).popB = true ∧ (onceS Z t p).pop = onceS Z t (p + 1) := by
  obtain ⟨d, hd⟩ : ∃ d, t - p = d + 1 := ⟨t - p - 1, by omega⟩
  have hd' : t - (p + 1) = d := by omega
  simp only [onceS, Rcv.popV, Rcv.popB, Rcv.pop, hd, hd', List.range_succ_eq_map]
  simp only [List.map_cons, List.head?_cons, Option.getD_some, List.isEmpty_cons, Bool.not_false, List.tail_cons, List.map_map, Rcv.mk.injEq, true_and]
  refine ⟨by simp, List.map_congr_left fun j _ => ?_⟩
  simp only [Function.comp]
  congr 1
  simp only [Nat.succ_eq_add_one]
  omega

set_option maxHeartbeats 2000000 in
set_option maxRecDepth 10000 in
theorem once_play (room : Int) (A : Option Addr) (c : Nat) (zs : List Int) (w : World) (hl : zs.length ≤ 300) (hr : Rd w 1 A zs.length (zs.map (Value.int .i64))) :
    Calls Try.prog 7 #[.int .i64 room, .slice A zs.length c] w (BoolRet w true) := by
  have Hr := Lib.hid hr; clear hr
  generalize hN : zs.length = m at *
  have HN := Lib.hid hN; clear hN
  go_enter Try.func7, Try.ntmps7
  go_wp2_with fail
  refine (atr_new room w).mono ?_
  rintro e w1 ⟨g, rfl, hs⟩
  go_wp2_with fail
  refine (awake11 w1).mono ?_
  rintro e w2 ⟨rfl, hg⟩
  have hs2 := hs.grown hg
  clear hs hg
  have hnew : ∃ Z : Nat, Rcv.new room = onceS Z 0 0 := ⟨(clampR room).toNat, by simp [Rcv.new, onceS]⟩
  obtain ⟨Z, hZ⟩ := hnew
  rw [hZ] at hs2
  clear hZ
  have hcv := run_tag
  have Hcv := Lib.hid hcv; clear hcv
  go_wp2_with fail
  go_loopw [6, 29] (fun v i wr => ∃ k p t : Nat, k ≤ m ∧ p ≤ t ∧ t ≤ k ∧ i = .int .i64 k ∧ v = .int .i64 p ∧ AtR w g (onceS Z t p) wr) (fun _ i _ => m - (intOf i).toNat)
  case atStart => exact ⟨0, 0, 0, by omega, by omega, by omega, rfl, rfl, hs2⟩
  case round =>
    clear hs2
    obtain ⟨k, p, t, hk, hp, ht, rfl, rfl, hs⟩ := hrel
    by_cases hlt : k < m
    · have hrd : Rd wr 1 A m (zs.map (Value.int .i64)) := Hr.out.keep (fun b off _ _ hb => hs.end_.block b hb (by simp)) (by omega)
      obtain ⟨b, off, hz', rfl, hcell⟩ := hrd.map_at hlt
      clear hrd
      generalize zs[k] = z at hcell
      obtain ⟨b1, t', q1, q2, q3, q4⟩ := onceS_hear Z t p z hp
      have Q1 := Lib.hid q1; clear q1
      have Q2 := Lib.hid q2; clear q2
      have hcv := Hcv.out
      have hsa := hs.grown (World.grownBy_alloc wr (.cells #[.int .u8 (z % 256), .int .u8 (z / 256 % 256)] 5) none)
      clear hs
      go_wp2_with fail
      refine (atr_hear hsa z (tagS z) b1 (onceS Z t' p) (by simp only [onceS]; omega) Q1.out Q2.out).mono ?_
      rintro e w4 ⟨rfl, hs4⟩
      clear hsa hcell
      by_cases h3 : z.tmod 3 = 0
      · have h3' : (z.tmod 3 != 0) = false := by simpa using h3
        by_cases hpt : p = t'
        · subst hpt
          have Hn := Lib.hid (onceS_none Z p)
          go_wp2_with fail
          refine (atr_pop hs4 _ _ _ Hn.out.1 Hn.out.2.1 Hn.out.2.2).mono ?_
          rintro e w5 ⟨rfl, hs5⟩
          clear hs4
          go_wp2_with fail
          go_roundw
          case rel => exact ⟨k + 1, p, p, by omega, by omega, by omega, by go_num, rfl, hs5⟩
          case measure => simp [intOf]; omega
        · have Hn := Lib.hid (onceS_pop Z t' p (by omega))
          go_wp2_with fail
          refine (atr_pop hs4 _ _ _ Hn.out.1 Hn.out.2.1 Hn.out.2.2).mono ?_
          rintro e w5 ⟨rfl, hs5⟩
          clear hs4
          have hcv2 := run_tag_small ((p : Int) + 1) (by omega)
          clear hcv
          go_wp2_with fail
          go_roundw
          case rel => exact ⟨k + 1, p + 1, t', by omega, by omega, by omega, by go_num, by go_num, hs5.grown (World.grownBy_alloc _ _ none)⟩
          case measure => simp [intOf]; omega
      · have h3' : (z.tmod 3 != 0) = true := by simpa using h3
        go_wp2_with fail
        go_roundw
        case rel => exact ⟨k + 1, p, t', by omega, by omega, by omega, by go_num, rfl, hs4⟩
        case measure => simp [intOf]; omega
    · have hkm : k = m := by omega
      subst hkm
      go_wp2_with fail
      refine (atr_look hs).mono ?_
      simp only [onceS, List.length_map, List.length_range, List.map_map]
      rintro e w4 ⟨P, cp, rfl, hnr⟩
      have hs4 := hs.grown hnr.grown
      have hp4 := (hnr.row (fun _ => 0) wr.heap.size 1 (Nat.le_refl _)).rd
      clear hnr hs
      generalize hD : t - p = D at hp4 ⊢
      have HD := Lib.hid hD; clear hD
      go_wp2_with fail
      go_loopw [6, 67] (fun v i wr => ∃ j : Nat, j ≤ D ∧ i = .int .i64 j ∧ v = .int .i64 ((p : Int) + (j : Int)) ∧ AtR w g (onceS Z t p) wr ∧ Rd wr 1 P D ((List.range D).map (Value.string ∘ fun j : Nat => tagS ((p : Int) + 1 + (j : Int))))) (fun _ i _ => D - (intOf i).toNat)
      case atStart => exact ⟨0, by omega, rfl, by go_num, hs4, hp4⟩
      case round =>
        clear hs4 hp4
        obtain ⟨j, hj, rfl, rfl, hs, hrd⟩ := hrel
        have hDp := HD.out
        by_cases hlt2 : j < D
        · obtain ⟨b, off, hz', rfl, hcell⟩ := hrd.map_at hlt2
          simp only [List.getElem_range, Function.comp] at hcell
          rw [show (p : Int) + 1 + (j : Int) = (p : Int) + (j : Int) + 1 by omega] at hcell
          have hcv2 := run_tag_small ((p : Int) + (j : Int) + 1) (by omega)
          have hsa := hs.grown (World.grownBy_alloc wr (.cells #[.int .u8 (((p : Int) + (j : Int) + 1) % 256), .int .u8 (((p : Int) + (j : Int) + 1) / 256)] 5) none)
          have hra := hrd.alloc (by omega) (.cells #[.int .u8 (((p : Int) + (j : Int) + 1) % 256), .int .u8 (((p : Int) + (j : Int) + 1) / 256)] 5)
          clear hs hrd
          go_wp2_with fail
          go_roundw
          case rel => exact ⟨j + 1, by omega, by go_num, by go_num, hsa, hra⟩
          case measure => simp [intOf]; omega
        · have hjD : j = D := by omega
          subst hjD
          clear hrd
          go_wp2_with fail
          refine (atr_ack hs ((p : Int) + (j : Int)) (by simp only [onceS]; omega)).mono ?_
          rintro e w' ⟨rfl, rfl⟩
          go_wp2
          go_ret
          exact ⟨rfl, hs.end_⟩

set_option maxHeartbeats 2000000 in
set_option maxRecDepth 10000 in
theorem once_long (room : Int) (A : Option Addr) (n c : Nat) (w : World) (h : 300 < n) :
    Calls Try.prog 7 #[.int .i64 room, .slice A n c] w (BoolRet w true) := by
  go_enter Try.func7, Try.ntmps7
  go_wp2_with fail
  refine (atr_new room w).mono ?_
  rintro e w1 ⟨g, rfl, hs⟩
  go_wp2_with fail
  refine (awake11 w1).mono ?_
  rintro e w2 ⟨rfl, hg⟩
  have hs2 := hs.grown hg
  clear hs hg
  go_wp2_with fail
  refine (awake11 w2).mono ?_
  rintro e w3 ⟨rfl, hg⟩
  have hs3 := hs2.grown hg
  clear hs2 hg
  go_wp2
  go_ret
  exact ⟨rfl, hs3.end_⟩

theorem once_walk (room : Int) (A : Option Addr) (c : Nat) (zs : List Int) (w : World) (hr : Rd w 1 A zs.length (zs.map (Value.int .i64))) :
    Calls Try.prog 7 #[.int .i64 room, .slice A zs.length c] w (BoolRet w true) := by
  by_cases h : 300 < zs.length
  · exact once_long room A _ c w h
  · exact once_play room A c zs w (by omega) hr
end Go.Proofs.Ytjloipjchcaloaa
