/- The walk of SenderPlays: the sender and the reference's one, side by side. -/
import Derived.Test.YtjloipjchcaloaaDuo10
namespace Go.Proofs.Ytjloipjchcaloaa
open Go.RowKit
set_option linter.unusedVariables false

theorem off_sent (s : Snd) (d : ByteArray) : (s.off d).sent ≤ s.sent + 1 := by
  unfold Snd.off; split <;> (try split) <;> (try simp) <;> omega

set_option maxHeartbeats 8000000 in
set_option maxRecDepth 10000 in
theorem plays10_walk (x0 x1 : Int) (A : Option Addr) (c : Nat) (l : List Act3) (w : World) (hr : Rd w 3 A l.length (acells l)) :
    Calls Try.prog 10 #[.agg #[.int .i64 x0, .int .i64 x1], .slice A l.length c] w (BoolRet w true) := by
  have hg3 : ∀ W, Rd W 3 A l.length (acells l) → Calls Try.prog 24 #[.slice A l.length c] W (BoolRet W (great3 l)) := fun W h => great10 A c l W h
  have Hg3 := Lib.hid hg3; clear hg3
  have hl200 : great3 l = false → l.length ≤ 200 := by
    intro h
    simp only [great3, Bool.or_eq_false_iff, decide_eq_false_iff_not] at h
    omega
  have Hl200 := Lib.hid hl200; clear hl200
  have Hr := Lib.hid hr; clear hr
  generalize hN : l.length = m at *
  have HN := Lib.hid hN; clear hN
  go_enter Try.func10, Try.ntmps10
  go_wp2_with fail
  have hg0 := World.grownBy_alloc w (.cells #[.int .i64 x0, .int .i64 x1] 36) none
  have hbx : Blk (w.alloc (.cells #[.int .i64 x0, .int .i64 x1] 36)) w.heap.size 36 #[.int .i64 x0, .int .i64 x1] := Blk.new w 36 _
  generalize w.alloc (.cells #[.int .i64 x0, .int .i64 x1] 36) = wb at hg0 hbx ⊢
  generalize w.heap.size = bx at hbx ⊢
  have y0 : wb.drew.cell? ⟨bx, 0, none⟩ = some (.int .i64 x0) := hbx.cell 0
  have y1 : wb.drew.cell? ⟨bx, 1, none⟩ = some (.int .i64 x1) := hbx.cell 1
  have y0' : wb.cell? ⟨bx, 0, none⟩ = some (.int .i64 x0) := hbx.cell 0
  have y1' : wb.cell? ⟨bx, 1, none⟩ = some (.int .i64 x1) := hbx.cell 1
  have Hbx := Lib.hid hbx; clear hbx
  go_region_held3 (fun w' => w'.cell? ⟨bx, 0, none⟩ = some (.int .i64 x0) ∧ w'.cell? ⟨bx, 1, none⟩ = some (.int .i64 x1)) (first | (go_keep; done) | (constructor <;> assumption))
   (first
    | (go_at_call 18
       refine (snd_new 5 (fun _ => 0) x0 x1 wb.drew).mono ?_
       rintro e w1 ⟨rfl, own1, st1, h1⟩
       have hbx1 : Blk w1 bx 36 #[.int .i64 x0, .int .i64 x1] := (Hbx.out : Blk wb.drew bx 36 _).of_eq (st1.heap bx Hbx.out.lt (by decide))
       have y01 : w1.cell? ⟨bx, 0, none⟩ = some (.int .i64 x0) := hbx1.cell 0
       have y11 : w1.cell? ⟨bx, 1, none⟩ = some (.int .i64 x1) := hbx1.cell 1
       have H1 := Lib.hid hbx1
       clear hbx1)
    | (go_at_call 39
       refine (ref10_new 2 own1 x0 x1 w1).mono ?_
       rintro e w2 ⟨rfl, own2, st2, h2⟩
       have hbx2 : Blk w2 bx 36 #[.int .i64 x0, .int .i64 x1] := H1.out.of_eq (st2.heap bx H1.out.lt (by rw [st1.own bx Hbx.out.lt]; decide))
       have y02 : w2.cell? ⟨bx, 0, none⟩ = some (.int .i64 x0) := hbx2.cell 0
       have y12 : w2.cell? ⟨bx, 1, none⟩ = some (.int .i64 x1) := hbx2.cell 1
       clear hbx2))
  have ht := duo_new (grown_drew hg0) (by omega) st1 h1 st2 h2
  have hz : (Snd.new x0 x1).sent = 0 := rfl
  clear st1 h1 st2 h2 y0 y1 y0' y1' y01 y11 y02 y12 Hbx H1 hg0
  generalize Snd.new x0 x1 = s0 at ht hz
  generalize w1.heap.size = gb at ht ⊢
  have hga : wb.drew.heap.size = wb.heap.size := rfl
  rw [hga] at ht
  clear hga
  generalize wb.heap.size = ga at ht ⊢
  go_wp2_with fail
  refine (awake10 w2).mono ?_
  rintro e w3 ⟨rfl, hg⟩
  have ht3 := ht.grown hg
  clear ht hg
  go_wp2_with fail
  refine (Hg3.out w3 (Hr.out.keep (fun b off _ _ hb => ht3.end_.block b hb (by simp)) (by omega))).mono ?_
  rintro e w4 ⟨rfl, hg⟩
  have ht4 := ht3.grown hg
  clear ht3 hg
  cases hgr : great3 l with
  | true =>
    clear hgr Hg3 Hl200
    go_wp2_with fail
    refine (awake10 w4).mono ?_
    rintro e w5 ⟨rfl, hg⟩
    have ht5 := ht4.grown hg
    clear ht4 hg
    go_wp2
    go_ret
    exact ⟨rfl, ht5.end_⟩
  | false =>
    have hll := Hl200.out hgr
    clear hgr Hg3 Hl200
    go_wp2_with fail
    go_loopw [5, 37] (fun q v wr => ∃ k : Nat, k ≤ m ∧ v = .int .i64 k ∧ ∃ (i g : Nat) (s : Snd), s.sent ≤ k ∧ (i = 5 ∨ i = 6) ∧ q = .pointer (some ⟨g, 0, none⟩) ∧ Duo w i g s gb s [] [] wr) (fun _ v _ => m - (intOf v).toNat)
    case atStart => exact ⟨0, by omega, rfl, 5, ga, s0, by omega, by omega, rfl, ht4⟩
    case round =>
      clear ht4
      obtain ⟨k, hk, rfl, i, g, s, hsk, hi, rfl, hs⟩ := hrel
      by_cases hlt : k < m
      · have hkl : k < l.length := by have := HN.out; omega
        have hrd : Rd wr 3 A l.length (acells l) := by
          have := HN.out; rw [this]
          exact Hr.out.keep (fun b off _ _ hb => hs.end_.block b hb (by simp)) (by omega)
        obtain ⟨b, off, rfl, c0, c1, c2⟩ := acts_at hrd hkl
        clear hrd
        generalize l[k].text = tx at c2
        generalize l[k].kind = kd at c0
        generalize l[k].n = nn at c1
        have ht := hs.alloc #[.int .i64 kd, .int .i64 nn, .string tx]
        clear hs
        have hs0 : s.sent ≤ 300 := by omega
        by_cases h1 : kd = 1
        · subst h1
          obtain ⟨rn, hrn⟩ : ∃ rn, s.offN = rn := ⟨_, rfl⟩
          obtain ⟨re, hre⟩ : ∃ re, s.offE = re := ⟨_, rfl⟩
          obtain ⟨s', hs'⟩ : ∃ s', s.off tx = s' := ⟨_, rfl⟩
          have hacc : s'.sent ≤ k + 1 := by rw [← hs']; have := off_sent s tx; omega
          have Hrn := Lib.hid hrn; clear hrn
          have Hre := Lib.hid hre; clear hre
          have Hs' := Lib.hid hs'; clear hs'
          go_wp2_with fail
          refine (duo_offer ht tx rn re s' Hrn.out Hre.out Hs'.out).mono ?_
          rintro e w6 ⟨rfl, hta⟩
          have z2 : w6.cell? ⟨wr.heap.size, 2, none⟩ = some (.string tx) := (hta.blk (List.mem_singleton.2 rfl)).cell 2
          clear ht
          go_wp2_with fail
          refine (duo_offer2 hta tx rn re s' hs0 Hrn.out Hre.out Hs'.out).mono ?_
          rintro e w7 ⟨rfl, htb⟩
          clear hta z2
          go_wp2_with fail
          have ht8 := htb.drop
          clear htb c0 c1 c2
          refine (duo_alike ht8 (by omega)).mono ?_
          rintro e w9 ⟨rfl, ht9⟩
          clear ht8
          go_wp2_with fail
          go_roundw
          case rel => exact ⟨k + 1, by omega, by go_num, i, g, s', by omega, hi, rfl, ht9⟩
          case measure => simp [intOf]; omega
        by_cases h2 : kd = 2
        · subst h2
          obtain ⟨rn, hrn⟩ : ∃ rn : Int, (s.gone nn : Int) = rn := ⟨_, rfl⟩
          obtain ⟨s', hs'⟩ : ∃ s', s.ack nn = s' := ⟨_, rfl⟩
          have hacc : s'.sent ≤ k + 1 := by rw [← hs']; simp only [Snd.ack]; omega
          have Hrn := Lib.hid hrn; clear hrn
          have Hs' := Lib.hid hs'; clear hs'
          go_wp2_with fail
          clear c0 c1 c2
          generalize wr.heap.size = ba at ht ⊢
          generalize hW0 : wr.alloc _ = W0 at ht ⊢
          clear hW0
          have z1 : W0.cell? ⟨ba, 1, none⟩ = some (.int .i64 nn) := (ht.blk (List.mem_singleton.2 rfl)).cell 1
          go_region_held3 (fun w' => w'.cell? ⟨ba, 1, none⟩ = some (.int .i64 nn)) (first | (go_keep; done) | assumption)
           (first
            | (go_at_call 22
               refine (duo_ack ht.drew nn rn s' Hrn.out Hs'.out).mono ?_
               rintro e w6 ⟨rfl, hta⟩
               have za1 : w6.cell? ⟨ba, 1, none⟩ = some (.int .i64 nn) := (hta.blk (List.mem_singleton.2 rfl)).cell 1)
            | (go_at_call 41
               refine (duo_ack2 hta nn rn s' hs0 Hrn.out Hs'.out).mono ?_
               rintro e w7 ⟨rfl, htb⟩
               have zb1 : w7.cell? ⟨ba, 1, none⟩ = some (.int .i64 nn) := (htb.blk (List.mem_singleton.2 rfl)).cell 1))
          clear ht hta z1 za1 zb1
          go_wp2_with fail
          have ht8 := htb.drop
          clear htb
          refine (duo_alike ht8 (by omega)).mono ?_
          rintro e w9 ⟨rfl, ht9⟩
          clear ht8
          go_wp2_with fail
          go_roundw
          case rel => exact ⟨k + 1, by omega, by go_num, i, g, s', by omega, hi, rfl, ht9⟩
          case measure => simp [intOf]; omega
        by_cases h3 : kd = 3
        · subst h3
          obtain ⟨j, hj4, hji, hj56⟩ : ∃ j, 4 < j ∧ j ≠ i ∧ (j = 5 ∨ j = 6) := by
            rcases hi with rfl | rfl
            · exact ⟨6, by omega, by omega, by omega⟩
            · exact ⟨5, by omega, by omega, by omega⟩
          go_wp2_with fail
          refine (duo_copy ht.drop j hj4 hji).mono ?_
          rintro e w6 ⟨g', rfl, hta⟩
          clear ht c0 c1 c2
          go_wp2_with fail
          refine (duo_sent hta _ rfl).mono ?_
          rintro e w' ⟨rfl, rfl⟩
          go_wp2_with fail
          refine (duo_ack hta _ _ _ rfl rfl).mono ?_
          rintro e w7 ⟨rfl, htb⟩
          clear hta
          go_wp2_with fail
          refine (duo_offer htb _ _ _ _ rfl rfl rfl).mono ?_
          rintro e w8 ⟨rfl, htc⟩
          clear htb
          have htd := htc.swap.alone
          clear htc
          go_wp2_with fail
          have ht8 := htd
          clear htd
          refine (duo_alike ht8 (by omega)).mono ?_
          rintro e w9 ⟨rfl, ht9⟩
          clear ht8
          go_wp2_with fail
          go_roundw
          case rel => exact ⟨k + 1, by omega, by go_num, j, g', s, by omega, hj56, rfl, ht9⟩
          case measure => simp [intOf]; omega
        · have h1' : (kd == 1) = false := by simpa using h1
          have h2' : (kd == 2) = false := by simpa using h2
          have h3' : (kd == 3) = false := by simpa using h3
          clear h1 h2 h3
          go_wp2_with fail
          have ht8 := ht.drop
          clear ht c0 c1 c2
          refine (duo_alike ht8 (by omega)).mono ?_
          rintro e w9 ⟨rfl, ht9⟩
          clear ht8
          go_wp2_with fail
          go_roundw
          case rel => exact ⟨k + 1, by omega, by go_num, i, g, s, by omega, hi, rfl, ht9⟩
          case measure => simp [intOf]; omega
      · obtain rfl : k = m := by omega
        go_wp2
        go_ret
        exact ⟨rfl, hs.end_⟩
end Go.Proofs.Ytjloipjchcaloaa
