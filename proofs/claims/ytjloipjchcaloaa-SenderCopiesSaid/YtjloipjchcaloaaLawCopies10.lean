/- The walk of SenderCopies. -/
import Derived.Test.YtjloipjchcaloaaLawPlays10
namespace Go.Proofs.Ytjloipjchcaloaa
open Go.RowKit
set_option linter.unusedVariables false

set_option maxHeartbeats 8000000 in
set_option maxRecDepth 10000 in
theorem copies10_bad (x0 x1 at_ : Int) (A : Option Addr) (c : Nat) (l : List Act3) (w : World) (hr : Rd w 3 A l.length (acells l)) (hbad : great3 l = true ∨ (great3 l = false ∧ (at_ < 0 ∨ (0 ≤ at_ ∧ (l.length : Int) < at_)))) :
    Calls Try.prog 11 #[.agg #[.int .i64 x0, .int .i64 x1], .slice A l.length c, .int .i64 at_] w (BoolRet w true) := by
  have hg3 : ∀ W, Rd W 3 A l.length (acells l) → Calls Try.prog 24 #[.slice A l.length c] W (BoolRet W (great3 l)) := fun W h => great10 A c l W h
  have Hg3 := Lib.hid hg3; clear hg3
  have hl200 : great3 l = false → l.length ≤ 200 := by
    intro h
    simp only [great3, Bool.or_eq_false_iff, decide_eq_false_iff_not] at h
    omega
  have Hl200 := Lib.hid hl200; clear hl200
  have Hr := Lib.hid hr; clear hr
  generalize hN : l.length = m at *
  have HN := Lib.hid hN; clear hN
  go_enter Try.func11, Try.ntmps11
  go_wp2_with fail
  have hg0 := World.grownBy_alloc w (.cells #[.int .i64 x0, .int .i64 x1] 36) none
  have hbx : Blk (w.alloc (.cells #[.int .i64 x0, .int .i64 x1] 36)) w.heap.size 36 #[.int .i64 x0, .int .i64 x1] := Blk.new w 36 _
  generalize w.alloc (.cells #[.int .i64 x0, .int .i64 x1] 36) = wb at hg0 hbx ⊢
  generalize w.heap.size = bx at hbx ⊢
  have y0 : wb.drew.cell? ⟨bx, 0, none⟩ = some (.int .i64 x0) := hbx.cell 0
  have y1 : wb.drew.cell? ⟨bx, 1, none⟩ = some (.int .i64 x1) := hbx.cell 1
  have y0' : wb.cell? ⟨bx, 0, none⟩ = some (.int .i64 x0) := hbx.cell 0
  have y1' : wb.cell? ⟨bx, 1, none⟩ = some (.int .i64 x1) := hbx.cell 1
  have Hbx := Lib.hid hbx; clear hbx
  go_region_held3 (fun w' => w'.cell? ⟨bx, 0, none⟩ = some (.int .i64 x0) ∧ w'.cell? ⟨bx, 1, none⟩ = some (.int .i64 x1)) (first | (go_keep; done) | (constructor <;> assumption))
   (first
    | (go_at_call 18
       refine (snd_new 5 (fun _ => 0) x0 x1 wb.drew).mono ?_
       rintro e w1 ⟨rfl, own1, st1, h1⟩
       have hbx1 : Blk w1 bx 36 #[.int .i64 x0, .int .i64 x1] := (Hbx.out : Blk wb.drew bx 36 _).of_eq (st1.heap bx Hbx.out.lt (by decide))
       have y01 : w1.cell? ⟨bx, 0, none⟩ = some (.int .i64 x0) := hbx1.cell 0
       have y11 : w1.cell? ⟨bx, 1, none⟩ = some (.int .i64 x1) := hbx1.cell 1
       have H1 := Lib.hid hbx1
       clear hbx1)
    | (go_at_call 39
       refine (ref10_new 2 own1 x0 x1 w1).mono ?_
       rintro e w2 ⟨rfl, own2, st2, h2⟩
       have hbx2 : Blk w2 bx 36 #[.int .i64 x0, .int .i64 x1] := H1.out.of_eq (st2.heap bx H1.out.lt (by rw [st1.own bx Hbx.out.lt]; decide))
       have y02 : w2.cell? ⟨bx, 0, none⟩ = some (.int .i64 x0) := hbx2.cell 0
       have y12 : w2.cell? ⟨bx, 1, none⟩ = some (.int .i64 x1) := hbx2.cell 1
       clear hbx2))
  have ht := duo_new (grown_drew hg0) (by omega) st1 h1 st2 h2
  have hz : (Snd.new x0 x1).sent = 0 := rfl
  clear st1 h1 st2 h2 y0 y1 y0' y1' y01 y11 y02 y12 Hbx H1 hg0
  generalize Snd.new x0 x1 = s0 at ht hz
  generalize w1.heap.size = gb at ht ⊢
  have hga : wb.drew.heap.size = wb.heap.size := rfl
  rw [hga] at ht
  clear hga
  generalize wb.heap.size = ga at ht ⊢
  go_wp2_with fail
  refine (awake10 w2).mono ?_
  rintro e w3 ⟨rfl, hg⟩
  have ht3 := ht.grown hg
  clear ht hg
  go_wp2_with fail
  refine (Hg3.out w3 (Hr.out.keep (fun b off _ _ hb => ht3.end_.block b hb (by simp)) (by omega))).mono ?_
  rintro e w4 ⟨rfl, hg⟩
  have ht4 := ht3.grown hg
  clear ht3 hg
  rcases hbad with hgr | ⟨hgr, hat | ⟨hat0, hat⟩⟩
  all_goals
    rw [hgr]
    clear hgr Hg3 Hl200
    go_wp2_with fail
    refine (awake10 w4).mono ?_
    rintro e w5 ⟨rfl, hg⟩
    have ht5 := ht4.grown hg
    clear ht4 hg
    go_wp2
    go_ret
    exact ⟨rfl, ht5.end_⟩

set_option maxHeartbeats 8000000 in
set_option maxRecDepth 10000 in
theorem copies10_play (x0 x1 : Int) (p b off : Nat) (c : Nat) (l : List Act3) (w : World) (hr : Rd w 3 (some ⟨b, off, none⟩) l.length (acells l)) (hgr : great3 l = false) (hp : p ≤ l.length) (hpos : 0 < l.length) (hlc : l.length ≤ c) (hcm : c ≤ maxLen) :
    Calls Try.prog 11 #[.agg #[.int .i64 x0, .int .i64 x1], .slice (some ⟨b, off, none⟩) l.length c, .int .i64 (p : Int)] w (BoolRet w true) := by
  obtain ⟨A, hA⟩ : ∃ A : Option Addr, A = some ⟨b, off, none⟩ := ⟨_, rfl⟩
  rw [← hA] at hr
  have hg3 : ∀ W, Rd W 3 A l.length (acells l) → Calls Try.prog 24 #[.slice A l.length c] W (BoolRet W (great3 l)) := fun W h => great10 A c l W h
  have Hg3 := Lib.hid hg3; clear hg3
  have hl200 : great3 l = false → l.length ≤ 200 := by
    intro h
    simp only [great3, Bool.or_eq_false_iff, decide_eq_false_iff_not] at h
    omega
  have Hl200 := Lib.hid hl200; clear hl200
  have Hr := Lib.hid hr; clear hr
  generalize hN : l.length = m at *
  have HN := Lib.hid hN; clear hN
  subst hA
  go_enter Try.func11, Try.ntmps11
  go_wp2_with fail
  have hg0 := World.grownBy_alloc w (.cells #[.int .i64 x0, .int .i64 x1] 36) none
  have hbx : Blk (w.alloc (.cells #[.int .i64 x0, .int .i64 x1] 36)) w.heap.size 36 #[.int .i64 x0, .int .i64 x1] := Blk.new w 36 _
  generalize w.alloc (.cells #[.int .i64 x0, .int .i64 x1] 36) = wb at hg0 hbx ⊢
  generalize w.heap.size = bx at hbx ⊢
  have y0 : wb.drew.cell? ⟨bx, 0, none⟩ = some (.int .i64 x0) := hbx.cell 0
  have y1 : wb.drew.cell? ⟨bx, 1, none⟩ = some (.int .i64 x1) := hbx.cell 1
  have y0' : wb.cell? ⟨bx, 0, none⟩ = some (.int .i64 x0) := hbx.cell 0
  have y1' : wb.cell? ⟨bx, 1, none⟩ = some (.int .i64 x1) := hbx.cell 1
  have Hbx := Lib.hid hbx; clear hbx
  go_region_held3 (fun w' => w'.cell? ⟨bx, 0, none⟩ = some (.int .i64 x0) ∧ w'.cell? ⟨bx, 1, none⟩ = some (.int .i64 x1)) (first | (go_keep; done) | (constructor <;> assumption))
   (first
    | (go_at_call 18
       refine (snd_new 5 (fun _ => 0) x0 x1 wb.drew).mono ?_
       rintro e w1 ⟨rfl, own1, st1, h1⟩
       have hbx1 : Blk w1 bx 36 #[.int .i64 x0, .int .i64 x1] := (Hbx.out : Blk wb.drew bx 36 _).of_eq (st1.heap bx Hbx.out.lt (by decide))
       have y01 : w1.cell? ⟨bx, 0, none⟩ = some (.int .i64 x0) := hbx1.cell 0
       have y11 : w1.cell? ⟨bx, 1, none⟩ = some (.int .i64 x1) := hbx1.cell 1
       have H1 := Lib.hid hbx1
       clear hbx1)
    | (go_at_call 39
       refine (ref10_new 2 own1 x0 x1 w1).mono ?_
       rintro e w2 ⟨rfl, own2, st2, h2⟩
       have hbx2 : Blk w2 bx 36 #[.int .i64 x0, .int .i64 x1] := H1.out.of_eq (st2.heap bx H1.out.lt (by rw [st1.own bx Hbx.out.lt]; decide))
       have y02 : w2.cell? ⟨bx, 0, none⟩ = some (.int .i64 x0) := hbx2.cell 0
       have y12 : w2.cell? ⟨bx, 1, none⟩ = some (.int .i64 x1) := hbx2.cell 1
       clear hbx2))
  have ht := duo_new (grown_drew hg0) (by omega) st1 h1 st2 h2
  have hz : (Snd.new x0 x1).sent = 0 := rfl
  clear st1 h1 st2 h2 y0 y1 y0' y1' y01 y11 y02 y12 Hbx H1 hg0
  generalize Snd.new x0 x1 = s0 at ht hz
  generalize w1.heap.size = gb at ht ⊢
  have hga : wb.drew.heap.size = wb.heap.size := rfl
  rw [hga] at ht
  clear hga
  generalize wb.heap.size = ga at ht ⊢
  go_wp2_with fail
  refine (awake10 w2).mono ?_
  rintro e w3 ⟨rfl, hg⟩
  have ht3 := ht.grown hg
  clear ht hg
  go_wp2_with fail
  refine (Hg3.out w3 (Hr.out.keep (fun b off _ _ hb => ht3.end_.block b hb (by simp)) (by omega))).mono ?_
  rintro e w4 ⟨rfl, hg⟩
  have ht4 := ht3.grown hg
  clear ht3 hg
  rw [hgr]
  have hll := Hl200.out hgr
  clear hgr Hg3 Hl200
  have hc0 : ¬ c = 0 := by omega
  have hd1 : decide ((p : Int) < 0) = false := by simp
  have hd2 : decide ((m : Int) < (p : Int)) = false := by simp; omega
  have hd3 : decide (m < p) = false := by simp; omega
  unfold maxLen at hcm
  go_wp2_with fail
  go_loopw [49] (fun v wr => ∃ k : Nat, k ≤ p ∧ v = .int .i64 k ∧ ∃ s, s.sent ≤ k ∧ Duo w 5 ga s gb s [] [] wr) (fun v _ => p - (intOf v).toNat)
  case atStart => exact ⟨0, by omega, rfl, s0, by omega, ht4⟩
  case round =>
    clear ht4
    obtain ⟨k, hk, rfl, s, hsk, hs⟩ := hrel
    by_cases hlt : k < p
    · have hkl : k < l.length := by have := HN.out; omega
      have hrd : Rd wr 3 (some ⟨b, off, none⟩) l.length (acells l) := by
        have := HN.out; rw [this]
        exact Hr.out.keep (fun b off _ _ hb => hs.end_.block b hb (by simp)) (by omega)
      obtain ⟨b', off', e, c0, c1, c2⟩ := acts_at hrd hkl
      injection e with e
      injection e with e1 e2
      subst e1; subst e2
      clear hrd
      generalize l[k].text = tx at c2
      generalize l[k].kind = kd at c0
      generalize l[k].n = nn at c1
      have ht := hs.alloc #[.int .i64 kd, .int .i64 nn, .string tx]
      clear hs
      have hs0 : s.sent ≤ 300 := by omega
      by_cases h1 : kd = 1
      · subst h1
        have hacc := off_sent s tx
        go_wp2_with fail
        refine (duo_offer ht tx _ _ _ rfl rfl rfl).mono ?_
        rintro e w6 ⟨rfl, hta⟩
        have z2 : w6.cell? ⟨wr.heap.size, 2, none⟩ = some (.string tx) := (hta.blk (List.mem_singleton.2 rfl)).cell 2
        clear ht
        go_wp2_with fail
        refine (duo_offer2 hta tx _ _ _ hs0 rfl rfl rfl).mono ?_
        rintro e w7 ⟨rfl, htb⟩
        clear hta z2
        go_wp2_with fail
        go_roundw
        case rel => exact ⟨k + 1, by omega, by go_num, _, by omega, htb.drop⟩
        case measure => simp [intOf]; omega
      · have h1' : (kd == 1) = false := by simpa using h1
        have hacc : (s.ack nn).sent = s.sent := rfl
        go_wp2_with fail
        refine (duo_ack ht nn _ _ rfl rfl).mono ?_
        rintro e w6 ⟨rfl, hta⟩
        have z1 : w6.cell? ⟨wr.heap.size, 1, none⟩ = some (.int .i64 nn) := (hta.blk (List.mem_singleton.2 rfl)).cell 1
        clear ht
        go_wp2_with fail
        refine (duo_ack2 hta nn _ _ hs0 rfl rfl).mono ?_
        rintro e w7 ⟨rfl, htb⟩
        clear hta z1
        go_wp2_with fail
        go_roundw
        case rel => exact ⟨k + 1, by omega, by go_num, _, by omega, htb.drop⟩
        case measure => simp [intOf]; omega
    · have hkp : k = p := by omega
      clear hlt hk
      have hs0 : s.sent ≤ 300 := by omega
      go_wp2_with fail
      refine (duo_copy hs 6 (by omega) (by omega)).mono ?_
      rintro e w6 ⟨g', rfl, hta⟩
      have htb := hta.swap
      clear hta hs
      have hst : ∃ sc, Duo w 6 g' sc gb s [(5, ga, s)] [] w6 := ⟨s, htb⟩
      clear htb
      by_cases hcp : c = p
      · have hpm : m - p = 0 := by omega
        have hst' := hst
        go_wp2_with fail
        obtain ⟨sc, hs⟩ := hst
        refine wp_loop_rounds 1 ?_
        rw [rounds_succ]
        have hta := hs.swap
        clear hs
        go_wp2_with fail
        refine (duo_alike hta hs0).mono ?_
        rintro e w9 ⟨rfl, htb⟩
        go_wp2
        go_ret
        exact ⟨rfl, htb.end_⟩
      · go_wp2_with fail
        clear hkp
        go_loopw [81] (fun v wr => ∃ k : Nat, k ≤ m - p ∧ v = .int .i64 k ∧ ∃ sc, Duo w 6 g' sc gb s [(5, ga, s)] [] wr) (fun v _ => m - p - (intOf v).toNat)
        case atStart => exact ⟨0, by omega, rfl, hst⟩
        case round =>
          clear hst
          obtain ⟨k, hk, rfl, sc, hs⟩ := hrel
          by_cases hlt : k < m - p
          · have hkl : p + k < l.length := by have := HN.out; omega
            have hrd : Rd wr 3 (some ⟨b, off, none⟩) l.length (acells l) := by
              have := HN.out; rw [this]
              exact Hr.out.keep (fun b off _ _ hb => hs.end_.block b hb (by simp)) (by omega)
            obtain ⟨b', off', e, c0, c1, c2⟩ := acts_at hrd hkl
            injection e with e
            injection e with e1 e2
            subst e1; subst e2
            clear hrd
            generalize l[p + k].text = tx at c2
            generalize l[p + k].kind = kd at c0
            generalize l[p + k].n = nn at c1
            rw [show off + (p + k) * 3 = off + p * 3 + k * 3 by omega] at c0 c1 c2
            have ht := hs.alloc #[.int .i64 kd, .int .i64 nn, .string tx]
            clear hs
            by_cases h1 : kd = 1
            · subst h1
              go_wp2_with fail
              refine (duo_offer ht tx _ _ _ rfl rfl rfl).mono ?_
              rintro e w7 ⟨rfl, hta⟩
              clear ht
              go_wp2_with fail
              go_roundw
              case rel => exact ⟨k + 1, by omega, by go_num, _, hta.drop⟩
              case measure => simp [intOf]; omega
            · have h1' : (kd == 1) = false := by simpa using h1
              go_wp2_with fail
              refine (duo_ack ht nn _ _ rfl rfl).mono ?_
              rintro e w7 ⟨rfl, hta⟩
              clear ht
              go_wp2_with fail
              go_roundw
              case rel => exact ⟨k + 1, by omega, by go_num, _, hta.drop⟩
              case measure => simp [intOf]; omega
          · have hkp : k = m - p := by omega
            subst hkp
            have hta := hs.swap
            clear hs
            go_wp2_with fail
            refine (duo_alike hta hs0).mono ?_
            rintro e w9 ⟨rfl, htb⟩
            go_wp2
            go_ret
            exact ⟨rfl, htb.end_⟩

set_option maxHeartbeats 8000000 in
set_option maxRecDepth 10000 in
theorem copies10_nil (x0 x1 : Int) (A : Option Addr) (c : Nat) (w : World) (hr : Rd w 3 A 0 (acells [])) (hcm : c ≤ maxLen) :
    Calls Try.prog 11 #[.agg #[.int .i64 x0, .int .i64 x1], .slice A 0 c, .int .i64 0] w (BoolRet w true) := by
  have hg3 : ∀ W, Rd W 3 A 0 (acells []) → Calls Try.prog 24 #[.slice A 0 c] W (BoolRet W false) := fun W h => great10 A c [] W h
  have Hg3 := Lib.hid hg3; clear hg3
  have Hr := Lib.hid hr; clear hr
  go_enter Try.func11, Try.ntmps11
  go_wp2_with fail
  have hg0 := World.grownBy_alloc w (.cells #[.int .i64 x0, .int .i64 x1] 36) none
  have hbx : Blk (w.alloc (.cells #[.int .i64 x0, .int .i64 x1] 36)) w.heap.size 36 #[.int .i64 x0, .int .i64 x1] := Blk.new w 36 _
  generalize w.alloc (.cells #[.int .i64 x0, .int .i64 x1] 36) = wb at hg0 hbx ⊢
  generalize w.heap.size = bx at hbx ⊢
  have y0 : wb.drew.cell? ⟨bx, 0, none⟩ = some (.int .i64 x0) := hbx.cell 0
  have y1 : wb.drew.cell? ⟨bx, 1, none⟩ = some (.int .i64 x1) := hbx.cell 1
  have y0' : wb.cell? ⟨bx, 0, none⟩ = some (.int .i64 x0) := hbx.cell 0
  have y1' : wb.cell? ⟨bx, 1, none⟩ = some (.int .i64 x1) := hbx.cell 1
  have Hbx := Lib.hid hbx; clear hbx
  go_region_held3 (fun w' => w'.cell? ⟨bx, 0, none⟩ = some (.int .i64 x0) ∧ w'.cell? ⟨bx, 1, none⟩ = some (.int .i64 x1)) (first | (go_keep; done) | (constructor <;> assumption))
   (first
    | (go_at_call 18
       refine (snd_new 5 (fun _ => 0) x0 x1 wb.drew).mono ?_
       rintro e w1 ⟨rfl, own1, st1, h1⟩
       have hbx1 : Blk w1 bx 36 #[.int .i64 x0, .int .i64 x1] := (Hbx.out : Blk wb.drew bx 36 _).of_eq (st1.heap bx Hbx.out.lt (by decide))
       have y01 : w1.cell? ⟨bx, 0, none⟩ = some (.int .i64 x0) := hbx1.cell 0
       have y11 : w1.cell? ⟨bx, 1, none⟩ = some (.int .i64 x1) := hbx1.cell 1
       have H1 := Lib.hid hbx1
       clear hbx1)
    | (go_at_call 39
       refine (ref10_new 2 own1 x0 x1 w1).mono ?_
       rintro e w2 ⟨rfl, own2, st2, h2⟩
       have hbx2 : Blk w2 bx 36 #[.int .i64 x0, .int .i64 x1] := H1.out.of_eq (st2.heap bx H1.out.lt (by rw [st1.own bx Hbx.out.lt]; decide))
       have y02 : w2.cell? ⟨bx, 0, none⟩ = some (.int .i64 x0) := hbx2.cell 0
       have y12 : w2.cell? ⟨bx, 1, none⟩ = some (.int .i64 x1) := hbx2.cell 1
       clear hbx2))
  have ht := duo_new (grown_drew hg0) (by omega) st1 h1 st2 h2
  have hz : (Snd.new x0 x1).sent = 0 := rfl
  clear st1 h1 st2 h2 y0 y1 y0' y1' y01 y11 y02 y12 Hbx H1 hg0
  generalize Snd.new x0 x1 = s0 at ht hz
  generalize w1.heap.size = gb at ht ⊢
  have hga : wb.drew.heap.size = wb.heap.size := rfl
  rw [hga] at ht
  clear hga
  generalize wb.heap.size = ga at ht ⊢
  go_wp2_with fail
  refine (awake10 w2).mono ?_
  rintro e w3 ⟨rfl, hg⟩
  have ht3 := ht.grown hg
  clear ht hg
  go_wp2_with fail
  refine (Hg3.out w3 (Hr.out.keep (fun b off _ _ hb => ht3.end_.block b hb (by simp)) (by omega))).mono ?_
  rintro e w4 ⟨rfl, hg⟩
  have ht4 := ht3.grown hg
  clear ht3 hg
  clear Hg3
  have hs0 : s0.sent ≤ 300 := by omega
  unfold maxLen at hcm
  by_cases hc0 : c = 0
  all_goals
    go_wp2_with fail
    refine wp_loop_rounds 1 ?_
    rw [rounds_succ]
    go_wp2_with fail
    refine (duo_copy ht4 6 (by omega) (by omega)).mono ?_
    rintro e w6 ⟨g', rfl, hta⟩
    clear ht4
    go_wp2_with fail
    refine wp_loop_rounds 1 ?_
    rw [rounds_succ]
    go_wp2_with fail
    refine (duo_alike hta hs0).mono ?_
    rintro e w9 ⟨rfl, htb⟩
    go_wp2
    go_ret
    exact ⟨rfl, htb.end_⟩

theorem copies10_walk (x0 x1 at_ : Int) (A : Option Addr) (c : Nat) (l : List Act3) (w : World) (hr : Rd w 3 A l.length (acells l)) (hlc : l.length ≤ c) (hcm : c ≤ maxLen) :
    Calls Try.prog 11 #[.agg #[.int .i64 x0, .int .i64 x1], .slice A l.length c, .int .i64 at_] w (BoolRet w true) := by
  cases hg : great3 l with
  | true => exact copies10_bad x0 x1 at_ A c l w hr (.inl hg)
  | false =>
    by_cases hb : at_ < 0 ∨ (0 ≤ at_ ∧ (l.length : Int) < at_)
    · exact copies10_bad x0 x1 at_ A c l w hr (.inr ⟨hg, hb⟩)
    · obtain ⟨p, rfl⟩ : ∃ p : Nat, at_ = (p : Int) := ⟨at_.toNat, by omega⟩
      rcases Nat.eq_zero_or_pos l.length with h0 | h0
      · obtain rfl := List.eq_nil_of_length_eq_zero h0
        obtain rfl : p = 0 := by simp at hb; omega
        exact copies10_nil x0 x1 A c w hr hcm
      · obtain ⟨b, off, rfl, _⟩ := hr.2 h0
        exact copies10_play x0 x1 p b off c l w hr hg (by omega) h0 hlc hcm
end Go.Proofs.Ytjloipjchcaloaa
