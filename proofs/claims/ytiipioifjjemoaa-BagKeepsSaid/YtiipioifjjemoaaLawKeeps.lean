/- The walk of BagKeeps. -/
import Derived.Test.YtiipioifjjemoaaKeeps0
import Derived.Outline
namespace Go.Proofs.Ytiipioifjjemoaa
open Go.RowKit
set_option linter.unusedVariables false

theorem twice_len {s tS : BSt} {x te : Int} (h : twiceB s x = (te, tS)) : te = 0 → tS.length = s.length + 1 := by
  intro h0
  subst h0
  unfold twiceB at h
  split at h
  · simp at h
  · split at h
    · simp at h
    · rename_i h1 h2
      obtain ⟨k, hk⟩ : ∃ k : Nat, x = (k : Int) := ⟨x.toNat, by omega⟩
      subst hk
      simp only [Prod.mk.injEq, true_and] at h
      rw [← h]
      have hkl : k < s.length := by omega
      simp [hkl]
theorem twice_inn {s tS : BSt} {ks : List Pkt} {x te : Int} (h : twiceB s x = (te, tS)) (hs : Inn s ks) : Inn tS ks := by
  unfold twiceB at h
  split at h
  · simp only [Prod.mk.injEq] at h
    rw [← h.2]; exact hs
  · split at h
    · simp only [Prod.mk.injEq] at h
      rw [← h.2]; exact hs
    · simp only [Prod.mk.injEq] at h
      rw [← h.2]
      intro q hq
      rw [List.mem_append, Option.mem_toList] at hq
      rcases hq with hq | hq
      · exact hs q hq
      · exact hs q (List.mem_of_getElem? hq)
theorem take_inn {s : BSt} {ks : List Pkt} {k : Nat} (hs : Inn s ks) : Inn (s.take k ++ s.drop (k + 1)) ks := by
  intro q hq
  rw [List.mem_append] at hq
  rcases hq with hq | hq
  · exact hs q (List.mem_of_mem_take hq)
  · exact hs q (List.mem_of_mem_drop hq)

set_option maxHeartbeats 8000000 in
set_option maxRecDepth 10000 in
theorem keeps19 (A : Option Addr) (c : Nat) (l : List ActC) (w : World) (hr : Rd w 5 A l.length (ccells l)) (hw : ∀ a ∈ l, ActWf w a) (hpw : ∀ a ∈ l, ∀ p ∈ a.ps, PktWf p) :
    Calls Try.prog 4 #[.slice A l.length c] w (BoolRet w true) := by
  obtain ⟨i0, hi, hz0, hz1, hz2⟩ := info_parts Try.info39
  have Hr := Lib.hid hr; clear hr
  have Hw := Lib.hid hw; clear hw
  have Hpw := Lib.hid hpw; clear hpw
  obtain ⟨n, hN⟩ : ∃ n, l.length = n := ⟨_, rfl⟩
  have hgr : ∀ (g : Nat) (s : BSt) (X : Hold) (W : World), Bg w g s X W → Calls Try.prog 9 #[.slice A n c] W (BoolRet W (greatC l)) := fun g s X W h => by
    rw [← hN]
    exact great19 A c l W (h.old Hr.out (by omega)) (h.wf Hw.out)
  have Hgr := Lib.hid hgr; clear hgr
  rw [hN]
  have HN := Lib.hid hN; clear hN
  go_enter Try.func4, Try.ntmps4
  go_wp2_with fail
  refine (Bg.new w).mono ?_
  rintro e w1 ⟨rfl, h1⟩
  go_wp2_with fail
  refine (awake19 w1).mono ?_
  rintro e w3 ⟨rfl, hg⟩
  have h3 := h1.grown Kept.none hg
  clear h1 hg
  go_wp2_with fail
  refine (Hgr.out _ _ _ _ h3).mono ?_
  rintro e w4 ⟨rfl, hg⟩
  have h4 := h3.grown Kept.none hg
  clear h3 hg
  cases hgc : greatC l with
  | true =>
    go_wp2_with fail
    refine (awake19 w4).mono ?_
    rintro e w5 ⟨rfl, hg⟩
    have h5 := h4.grown Kept.none hg
    clear h4 hg
    go_wp2
    go_ret
    exact ⟨rfl, h5.end_⟩
  | false =>
    obtain ⟨hn60, hsmall⟩ := greatC_small hgc
    rw [HN.out] at hn60
    have Hsmall := Lib.hid hsmall; clear hsmall hgc
    have h5 := h4.made
    clear h4
    have h50 : Hid (Inn [] []) := Lib.hid (fun q hq => by simp at hq)
    have hmk := run_makeMap (P := Try.prog) 43 w4
    go_wp2_with fail
    clear hmk
    go_loopw [30] (fun v wr => ∃ k : Nat, k ≤ n ∧ v = .int .i64 k ∧ ∃ s ks, Hid (Inn s ks) ∧ Bg w w.heap.size s (KX w4.heap.size (20 * k) ks) wr) (fun v _ => n - (intOf v).toNat)
    case atStart => exact ⟨0, by omega, rfl, [], [], h50, h5⟩
    case round =>
      clear h5 h50
      obtain ⟨k, hk, rfl, s, ks, Hs, hT⟩ := hrel
      by_cases hlt : k < n
      · obtain ⟨b, off, a, rfl, hla, d0, d1, d2, d3, d4⟩ := actsC_at (hT.old Hr.out (by omega)) (k := k) (by rw [HN.out]; exact hlt)
        obtain ⟨hac, hcm, hm0, hm1, hrd⟩ := Hw.out a (List.mem_of_getElem? hla)
        have hpw := Hpw.out a (List.mem_of_getElem? hla)
        obtain ⟨ha20, hap⟩ := Hsmall.out a (List.mem_of_getElem? hla)
        clear hla hap
        obtain ⟨kd, an, bit, mask, aA, ac, ps⟩ := a
        dsimp only at d0 d1 d2 d3 d4 hac hcm hm0 hm1 hrd hpw ha20
        obtain ⟨m, hm⟩ : ∃ m, ps.length = m := ⟨_, rfl⟩
        rw [hm] at d4 hac hrd ha20
        have Hm := Lib.hid hm; clear hm
        have Hrd := Lib.hid hrd; clear hrd
        have Hpk := Lib.hid hpw; clear hpw
        have h6 : Bg w w.heap.size s (KB w4.heap.size (20 * k) ks wr.heap.size #[.int .i64 kd, .int .i64 an, .int .i64 bit, .int .u32 mask, .slice aA m ac]) _ := hT.alloc (KX.kept _ _ _) 34 #[.int .i64 kd, .int .i64 an, .int .i64 bit, .int .u32 mask, .slice aA m ac]
        have K6 := Lib.hid (KB.kept w4.heap.size (20 * k) ks wr.heap.size #[.int .i64 kd, .int .i64 an, .int .i64 bit, .int .u32 mask, .slice aA m ac])
        clear hT
        by_cases hk1 : kd = 1
        · subst hk1
          obtain ⟨wo, rfl⟩ : ∃ wo, wo = wr := ⟨_, rfl⟩
          have hks : Hid (∀ p : Pkt, p ∈ ks ∨ p ∈ ps.take 0 → p ∈ ks) := Lib.hid (fun p hp => by simpa using hp)
          have hb6 := h6.blk (fun _ _ h => h.2.2)
          have y4 := hb6.cell 4
          simp only [List.getElem?_toArray, List.getElem?_cons_zero, List.getElem?_cons_succ] at y4
          clear hb6
          obtain ⟨cs, hcs⟩ : ∃ cs : Array Value, cs = #[.int .i64 1, .int .i64 an, .int .i64 bit, .int .u32 mask, .slice aA m ac] := ⟨_, rfl⟩
          have hcs4 : cs[4]? = some (.slice aA m ac) := by rw [hcs]; rfl
          rw [← hcs] at h6 K6
          have Hcs4 := Lib.hid hcs4; clear hcs4
          have Hcs := Lib.hid hcs; clear hcs
          go_wp2_with fail
          go_loopw [41] (fun v wr2 => ∃ j : Nat, j ≤ m ∧ v = .int .i64 j ∧ ∃ ks', Hid (∀ p : Pkt, p ∈ ks ∨ p ∈ ps.take j → p ∈ ks') ∧ Bg w w.heap.size s (KB w4.heap.size (20 * k + j) ks' wo.heap.size cs) wr2) (fun v _ => m - (intOf v).toNat)
          case atStart =>
            refine ⟨0, by omega, rfl, ks, hks, ?_⟩
            rw [Hcs.out] at h6 ⊢
            exact h6
          case round =>
            clear h6 hks K6 y4
            obtain ⟨j, hj, rfl, ks', Hks, hq⟩ := hrel
            by_cases hjm : j < m
            · obtain ⟨b2, off2, p, hA2, hpj, q0, q1, q2⟩ := pkt_at (hq.old Hrd.out (by omega)) hjm
              have hpw := Hpk.out p (List.mem_of_getElem? hpj)
              have hkn := hq.known (fun _ _ h => h.1.2)
              obtain ⟨wz, hrun, hkz, hgz⟩ := (hkn.of_eq (w' := wr.alloc (.cells #[.int .i64 p.src, .int .i64 p.dst, .string p.bytes] 39)) (Below.heap_alloc _ _ _ hkn.lt)).put (by unfold maxLen; omega) p hpw
              have hq2 := (hq.grown (KB.kept _ _ _ _ _) (World.grownBy_alloc wr (.cells #[.int .i64 p.src, .int .i64 p.dst, .string p.bytes] 39) none)).put hgz hkz
              have hks2 : Hid (∀ p' : Pkt, p' ∈ ks ∨ p' ∈ ps.take (j + 1) → p' ∈ p :: ks') := Lib.hid (fun p' hp' => by
                rw [List.take_add_one, hpj, Option.toList_some, List.mem_append, List.mem_singleton] at hp'
                rcases hp' with h | h | h
                · exact List.mem_cons_of_mem _ (Hks.out p' (.inl h))
                · exact List.mem_cons_of_mem _ (Hks.out p' (.inr h))
                · rw [h]; exact List.mem_cons_self)
              have Hq2 := Lib.hid hq2; clear hq2 hq hkz hkn hpj hpw
              have Hgz := Lib.hid hgz; clear hgz
              unfold pvl at hrun
              obtain ⟨p0, p1, p2⟩ := p
              dsimp only at hrun q0 q1 q2
              rw [hA2]
              go_wp2_with fail
              go_roundw
              case rel => exact ⟨j + 1, by omega, by go_num, _, hks2, Hq2.out⟩
              case measure => simp [intOf]; omega
            · obtain rfl : j = m := by omega
              have hb6 := hq.blk (fun _ _ h => h.2.2)
              have y4 := (hb6.cell 4).trans Hcs4.out
              have hbl := hb6.lt
              clear hb6
              have KB6 := Lib.hid (KB.kept w4.heap.size (20 * k + j) ks' wo.heap.size cs)
              have Hone := Lib.hid (pcells_one ps)
              have hpl : (pcells ps).length = j * 3 := by rw [pcells_length, Hm.out]
              have Hpl := Lib.hid hpl; clear hpl
              go_wp2_with (at_builtin; refine wpList_copied rfl (.tmp 49) (.tmp 51) 26 rfl 39 i0 (.agg #[.int .i64 0, .int .i64 0, .string ByteArray.empty]) 3 32 Try.underlying26 hi hz0 hz1 hz2 rfl (by decide) _ aA j ac _ (by rfl) (by rfl) ((hq.grown KB6.out (World.grownBy_alloc wr _ none)).old Hrd.out (by omega)) Hone.out (by unfold maxLen; omega) (by omega) ?_; intro A5 c5 w5 hcp; have h7 := (hq.grown KB6.out (World.grownBy_alloc wr _ none)).hold KB6.out (NewRow.of_copied hcp Hpl.out); have hle := hcp.le; have hmx := hcp.max; clear hcp)
              have K7 := Lib.hid (Kept.row KB6.out 30 (by omega) 39 3 A5 j (pcells ps))
              have hadd := bg_add h7 K7.out ps A5 j c5 30 Hm.out rfl (fun _ _ h => h.2) hle hmx (addN s ps) rfl
              have hin : Inn (s ++ fresh (ps.take (addN s ps))) ks' := fun q hq => by
                rw [List.mem_append] at hq
                rcases hq with hq | hq
                · exact ⟨Hks.out _ (.inl (Hs.out q hq).1), (Hs.out q hq).2⟩
                · simp only [fresh, List.mem_map] at hq
                  obtain ⟨p, hp, rfl⟩ := hq
                  have hpm := List.mem_of_mem_take hp
                  exact ⟨Hks.out _ (.inr (by rw [List.take_of_length_le (by rw [Hm.out]; exact Nat.le_refl _)]; exact hpm)), Hpk.out _ hpm⟩
              obtain ⟨tS, htS⟩ : ∃ tS, s ++ fresh (ps.take (addN s ps)) = tS := ⟨_, rfl⟩
              rw [htS] at hadd hin
              have Hti := Lib.hid hin
              clear hin htS hq h7 y4
              refine hadd.mono ?_
              clear hadd
              rintro e w8 ⟨rfl, h8'⟩
              have h8 := h8'.weaken (fun _ _ h => h.1)
              clear h8'
              obtain ⟨NN, hNN⟩ : ∃ NN, 20 * k + j = NN := ⟨_, rfl⟩
              have hNle : NN ≤ 20 * (k + 1) := by omega
              rw [hNN] at h8
              clear hNN
              go_wp2_with fail
              refine (bg_all h8).mono ?_
              rintro e wa ⟨Aa, ca, rfl, hnr⟩
              obtain ⟨sl, hsl⟩ : ∃ sl, List.length (tS) = sl := ⟨_, rfl⟩
              have ha : Bg w w.heap.size (tS) (fun w' own => KX w4.heap.size (NN) (ks') w' own ∧ Row w' own 30 39 3 Aa (List.length (tS)) (pks (tS))) wa := (h8.weaken (fun _ _ h => h.1)).hold (KX.kept _ _ _) hnr
              have hs4 : List.length (tS) ≤ 4096 := by obtain ⟨_, _, hb, _⟩ := ha; exact hb.2.1
              rw [hsl] at ha hs4 ⊢
              have Hsl := Lib.hid hsl; clear hsl hnr
              have KR := Lib.hid (Kept.row (KX.kept w4.heap.size (NN) (ks')) 30 (by omega) 39 3 Aa sl (pks (tS)))
              go_wp2_with fail
              go_loopw [92] (fun v wr2 => ∃ j : Nat, j ≤ sl ∧ v = .int .i64 j ∧ Bg w w.heap.size (tS) (fun w' own => KX w4.heap.size (NN) (ks') w' own ∧ Row w' own 30 39 3 Aa sl (pks (tS))) wr2) (fun v _ => sl - (intOf v).toNat)
              case atStart => exact ⟨0, by omega, rfl, ha⟩
              case round =>
                clear ha
                obtain ⟨j, hj, rfl, hq⟩ := hrel
                by_cases hjl : j < sl
                · obtain ⟨b2, off2, p, hA2, hpj, q0, q1, q2⟩ := pkt_at (hq.rd (fun _ _ h => h.2)) hjl
                  obtain ⟨y, hy, rfl⟩ : ∃ y, (tS)[j]? = some y ∧ y.1 = p := by simpa using hpj
                  obtain ⟨hin, hwf⟩ := Hti.out y (List.mem_of_getElem? hy)
                  have hlk := ((hq.known (fun _ _ h => h.1.2)).of_eq (w' := wr.alloc (.cells #[.int .i64 y.1.src, .int .i64 y.1.dst, .string y.1.bytes] 39)) (Below.heap_alloc _ _ _ (hq.known (fun _ _ h => h.1.2)).lt)).look y.1 hin hwf
                  have hq2 := hq.grown KR.out (World.grownBy_alloc wr (.cells #[.int .i64 y.1.src, .int .i64 y.1.dst, .string y.1.bytes] 39) none)
                  have Hq2 := Lib.hid hq2; clear hq2 hq hpj hy hin hwf
                  obtain ⟨⟨p0, p1, p2⟩, pm⟩ := y
                  unfold pvl at hlk
                  dsimp only at hlk q0 q1 q2 Hq2
                  rw [hA2]
                  go_wp2_with fail
                  go_roundw
                  case rel => exact ⟨j + 1, by omega, by go_num, by rw [← hA2]; exact Hq2.out⟩
                  case measure => simp [intOf]; omega
                · obtain rfl : j = sl := by omega
                  have hz : Bg w w.heap.size (tS) (KX w4.heap.size (20 * (k + 1)) (ks')) _ := hq.weaken (fun _ _ h => ⟨h.1.1, h.1.2.monoN (by omega)⟩)
                  have Hz := Lib.hid hz; clear hz hq
                  go_wp2_with fail
                  go_roundw
                  case rel => exact ⟨k + 1, by omega, by go_num, tS, ks', Hti, Hz.out⟩
                  case measure => simp [intOf]; omega
        · have hd1 : (kd == 1) = false := by simpa using hk1
          by_cases hk2 : kd = 2
          · subst hk2
            have hb6 := h6.blk (fun _ _ h => h.2.2)
            have y1 := hb6.cell 1
            simp only [List.getElem?_toArray, List.getElem?_cons_zero, List.getElem?_cons_succ] at y1
            clear hb6
            have hs4 : s.length ≤ 4096 := by obtain ⟨_, _, hb, _⟩ := h6; exact hb.2.1
            obtain ⟨sn, hsn⟩ : ∃ sn, s.length = sn := ⟨_, rfl⟩
            have hlen := fun (Y : Hold) (W : World) (h : Bg w w.heap.size s Y W) => bg_len h (sn : Int) (by rw [hsn])
            rw [hsn] at hs4
            have Hlen := Lib.hid hlen; clear hlen
            have Hsn := Lib.hid hsn; clear hsn
            go_wp2_with fail
            refine (Hlen.out _ _ h6).mono ?_
            rintro e w7 ⟨rfl, rfl⟩
            go_wp2_with fail
            by_cases hx : an < 0 ∨ (s.length : Int) ≤ an
            · refine (bg_take_no h6 K6.out an hx).mono ?_
              clear hx
              rintro e w8 ⟨rfl, h8⟩
              have h9 := h8.grown K6.out (World.grownBy_alloc w8 (.cells #[.int .i64 0, .int .i64 0, .string ByteArray.empty] 39) none)
              clear h8 h6 y1
              go_wp2_with fail
              refine (bg_all h9).mono ?_
              rintro e wa ⟨Aa, ca, rfl, hnr⟩
              obtain ⟨sl, hsl⟩ : ∃ sl, List.length (s) = sl := ⟨_, rfl⟩
              have ha : Bg w w.heap.size (s) (fun w' own => KX w4.heap.size (20 * k) (ks) w' own ∧ Row w' own 30 39 3 Aa (List.length (s)) (pks (s))) wa := (h9.weaken (fun _ _ h => h.1)).hold (KX.kept _ _ _) hnr
              have hs4 : List.length (s) ≤ 4096 := by obtain ⟨_, _, hb, _⟩ := ha; exact hb.2.1
              rw [hsl] at ha hs4 ⊢
              have Hsl := Lib.hid hsl; clear hsl hnr
              have KR := Lib.hid (Kept.row (KX.kept w4.heap.size (20 * k) (ks)) 30 (by omega) 39 3 Aa sl (pks (s)))
              go_wp2_with fail
              go_loopw [92] (fun v wr2 => ∃ j : Nat, j ≤ sl ∧ v = .int .i64 j ∧ Bg w w.heap.size (s) (fun w' own => KX w4.heap.size (20 * k) (ks) w' own ∧ Row w' own 30 39 3 Aa sl (pks (s))) wr2) (fun v _ => sl - (intOf v).toNat)
              case atStart => exact ⟨0, by omega, rfl, ha⟩
              case round =>
                clear ha
                obtain ⟨j, hj, rfl, hq⟩ := hrel
                by_cases hjl : j < sl
                · obtain ⟨b2, off2, p, hA2, hpj, q0, q1, q2⟩ := pkt_at (hq.rd (fun _ _ h => h.2)) hjl
                  obtain ⟨y, hy, rfl⟩ : ∃ y, (s)[j]? = some y ∧ y.1 = p := by simpa using hpj
                  obtain ⟨hin, hwf⟩ := Hs.out y (List.mem_of_getElem? hy)
                  have hlk := ((hq.known (fun _ _ h => h.1.2)).of_eq (w' := wr.alloc (.cells #[.int .i64 y.1.src, .int .i64 y.1.dst, .string y.1.bytes] 39)) (Below.heap_alloc _ _ _ (hq.known (fun _ _ h => h.1.2)).lt)).look y.1 hin hwf
                  have hq2 := hq.grown KR.out (World.grownBy_alloc wr (.cells #[.int .i64 y.1.src, .int .i64 y.1.dst, .string y.1.bytes] 39) none)
                  have Hq2 := Lib.hid hq2; clear hq2 hq hpj hy hin hwf
                  obtain ⟨⟨p0, p1, p2⟩, pm⟩ := y
                  unfold pvl at hlk
                  dsimp only at hlk q0 q1 q2 Hq2
                  rw [hA2]
                  go_wp2_with fail
                  go_roundw
                  case rel => exact ⟨j + 1, by omega, by go_num, by rw [← hA2]; exact Hq2.out⟩
                  case measure => simp [intOf]; omega
                · obtain rfl : j = sl := by omega
                  have hz : Bg w w.heap.size (s) (KX w4.heap.size (20 * (k + 1)) (ks)) _ := hq.weaken (fun _ _ h => ⟨h.1.1, h.1.2.monoN (by omega)⟩)
                  have Hz := Lib.hid hz; clear hz hq
                  go_wp2_with fail
                  go_roundw
                  case rel => exact ⟨k + 1, by omega, by go_num, s, ks, Hs, Hz.out⟩
                  case measure => simp [intOf]; omega
            · obtain ⟨kk, hkk⟩ : ∃ kk : Nat, an = (kk : Int) := ⟨an.toNat, by omega⟩
              have hkl : kk < s.length := by omega
              obtain ⟨p, sp, hsk⟩ : ∃ p sp, s[kk]? = some (p, sp) := ⟨s[kk].1, s[kk].2, by simp [hkl]⟩
              obtain ⟨p0, p1, p2⟩ := p
              refine (bg_take h6 K6.out an kk ⟨p0, p1, p2⟩ sp hkk hsk).mono ?_
              have Hti := Lib.hid (take_inn (k := kk) Hs.out)
              have hln : (s.take kk ++ s.drop (kk + 1)).length = sn - 1 := by have := Hsn.out; simp; omega
              have hs0 : 0 < sn := by have := Hsn.out; omega
              obtain ⟨tS, htS⟩ : ∃ tS, s.take kk ++ s.drop (kk + 1) = tS := ⟨_, rfl⟩
              rw [htS] at Hti hln ⊢
              clear hx hkk hkl hsk htS
              rintro e w8 ⟨rfl, h8⟩
              have hlen2 := fun (Y : Hold) (W : World) (h : Bg w w.heap.size tS Y W) => bg_len h ((sn : Int) - 1) (by rw [hln]; omega)
              have Hlen2 := Lib.hid hlen2; clear hlen2 hln
              have h9 := h8.grown K6.out (World.grownBy_alloc w8 (.cells #[.int .i64 p0, .int .i64 p1, .string p2] 39) none)
              clear h8 h6 y1
              have H9 := Lib.hid h9
              go_wp2_with fail
              refine (Hlen2.out _ _ h9).mono ?_
              rintro e w10 ⟨rfl, rfl⟩
              go_wp2_with fail
              refine (bg_all h9).mono ?_
              rintro e wa ⟨Aa, ca, rfl, hnr⟩
              obtain ⟨sl, hsl⟩ : ∃ sl, List.length (tS) = sl := ⟨_, rfl⟩
              have ha : Bg w w.heap.size (tS) (fun w' own => KX w4.heap.size (20 * k) (ks) w' own ∧ Row w' own 30 39 3 Aa (List.length (tS)) (pks (tS))) wa := (h9.weaken (fun _ _ h => h.1)).hold (KX.kept _ _ _) hnr
              have hs4 : List.length (tS) ≤ 4096 := by obtain ⟨_, _, hb, _⟩ := ha; exact hb.2.1
              rw [hsl] at ha hs4 ⊢
              have Hsl := Lib.hid hsl; clear hsl hnr
              have KR := Lib.hid (Kept.row (KX.kept w4.heap.size (20 * k) (ks)) 30 (by omega) 39 3 Aa sl (pks (tS)))
              go_wp2_with fail
              go_loopw [92] (fun v wr2 => ∃ j : Nat, j ≤ sl ∧ v = .int .i64 j ∧ Bg w w.heap.size (tS) (fun w' own => KX w4.heap.size (20 * k) (ks) w' own ∧ Row w' own 30 39 3 Aa sl (pks (tS))) wr2) (fun v _ => sl - (intOf v).toNat)
              case atStart => exact ⟨0, by omega, rfl, ha⟩
              case round =>
                clear ha
                obtain ⟨j, hj, rfl, hq⟩ := hrel
                by_cases hjl : j < sl
                · obtain ⟨b2, off2, p, hA2, hpj, q0, q1, q2⟩ := pkt_at (hq.rd (fun _ _ h => h.2)) hjl
                  obtain ⟨y, hy, rfl⟩ : ∃ y, (tS)[j]? = some y ∧ y.1 = p := by simpa using hpj
                  obtain ⟨hin, hwf⟩ := Hti.out y (List.mem_of_getElem? hy)
                  have hlk := ((hq.known (fun _ _ h => h.1.2)).of_eq (w' := wr.alloc (.cells #[.int .i64 y.1.src, .int .i64 y.1.dst, .string y.1.bytes] 39)) (Below.heap_alloc _ _ _ (hq.known (fun _ _ h => h.1.2)).lt)).look y.1 hin hwf
                  have hq2 := hq.grown KR.out (World.grownBy_alloc wr (.cells #[.int .i64 y.1.src, .int .i64 y.1.dst, .string y.1.bytes] 39) none)
                  have Hq2 := Lib.hid hq2; clear hq2 hq hpj hy hin hwf
                  obtain ⟨⟨p0, p1, p2⟩, pm⟩ := y
                  unfold pvl at hlk
                  dsimp only at hlk q0 q1 q2 Hq2
                  rw [hA2]
                  go_wp2_with fail
                  go_roundw
                  case rel => exact ⟨j + 1, by omega, by go_num, by rw [← hA2]; exact Hq2.out⟩
                  case measure => simp [intOf]; omega
                · obtain rfl : j = sl := by omega
                  have hz : Bg w w.heap.size (tS) (KX w4.heap.size (20 * (k + 1)) (ks)) _ := hq.weaken (fun _ _ h => ⟨h.1.1, h.1.2.monoN (by omega)⟩)
                  have Hz := Lib.hid hz; clear hz hq
                  go_wp2_with fail
                  go_roundw
                  case rel => exact ⟨k + 1, by omega, by go_num, tS, ks, Hti, Hz.out⟩
                  case measure => simp [intOf]; omega
          · have hd2 : (kd == 2) = false := by simpa using hk2
            by_cases hk3 : kd = 3
            · subst hk3
              have hb6 := h6.blk (fun _ _ h => h.2.2)
              have y1 := hb6.cell 1
              simp only [List.getElem?_toArray, List.getElem?_cons_zero, List.getElem?_cons_succ] at y1
              clear hb6
              obtain ⟨tv, htv⟩ : ∃ tv, twiceB s an = tv := ⟨_, rfl⟩
              obtain ⟨te, tS⟩ := tv
              have htl : te = 0 → tS.length = s.length + 1 := twice_len htv
              have hti : Inn tS ks := twice_inn htv Hs.out
              have hs4 : s.length ≤ 4096 := by obtain ⟨_, _, hb, _⟩ := h6; exact hb.2.1
              have Hti := Lib.hid hti; clear hti
              have hcall := fun (Y : Hold) (W : World) (h : Bg w w.heap.size s Y W) (hY : Kept Y) => bg_twice h hY an
              rw [htv] at hcall
              have Hcall := Lib.hid hcall; clear hcall htv
              obtain ⟨sn, hsn⟩ : ∃ sn, s.length = sn := ⟨_, rfl⟩
              have hlen := fun (Y : Hold) (W : World) (h : Bg w w.heap.size s Y W) => bg_len h (sn : Int) (by rw [hsn])
              rw [hsn] at htl hs4
              have Hlen := Lib.hid hlen; clear hlen hsn
              go_wp2_with fail
              refine (Hlen.out _ _ h6).mono ?_
              rintro e w7 ⟨rfl, rfl⟩
              go_wp2_with fail
              refine (Hcall.out _ _ h6 K6.out).mono ?_
              rintro e w8 ⟨rfl, h8⟩
              clear h6 y1
              by_cases ht0 : te = 0
              · subst ht0
                have htl := htl rfl
                have hlen2 := fun (Y : Hold) (W : World) (h : Bg w w.heap.size tS Y W) => bg_len h ((sn : Int) + 1) (by rw [htl]; rfl)
                have Hlen2 := Lib.hid hlen2; clear hlen2 htl
                go_wp2_with fail
                refine (Hlen2.out _ _ h8).mono ?_
                rintro e w9 ⟨rfl, rfl⟩
                go_wp2_with fail
                refine (bg_all h8).mono ?_
                rintro e wa ⟨Aa, ca, rfl, hnr⟩
                obtain ⟨sl, hsl⟩ : ∃ sl, List.length (tS) = sl := ⟨_, rfl⟩
                have ha : Bg w w.heap.size (tS) (fun w' own => KX w4.heap.size (20 * k) (ks) w' own ∧ Row w' own 30 39 3 Aa (List.length (tS)) (pks (tS))) wa := (h8.weaken (fun _ _ h => h.1)).hold (KX.kept _ _ _) hnr
                have hs4 : List.length (tS) ≤ 4096 := by obtain ⟨_, _, hb, _⟩ := ha; exact hb.2.1
                rw [hsl] at ha hs4 ⊢
                have Hsl := Lib.hid hsl; clear hsl hnr
                have KR := Lib.hid (Kept.row (KX.kept w4.heap.size (20 * k) (ks)) 30 (by omega) 39 3 Aa sl (pks (tS)))
                go_wp2_with fail
                go_loopw [92] (fun v wr2 => ∃ j : Nat, j ≤ sl ∧ v = .int .i64 j ∧ Bg w w.heap.size (tS) (fun w' own => KX w4.heap.size (20 * k) (ks) w' own ∧ Row w' own 30 39 3 Aa sl (pks (tS))) wr2) (fun v _ => sl - (intOf v).toNat)
                case atStart => exact ⟨0, by omega, rfl, ha⟩
                case round =>
                  clear ha
                  obtain ⟨j, hj, rfl, hq⟩ := hrel
                  by_cases hjl : j < sl
                  · obtain ⟨b2, off2, p, hA2, hpj, q0, q1, q2⟩ := pkt_at (hq.rd (fun _ _ h => h.2)) hjl
                    obtain ⟨y, hy, rfl⟩ : ∃ y, (tS)[j]? = some y ∧ y.1 = p := by simpa using hpj
                    obtain ⟨hin, hwf⟩ := Hti.out y (List.mem_of_getElem? hy)
                    have hlk := ((hq.known (fun _ _ h => h.1.2)).of_eq (w' := wr.alloc (.cells #[.int .i64 y.1.src, .int .i64 y.1.dst, .string y.1.bytes] 39)) (Below.heap_alloc _ _ _ (hq.known (fun _ _ h => h.1.2)).lt)).look y.1 hin hwf
                    have hq2 := hq.grown KR.out (World.grownBy_alloc wr (.cells #[.int .i64 y.1.src, .int .i64 y.1.dst, .string y.1.bytes] 39) none)
                    have Hq2 := Lib.hid hq2; clear hq2 hq hpj hy hin hwf
                    obtain ⟨⟨p0, p1, p2⟩, pm⟩ := y
                    unfold pvl at hlk
                    dsimp only at hlk q0 q1 q2 Hq2
                    rw [hA2]
                    go_wp2_with fail
                    go_roundw
                    case rel => exact ⟨j + 1, by omega, by go_num, by rw [← hA2]; exact Hq2.out⟩
                    case measure => simp [intOf]; omega
                  · obtain rfl : j = sl := by omega
                    have hz : Bg w w.heap.size (tS) (KX w4.heap.size (20 * (k + 1)) (ks)) _ := hq.weaken (fun _ _ h => ⟨h.1.1, h.1.2.monoN (by omega)⟩)
                    have Hz := Lib.hid hz; clear hz hq
                    go_wp2_with fail
                    go_roundw
                    case rel => exact ⟨k + 1, by omega, by go_num, tS, ks, Hti, Hz.out⟩
                    case measure => simp [intOf]; omega
              · have hte : (te == 0) = false := by simpa using ht0
                clear htl
                go_wp2_with fail
                refine (bg_all h8).mono ?_
                rintro e wa ⟨Aa, ca, rfl, hnr⟩
                obtain ⟨sl, hsl⟩ : ∃ sl, List.length (tS) = sl := ⟨_, rfl⟩
                have ha : Bg w w.heap.size (tS) (fun w' own => KX w4.heap.size (20 * k) (ks) w' own ∧ Row w' own 30 39 3 Aa (List.length (tS)) (pks (tS))) wa := (h8.weaken (fun _ _ h => h.1)).hold (KX.kept _ _ _) hnr
                have hs4 : List.length (tS) ≤ 4096 := by obtain ⟨_, _, hb, _⟩ := ha; exact hb.2.1
                rw [hsl] at ha hs4 ⊢
                have Hsl := Lib.hid hsl; clear hsl hnr
                have KR := Lib.hid (Kept.row (KX.kept w4.heap.size (20 * k) (ks)) 30 (by omega) 39 3 Aa sl (pks (tS)))
                go_wp2_with fail
                go_loopw [92] (fun v wr2 => ∃ j : Nat, j ≤ sl ∧ v = .int .i64 j ∧ Bg w w.heap.size (tS) (fun w' own => KX w4.heap.size (20 * k) (ks) w' own ∧ Row w' own 30 39 3 Aa sl (pks (tS))) wr2) (fun v _ => sl - (intOf v).toNat)
                case atStart => exact ⟨0, by omega, rfl, ha⟩
                case round =>
                  clear ha
                  obtain ⟨j, hj, rfl, hq⟩ := hrel
                  by_cases hjl : j < sl
                  · obtain ⟨b2, off2, p, hA2, hpj, q0, q1, q2⟩ := pkt_at (hq.rd (fun _ _ h => h.2)) hjl
                    obtain ⟨y, hy, rfl⟩ : ∃ y, (tS)[j]? = some y ∧ y.1 = p := by simpa using hpj
                    obtain ⟨hin, hwf⟩ := Hti.out y (List.mem_of_getElem? hy)
                    have hlk := ((hq.known (fun _ _ h => h.1.2)).of_eq (w' := wr.alloc (.cells #[.int .i64 y.1.src, .int .i64 y.1.dst, .string y.1.bytes] 39)) (Below.heap_alloc _ _ _ (hq.known (fun _ _ h => h.1.2)).lt)).look y.1 hin hwf
                    have hq2 := hq.grown KR.out (World.grownBy_alloc wr (.cells #[.int .i64 y.1.src, .int .i64 y.1.dst, .string y.1.bytes] 39) none)
                    have Hq2 := Lib.hid hq2; clear hq2 hq hpj hy hin hwf
                    obtain ⟨⟨p0, p1, p2⟩, pm⟩ := y
                    unfold pvl at hlk
                    dsimp only at hlk q0 q1 q2 Hq2
                    rw [hA2]
                    go_wp2_with fail
                    go_roundw
                    case rel => exact ⟨j + 1, by omega, by go_num, by rw [← hA2]; exact Hq2.out⟩
                    case measure => simp [intOf]; omega
                  · obtain rfl : j = sl := by omega
                    have hz : Bg w w.heap.size (tS) (KX w4.heap.size (20 * (k + 1)) (ks)) _ := hq.weaken (fun _ _ h => ⟨h.1.1, h.1.2.monoN (by omega)⟩)
                    have Hz := Lib.hid hz; clear hz hq
                    go_wp2_with fail
                    go_roundw
                    case rel => exact ⟨k + 1, by omega, by go_num, tS, ks, Hti, Hz.out⟩
                    case measure => simp [intOf]; omega
            · have hd3 : (kd == 3) = false := by simpa using hk3
              go_wp2_with fail
              refine (bg_all h6).mono ?_
              rintro e wa ⟨Aa, ca, rfl, hnr⟩
              obtain ⟨sl, hsl⟩ : ∃ sl, List.length (s) = sl := ⟨_, rfl⟩
              have ha : Bg w w.heap.size (s) (fun w' own => KX w4.heap.size (20 * k) (ks) w' own ∧ Row w' own 30 39 3 Aa (List.length (s)) (pks (s))) wa := (h6.weaken (fun _ _ h => h.1)).hold (KX.kept _ _ _) hnr
              have hs4 : List.length (s) ≤ 4096 := by obtain ⟨_, _, hb, _⟩ := ha; exact hb.2.1
              rw [hsl] at ha hs4 ⊢
              have Hsl := Lib.hid hsl; clear hsl hnr
              have KR := Lib.hid (Kept.row (KX.kept w4.heap.size (20 * k) (ks)) 30 (by omega) 39 3 Aa sl (pks (s)))
              go_wp2_with fail
              go_loopw [92] (fun v wr2 => ∃ j : Nat, j ≤ sl ∧ v = .int .i64 j ∧ Bg w w.heap.size (s) (fun w' own => KX w4.heap.size (20 * k) (ks) w' own ∧ Row w' own 30 39 3 Aa sl (pks (s))) wr2) (fun v _ => sl - (intOf v).toNat)
              case atStart => exact ⟨0, by omega, rfl, ha⟩
              case round =>
                clear ha
                obtain ⟨j, hj, rfl, hq⟩ := hrel
                by_cases hjl : j < sl
                · obtain ⟨b2, off2, p, hA2, hpj, q0, q1, q2⟩ := pkt_at (hq.rd (fun _ _ h => h.2)) hjl
                  obtain ⟨y, hy, rfl⟩ : ∃ y, (s)[j]? = some y ∧ y.1 = p := by simpa using hpj
                  obtain ⟨hin, hwf⟩ := Hs.out y (List.mem_of_getElem? hy)
                  have hlk := ((hq.known (fun _ _ h => h.1.2)).of_eq (w' := wr.alloc (.cells #[.int .i64 y.1.src, .int .i64 y.1.dst, .string y.1.bytes] 39)) (Below.heap_alloc _ _ _ (hq.known (fun _ _ h => h.1.2)).lt)).look y.1 hin hwf
                  have hq2 := hq.grown KR.out (World.grownBy_alloc wr (.cells #[.int .i64 y.1.src, .int .i64 y.1.dst, .string y.1.bytes] 39) none)
                  have Hq2 := Lib.hid hq2; clear hq2 hq hpj hy hin hwf
                  obtain ⟨⟨p0, p1, p2⟩, pm⟩ := y
                  unfold pvl at hlk
                  dsimp only at hlk q0 q1 q2 Hq2
                  rw [hA2]
                  go_wp2_with fail
                  go_roundw
                  case rel => exact ⟨j + 1, by omega, by go_num, by rw [← hA2]; exact Hq2.out⟩
                  case measure => simp [intOf]; omega
                · obtain rfl : j = sl := by omega
                  have hz : Bg w w.heap.size (s) (KX w4.heap.size (20 * (k + 1)) (ks)) _ := hq.weaken (fun _ _ h => ⟨h.1.1, h.1.2.monoN (by omega)⟩)
                  have Hz := Lib.hid hz; clear hz hq
                  go_wp2_with fail
                  go_roundw
                  case rel => exact ⟨k + 1, by omega, by go_num, s, ks, Hs, Hz.out⟩
                  case measure => simp [intOf]; omega
      · obtain rfl : k = n := by omega
        go_wp2_with fail
        go_ret
        exact ⟨rfl, hT.end_⟩
end Go.Proofs.Ytiipioifjjemoaa
