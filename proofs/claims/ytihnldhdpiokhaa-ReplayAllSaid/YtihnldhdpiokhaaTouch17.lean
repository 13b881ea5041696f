/- The walk of replay.Touched. -/
import Derived.Test.YtihnldhdpiokhaaTouch08
namespace Go.Proofs.Ytihnldhdpiokhaa
open Go.RowKit Go.Maps Go.Sort Go.Shelf
set_option linter.unusedVariables false

theorem keys42c (b : Nat) (W : World) : Calls Try.prog 42 #[.map (some b)] W fun e w' => e = .returned (.func (.func 51) #[] #[.pointer (some ⟨W.heap.size, 0, none⟩)]) ∧ w' = W.alloc (.cells #[.map (some b)] 62) :=
  (callsIn_wide (n := 5)).1 (Try.maps_Keys_42 (some b) W)
theorem sorted42c (b n : Nat) (P : ByteArray → Prop) (ts : List ByteArray) (w0 w : World) (h : Tb w0 b n P w) (ht : KSet P ts) (hn : n ≤ 1000000) :
    Calls Try.prog 41 #[.func (.func 51) #[] #[.pointer (some ⟨w.heap.size, 0, none⟩)]] (w.alloc (.cells #[.map (some b)] 62)) (StrRet w0 ts) := by
  obtain ⟨hg0, hb, D, hown, hsays⟩ := h
  have hsz := hown.size_le
  have hmax : Maps.size D ≤ maxLen := by unfold maxLen; omega
  have hbytes : Maps.size D * 16 ≤ 140737488355328 := by omega
  have hperm := set_perm hown hsays ht
  refine ((callsIn_wide (n := 5)).1 (Try.slices_Sorted_keys_41_42 b n D (plainElem Try.prog 4) w hown hmax hbytes)).mono ?_
  rintro e w' ⟨v, ss, rfl, hS, hrow, hnil, hbl⟩
  have hg : w0.grownBy w' none := grown_tr (grown_tr hg0 (World.grownBy_alloc _ _ _)) (grown_of_below hbl)
  have hp2 := hS.trans hperm.symm
  have hrow2 := ownsRow_base_a (base' := w0.heap.size) hrow (by have := hg0.size; simp; omega)
  rw [sorted_is ht hp2, show ss.length = ts.length by rw [hp2.length_eq, List.length_map]] at hrow2
  obtain ⟨A, c, rfl, hnr⟩ := NewRow.of_owns hg hrow2
  exact ⟨A, c, rfl, hnr⟩

set_option maxHeartbeats 8000000 in
set_option maxRecDepth 10000 in
theorem touched17 (B : Option Addr) (d p : Nat) (rs : List Rnd) (w : World) (hp : rs.length = p) (hr : Rd w 3 B p (rcells rs)) (hwr : ∀ r ∈ rs, RndWf w r) (hlen : (flat rs).length ≤ 1000000) (hrl : p ≤ 1000000) {ts : List ByteArray} (ht : KSet (touchP (flat rs)) ts) :
    Calls Try.prog 17 #[.slice B p d] w (StrRet w ts) := by
  have Hr := Lib.hid hr; have Hwr := Lib.hid hwr; have HP := Lib.hid hp; have Ht := Lib.hid ht
  clear hr hwr hp ht
  obtain ⟨f, hF⟩ : ∃ f, (flat rs).length = f := ⟨_, rfl⟩
  rw [hF] at hlen
  have HF := Lib.hid hF; clear hF
  have hend : ∀ (b q : Nat) (W : World), q ≤ f → Tb w b q (touchP (flat rs)) W → Calls Try.prog 41 #[.func (.func 51) #[] #[.pointer (some ⟨W.heap.size, 0, none⟩)]] (W.alloc (.cells #[.map (some b)] 62)) (fun e w' => ∃ A' c', e = .returned (.slice A' ts.length c') ∧ StrRet w ts e w') := fun b q W hq h => (sorted42c b q _ ts w W h Ht.out (by omega)).mono fun e w' hh => by
    obtain ⟨A', c', h1, h2⟩ := hh
    exact ⟨A', c', h1, A', c', h1, h2⟩
  have Hend := Lib.hid hend; clear hend
  generalize hR : StrRet w ts = R at *
  clear hR
  generalize ts.length = tl at *
  have hmm := @run_makeMap Try.prog
  have h0 : Tb w w.heap.size 0 (touchP (flat (rs.take 0))) (w.alloc (.map #[] 0)) := ⟨World.grownBy_alloc _ _ _, Nat.le_refl _, (SetAt.made w).cong fun k => by simp [touchP, flat]⟩
  have H0 := Lib.hid h0; clear h0
  go_enter Try.func17, Try.ntmps17
  go_wp2_with fail
  clear hmm
  go_loopw [11] (fun v wr => ∃ k : Nat, k ≤ p ∧ v = .int .i64 k ∧ ∃ q, Hid ((flat (rs.take k)).length = q) ∧ Tb w w.heap.size q (touchP (flat (rs.take k))) wr) (fun v _ => p - (intOf v).toNat)
  case atStart => exact ⟨0, by omega, rfl, 0, Lib.hid rfl, H0.out⟩
  case round =>
    clear H0
    obtain ⟨k, hkp, rfl, q, Hq, hS⟩ := hrel
    by_cases hlt : k < p
    · obtain ⟨b, off, r, rfl, hlr, e0, e1, e2⟩ := rnds_at Hr.out hlt
      have d0 := World.grownBy.cell hS.1 e0 (by simp)
      have d1 := World.grownBy.cell hS.1 e1 (by simp)
      have d2 := World.grownBy.cell hS.1 e2 (by simp)
      have hwf := Hwr.out r (List.mem_of_getElem? hlr)
      have hft := flat_take rs k r hlr
      have hqf : q + r.us.length ≤ f := by have := flat_len_take rs (k + 1); rw [hft, List.length_append, Hq.out, HF.out] at this; exact this
      have s2 := hS.grown (World.grownBy_alloc wr (.cells #[.int .i64 r.origin, .int .i64 r.number, .slice r.A r.us.length r.c] 27) none)
      have hus := hwf.2.2.1
      have hwu := hwf.2.2.2
      clear hS hwf hlr e0 e1 e2
      obtain ⟨ro, rn, rA, rc, us⟩ := r
      dsimp only at d0 d1 d2 s2 hus hwu hft hqf
      obtain ⟨mq, hmq⟩ : ∃ mq, us.length = mq := ⟨_, rfl⟩
      rw [hmq] at d2 s2 hus hqf
      have Hmq := Lib.hid hmq; have Hus := Lib.hid hus; have Hwu := Lib.hid hwu; have Hft := Lib.hid hft
      clear hmq hus hwu hft
      have s3 := s2
      rw [show flat (rs.take k) = flat (rs.take k) ++ us.take 0 by rw [List.take_zero, List.append_nil]] at s3
      have S3 := Lib.hid s3; clear s2 s3
      obtain ⟨wo, rfl⟩ : ∃ wo, wo = wr := ⟨_, rfl⟩
      go_wp2_with fail
      go_loopw [18] (fun v wx => ∃ j : Nat, j ≤ mq ∧ v = .int .i64 j ∧ ∃ i, i ≤ q + j ∧ Tb w w.heap.size i (touchP (flat (rs.take k) ++ us.take j)) wx) (fun v _ => mq - (intOf v).toNat)
      case atStart => exact ⟨0, by omega, rfl, q, by omega, S3.out⟩
      case round =>
        clear S3 d0 d1 d2
        obtain ⟨j, hjm, rfl, i, hij, hS⟩ := hrel
        by_cases hlt2 : j < mq
        · obtain ⟨b2, off2, u, rfl, hlu, e0, e1, e2, e3⟩ := upds_atn Hus.out hlt2
          have d0 := World.grownBy.cell hS.1 e0 (by simp)
          have d1 := World.grownBy.cell hS.1 e1 (by simp)
          have d2 := World.grownBy.cell hS.1 e2 (by simp)
          have d3 := World.grownBy.cell hS.1 e3 (by simp)
          clear e0 e1 e2 e3
          have hwf := Hwu.out u (List.mem_of_getElem? hlu)
          have htk : flat (rs.take k) ++ us.take (j + 1) = (flat (rs.take k) ++ us.take j) ++ [u] := by rw [List.take_add_one, hlu, Option.toList_some, List.append_assoc]
          have hsn := fun x => touchP_snoc (flat (rs.take k) ++ us.take j) u x
          rw [← htk] at hsn
          have hmay := fun W => may40 u W hwf.1 hwf.2.1
          have hukl := hwf.1
          have s5 := hS.grown (World.grownBy_alloc wr (.cells #[.string u.key, .int .i64 u.kind, .int .i64 u.n, .string u.s] 38) none)
          have hb5 := Blk.new wr 38 #[.string u.key, .int .i64 u.kind, .int .i64 u.n, .string u.s]
          obtain ⟨e0, he0⟩ : ∃ e0, mayU u = e0 := ⟨_, rfl⟩
          rw [he0] at hmay hsn
          clear hS hwf hlu htk he0
          obtain ⟨uk, ukd, un, us'⟩ := u
          dsimp only at d0 d1 d2 d3 s5 hb5 hmay hsn hukl
          have Hmay := Lib.hid hmay; have Hsn := Lib.hid hsn; have Hukl := Lib.hid hukl; have S5 := Lib.hid s5; have HB5 := Lib.hid hb5
          clear hmay hsn hukl s5 hb5
          go_wp2_with fail
          refine (Hmay.out _).mono ?_
          rintro e w6 ⟨rfl, hg6⟩
          have s6 := S5.out.grown hg6
          have hb6 := HB5.out.grown hg6 (by simp)
          have y0 := hb6.cell 0
          simp only [List.getElem?_toArray, List.getElem?_cons_zero] at y0
          clear hg6 hb6 S5 HB5 d0 d1 d2 d3
          by_cases h0 : e0 = 0
          · subst h0
            obtain ⟨wz, hrun, hz⟩ := s6.put (by omega) uk Hukl.out
            have hz2 : Tb w w.heap.size (i + 1) (touchP (flat (rs.take k) ++ us.take (j + 1))) wz := ⟨hz.1, hz.2.1, hz.2.2.cong fun x => by rw [Hsn.out x]; exact ⟨fun h => h.elim .inl fun e => .inr ⟨rfl, e⟩, fun h => h.elim .inl fun e => .inr e.2⟩⟩
            have Hz := Lib.hid hz2; clear hz hz2 s6
            go_wp2_with fail
            go_roundw
            case rel => exact ⟨j + 1, by omega, by go_num, i + 1, by omega, Hz.out⟩
            case measure => simp [intOf]; omega
          · have h0' : (e0 == 0) = false := by simpa using h0
            have hz2 : Tb w w.heap.size i (touchP (flat (rs.take k) ++ us.take (j + 1))) w6 := ⟨s6.1, s6.2.1, s6.2.2.cong fun x => by rw [Hsn.out x]; exact ⟨.inl, fun h => h.elim id fun e => absurd e.1 h0⟩⟩
            have Hz := Lib.hid hz2; clear hz2 s6
            go_wp2_with fail
            go_roundw
            case rel => exact ⟨j + 1, by omega, by go_num, i, by omega, Hz.out⟩
            case measure => simp [intOf]; omega
        · obtain rfl : j = mq := by omega
          rw [show us.take j = us from List.take_of_length_le (by rw [Hmq.out]; exact Nat.le_refl _), ← Hft.out] at hS
          have Hs := Lib.hid (show Tb w w.heap.size (q + j) (touchP (flat (rs.take (k + 1)))) wr from ⟨hS.1, hS.2.1, hS.2.2.mono hij⟩); clear hS
          have Hq2 := Lib.hid (show (flat (rs.take (k + 1))).length = q + j by rw [Hft.out, List.length_append, Hq.out, Hmq.out])
          go_wp2_with fail
          go_roundw
          case rel => exact ⟨k + 1, by omega, by go_num, q + j, Hq2, Hs.out⟩
          case measure => simp [intOf]; omega
    · obtain rfl : k = p := by omega
      rw [show rs.take k = rs from List.take_of_length_le (by rw [HP.out]; exact Nat.le_refl _)] at hS Hq
      have hqf : q ≤ f := by rw [← Hq.out, HF.out]; exact Nat.le_refl _
      go_wp2_with fail
      refine (keys42c w.heap.size wr).mono ?_
      rintro e w7 ⟨rfl, rfl⟩
      go_wp2_with fail
      refine (Hend.out w.heap.size q wr hqf hS).mono ?_
      rintro e w8 ⟨A', c', rfl, hR⟩
      have HR := Lib.hid hR; clear hR hS
      go_wp2
      exact HR.out
end Go.Proofs.Ytihnldhdpiokhaa
