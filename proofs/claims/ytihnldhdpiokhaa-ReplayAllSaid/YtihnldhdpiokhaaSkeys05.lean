/- The walk of StoreKeys. -/
import Derived.Test.YtihnldhdpiokhaaLawy
import Derived.Test.YtihnldhdpiokhaaKeys05
namespace Go.Proofs.Ytihnldhdpiokhaa
open Go.RowKit
set_option linter.unusedVariables false

/-- the reference's Keys, the lengths under names -/
theorem keys29n (A : Option Addr) (c n q : Nat) (l : List Upd) (w : World) (hl : l.length = n) (h : Rd w 4 A n (ucells l)) (hw : ∀ u ∈ l, UpdWf u) (hn : n ≤ 1000000) {ks : List ByteArray} (hks : KeysOf (stOf l) ks) (hq : ks.length = q) :
    Calls Try.prog 29 #[.slice A n c] w (fun e w' => ∃ A' c', e = .returned (.slice A' q c') ∧ NewRow 9 1 (ks.map Value.string) w A' q c' w') := by
  subst hl; subst hq
  exact keys29 A c l w h hw hn hks
/-- q cells that 32 owns -/
def Gx (B : Option Addr) (q : Nat) (w : World) (own : Nat → Nat) : Prop := 0 < q → ∃ b off cs, B = some ⟨b, off, none⟩ ∧ own b = 32 ∧ Blk w b 9 cs ∧ off + q ≤ cs.size
theorem Kept.gx {X : World → (Nat → Nat) → Prop} (h : Kept X) (B : Option Addr) (q : Nat) : Kept (fun w own => X w own ∧ Gx B q w own) :=
  fun w own w' own' hk hx => ⟨h w own w' own' hk hx.1, fun hq => by
    obtain ⟨b, off, cs, h1, h2, h3, h4⟩ := hx.2 hq
    have := hk b h3.lt (by rw [h2])
    exact ⟨b, off, cs, h1, by rw [this.2]; exact h2, h3.of_eq this.1, h4⟩⟩
theorem gx_of {w w' : World} {A : Option Addr} {q c : Nat} {xs : List Value} (h : NewRow 9 1 xs w A q c w') (own : Nat → Nat) : Gx A q w' (give own w.heap.size 32) := fun hq => by
  have hr := h.row own w.heap.size 32 (Nat.le_refl _)
  obtain ⟨b, off, cs, h1, h2, h3, h4⟩ := hr.2 hq
  exact ⟨b, off, cs, h1, h2, h3, by have := hr.fits (by omega) h1 h3 hq; omega⟩
section
variable {w0 w w' : World} {g n : Nat} {m : Vals} {X : Hold}
theorem Stb.gx {A : Option Addr} {q c : Nat} {xs : List Value} (h : Stb w0 g m n X w) (hX : Kept X) (hn : NewRow 9 1 xs w A q c w') : Stb w0 g m n (fun w own => X w own ∧ Gx A q w own) w' := by
  obtain ⟨own, hB, hb, hx⟩ := h
  have st := StepG.of_grown 4 own hn.grown 32
  exact ⟨_, hB.stepG st (by omega), hb.other st (by omega), hX.step st (by omega) hx, gx_of hn own⟩
theorem Stb.put {A B : Option Addr} {q : Nat} {ks : List Value} (h : Stb w0 g m n (fun w own => (True ∧ Row w own 30 9 1 A q ks) ∧ Gx B q w own) w) {j : Nat} (hj : j < q) :
    ∃ b off v, B = some ⟨b, off, none⟩ ∧ w.cell? ⟨b, off + j, none⟩ = some v ∧ w.frozen? ⟨b, off + j, none⟩ = false ∧ ∀ u, Stb w0 g m n (fun w own => (True ∧ Row w own 30 9 1 A q ks) ∧ Gx B q w own) (w.setCell ⟨b, off + j, none⟩ u) := by
  obtain ⟨own, hB, hb, ⟨_, hr⟩, hx⟩ := h
  obtain ⟨b, off, cs, h1, h2, h3, h4⟩ := hx (by omega)
  refine ⟨b, off, cs[off + j]'(by omega), h1, ?_, h3.free _, fun u => ?_⟩
  · rw [h3.cell]; exact Array.getElem?_eq_getElem (by omega)
  · have st := (Step.refl 32 w own).setCell (p := ⟨b, off + j, none⟩) h2 u
    exact ⟨own, hB.step st (by omega), hb.other (st.toG (l := 3) rfl) (by omega), ⟨trivial, hr.step st (by omega)⟩, fun _ => ⟨b, off, _, h1, h2, h3.set_ (off + j) u, by simpa using h4⟩⟩
theorem stb_keys_new (h : Stb w0 g m n X w) (hX : Kept X) {ks : List ByteArray} (hk : KeysOf m ks) (hn : n ≤ 1000000) (q : Nat) (hq : ks.length = q) : Calls Try.prog 30 #[.pointer (some ⟨g, 0, none⟩)] w
    (fun e w' => ∃ A c, e = .returned (.slice A q c) ∧ NewRow 9 1 (ks.map Value.string) w A q c w') := by
  subst hq
  obtain ⟨own, hB, hb, hx⟩ := h
  exact sto_keys hb hk hn
end

set_option maxHeartbeats 8000000 in
set_option maxRecDepth 10000 in
theorem skeys05 (A : Option Addr) (c : Nat) (l : List Upd) (w : World) (hr : Rd w 4 A l.length (ucells l)) (hw : ∀ u ∈ l, UpdWf u) (hc : l.length ≤ c) (hcm : c ≤ maxLen) :
    Calls Try.prog 6 #[.slice A l.length c] w (BoolRet w true) := by
  have Hr := Lib.hid hr; clear hr
  obtain ⟨ks, hks⟩ := keys_exist l
  have Hks := Lib.hid hks; clear hks
  have Hw := Lib.hid hw; clear hw
  obtain ⟨n, hN⟩ : ∃ n, l.length = n := ⟨_, rfl⟩
  obtain ⟨q, hQ⟩ : ∃ q, ks.length = q := ⟨_, rfl⟩
  have hgr : ∀ (g : Nat) (m : Vals) (q : Nat) (X : Hold) (W : World), Stb w g m q X W → Calls Try.prog 26 #[.slice A n c] W (BoolRet W (great05 l)) := fun g m q X W h => by
    rw [← hN]
    exact great26 A c l W (h.old Hr.out (by omega)) Hw.out
  have Hgr := Lib.hid hgr; clear hgr
  rw [hN] at hc ⊢
  have HN := Lib.hid hN; clear hN
  have HQ := Lib.hid hQ; clear hQ
  unfold maxLen at hcm
  go_enter Try.func6, Try.ntmps6
  go_wp2_with fail
  refine ((Pre.start w).new Kept.none).mono ?_
  rintro e w1 ⟨rfl, s1⟩
  go_wp2_with fail
  refine (awake25 w1).mono ?_
  rintro e w2 ⟨rfl, hg⟩
  have s2 := s1.grown Kept.none hg
  clear s1 hg
  go_wp2_with fail
  refine (Hgr.out _ _ _ _ _ s2).mono ?_
  rintro e w3 ⟨rfl, hg⟩
  have s3 := s2.grown Kept.none hg
  clear s2 hg
  cases hgc : great05 l with
  | true =>
    go_wp2_with fail
    refine (awake25 w3).mono ?_
    rintro e w4 ⟨rfl, hg⟩
    have s4 := s3.grown Kept.none hg
    clear s3 hg
    go_wp2
    go_ret
    exact ⟨rfl, s4.end_⟩
  | false =>
    obtain ⟨hn60, hsmall⟩ := great05_small hgc
    rw [HN.out] at hn60
    clear hgc hsmall
    go_wp2_with fail
    go_loopw [23] (fun v wr => ∃ k : Nat, k ≤ n ∧ v = .int .i64 k ∧ Stb w (w.heap.size + 1) (stOf (l.take k)) k (fun _ _ => True) wr) (fun v _ => n - (intOf v).toNat)
    case atStart => exact ⟨0, by omega, rfl, s3⟩
    case round =>
      clear s3
      obtain ⟨k, hkn, rfl, hS⟩ := hrel
      by_cases hlt : k < n
      · obtain ⟨b, off, u, rfl, hlu, d0, d1, d2, d3⟩ := upds_at (hS.old Hr.out (by omega)) (k := k) (by rw [HN.out]; exact hlt)
        have hwf := Hw.out u (List.mem_of_getElem? hlu)
        have hsn := stOf_take l k u hlu
        have K5 := Lib.hid (Kept.blk Kept.none 31 (by omega) wr.heap.size 38 #[.string u.key, .int .i64 u.kind, .int .i64 u.n, .string u.s])
        have s5 := hS.alloc Kept.none 38 #[.string u.key, .int .i64 u.kind, .int .i64 u.n, .string u.s]
        have hdo := fun (W : World) h => stb_do (w := W) (w0 := w) (g := w.heap.size + 1) (m := stOf (l.take k)) (n := k) h K5.out u hwf.1 hwf.2.1 (by omega)
        rw [← hsn] at hdo
        clear hS hwf hsn hlu
        obtain ⟨e0, he0⟩ : ∃ e0, mayU u = e0 := ⟨_, rfl⟩
        rw [he0] at hdo
        clear he0
        obtain ⟨uk, ukd, un, us⟩ := u
        dsimp only at d0 d1 d2 d3 s5 K5 hdo
        have Hdo := Lib.hid hdo; clear hdo
        go_wp2_with fail
        refine (Hdo.out _ s5).mono ?_
        rintro e w6 ⟨rfl, s6⟩
        clear s5 d0 d1 d2 d3
        have Hend := Lib.hid (s6.weaken (Y := fun _ _ => True) (fun _ _ h => trivial))
        clear s6
        go_wp2_with fail
        go_roundw
        case rel => exact ⟨k + 1, by omega, by go_num, Hend.out⟩
        case measure => simp [intOf]; omega
      · obtain rfl : k = n := by omega
        rw [List.take_of_length_le (by rw [HN.out]; exact Nat.le_refl _)] at hS
        have hq60 : q ≤ k := by have := hS.count Hks.out; rw [HQ.out] at this; exact this
        have hky := keys29n A c k q l wr HN.out (by have := hS.old Hr.out (by omega); rwa [HN.out] at this) Hw.out (by omega) Hks.out HQ.out
        have Hky := Lib.hid hky; clear hky
        go_wp2_with fail
        refine Hky.out.mono ?_
        rintro e w5 ⟨A1, c1, rfl, hnr⟩
        have s5 := hS.hold Kept.none hnr
        clear hS hnr
        have K5 := Lib.hid (Kept.none.row 30 (by omega) 9 1 A1 q (ks.map Value.string))
        go_wp2_with fail
        refine (stb_keys_new s5 K5.out Hks.out (by omega) q HQ.out).mono ?_
        rintro e w6 ⟨A2, c2, rfl, hnr⟩
        have r2 : Rd w6 1 A2 q (ks.map Value.string) := (hnr.row (fun _ => 0) _ 32 (Nat.le_refl _)).rd
        have s6 := s5.gx K5.out hnr
        clear s5 hnr
        have K6 := Lib.hid (K5.out.gx A2 q)
        have r1 : Rd w6 1 A1 q (ks.map Value.string) := s6.rd (fun _ _ h => h.1.2)
        go_wp2_with fail
        refine (same31 A2 A1 q c2 c1 ks w6 r2 r1 (by omega)).mono ?_
        rintro e w7 ⟨rfl, mq, rfl⟩
        have s7 := s6.drewN K6.out mq
        clear s6 r1 r2
        go_wp2_with fail
        refine (stb_len s7 Hks.out (q : Int) (by rw [HQ.out])).mono ?_
        rintro e w8 ⟨rfl, rfl⟩
        go_wp2_with fail
        go_loopw [48] (fun v wr => ∃ j : Nat, j ≤ q ∧ v = .int .i64 j ∧ Stb w (w.heap.size + 1) (stOf l) k (fun w own => (True ∧ Row w own 30 9 1 A1 q (ks.map Value.string)) ∧ Gx A2 q w own) wr) (fun v _ => q - (intOf v).toNat)
        case atStart => exact ⟨0, by omega, rfl, s7⟩
        case round =>
          clear s7
          obtain ⟨j, hjq, rfl, hS⟩ := hrel
          by_cases hlt2 : j < q
          · obtain ⟨b, off, v, rfl, c0, f0, hput⟩ := hS.put hlt2
            have Hend := Lib.hid (hput (.string sx)); clear hput hS
            have hj0 : (0 : Int) ≤ (j : Int) := by omega
            have hjq' : (j : Int) < (q : Int) := by omega
            go_wp2_with fail
            go_roundw
            case rel => exact ⟨j + 1, by omega, by go_num, Hend.out⟩
            case measure => simp [intOf]; omega
          · obtain rfl : j = q := by omega
            have s8 := hS.weaken (Y := fun w own => True ∧ Row w own 30 9 1 A1 j (ks.map Value.string)) (fun _ _ h => h.1)
            clear hS
            go_wp2_with fail
            refine (stb_keys_new s8 K5.out Hks.out (by omega) j HQ.out).mono ?_
            rintro e w9 ⟨A3, c3, rfl, hnr⟩
            have r2 : Rd w9 1 A3 j (ks.map Value.string) := (hnr.row (fun _ => 0) _ 32 (Nat.le_refl _)).rd
            have s9 := s8.grown K5.out hnr.grown
            clear s8 hnr
            have r1 : Rd w9 1 A1 j (ks.map Value.string) := s9.rd (fun _ _ h => h.2)
            go_wp2_with fail
            refine (same31 A3 A1 j c3 c1 ks w9 r2 r1 (by omega)).mono ?_
            rintro e w10 ⟨rfl, mq2, rfl⟩
            have Hend := Lib.hid (s9.drewN K5.out mq2).end_
            clear s9 r1 r2
            go_wp2
            go_ret
            exact ⟨rfl, Hend.out⟩
end Go.Proofs.Ytihnldhdpiokhaa
