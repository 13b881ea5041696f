/- The walk of ReplayAll. -/
import Derived.Test.YtihnldhdpiokhaaTouch35
namespace Go.Proofs.Ytihnldhdpiokhaa
open Go.RowKit
set_option linter.unusedVariables false
attribute [local go_sem ↓] Go.wp_at_zero Go.wp_at_succ

section
variable {w w0 : World} {g n : Nat} {m : Vals} {X : Hold}
theorem stb_getw (h : Stb w0 g m n X w) (hX : Kept X) (k : ByteArray) (hk : k.size ≤ maxLen) (v : Val) (hv : m k = v) :
    Calls Try.prog 21 #[.pointer (some ⟨g, 0, none⟩), .string k] w (fun e w' => e = .returned (.agg #[.int .i64 v.kind, .int .i64 v.n, .string v.s]) ∧ w.grownBy w' none) := by
  subst hv
  obtain ⟨own, hB, hb, hx⟩ := h
  exact sto_get hb k hk
end
theorem nodup_le {α : Type} : ∀ {ts l : List α}, ts.Nodup → (∀ t ∈ ts, t ∈ l) → ts.length ≤ l.length
  | [], _, _, _ => by simp
  | t :: ts, l, h, hm => by
    obtain ⟨a, b, rfl⟩ := List.append_of_mem (hm t (by simp))
    rw [List.nodup_cons] at h
    have := nodup_le (ts := ts) (l := a ++ b) h.2 fun x hx => by
      have h1 := hm x (by simp [hx])
      rcases List.mem_append.1 h1 with h1 | h1
      · exact List.mem_append_left _ h1
      · rcases List.mem_cons.1 h1 with h1 | h1
        · exact absurd (h1 ▸ hx) h.1
        · exact List.mem_append_right _ h1
    simp only [List.length_append, List.length_cons] at this ⊢
    omega
theorem kset_len {l : List Upd} {ts : List ByteArray} (h : KSet (touchP l) ts) : ts.length ≤ l.length := by
  have := nodup_le (l := l.map Upd.key) h.nodup fun t ht => by
    obtain ⟨u, hu, _, rfl⟩ := (h.mem t).1 ht
    exact List.mem_map.2 ⟨u, hu, rfl⟩
  rwa [List.length_map] at this
section
variable {w : World} {A B : Option Addr} {n p : Nat} {os : List Upd} {rs : List Rnd}
set_option maxHeartbeats 8000000 in
set_option maxRecDepth 10000 in
theorem all08 (h : Args0 w A n os B p rs) (c d : Nat) : Calls Try.prog 11 #[.slice A n c, .slice B p d] w (BoolRet w true) := by
  have H := Lib.hid h; clear h
  go_enter Try.func11, Try.ntmps11
  go_wp2_with fail
  refine (awake14 w).mono ?_
  rintro e w1 ⟨rfl, hg1⟩
  have K1 := Lib.hid hg1; clear hg1
  go_wp2_with fail
  refine (great15 (H.out.grown K1.out) c d).mono ?_
  rintro e w2 ⟨rfl, hg2⟩
  have K2 := Lib.hid (grown_tr K1.out hg2); clear hg2
  cases hgc : great08 os rs with
  | true =>
    go_wp2_with fail
    refine (awake14 w2).mono ?_
    rintro e w3 ⟨rfl, hg3⟩
    have K3 := Lib.hid (grown_tr K2.out hg3); clear hg3
    go_wp2
    go_ret
    exact ⟨rfl, K3.out⟩
  | false =>
    have harg := (H.out.grown K2.out).small hgc
    obtain ⟨hs1, hs2, hs3, hs4⟩ := great08_small hgc
    have hp12 : p ≤ 12 := by rw [← harg.lr]; exact hs2
    have Ha := Lib.hid harg
    have Hn := Lib.hid (show ArgsAt w2 none 0 [] B p rs from ⟨rfl, Rd.nil _ _ _, by simp, harg.lr, harg.hr, harg.wr, by rw [List.append_nil]; omega, harg.rl⟩)
    obtain ⟨q, hq⟩ : ∃ q, (flat rs ++ os).length = q := ⟨_, rfl⟩
    have hq260 : q ≤ 260 := by rw [← hq, List.length_append]; omega
    have Hwu := Lib.hid (show ∀ u ∈ flat rs ++ os, UpdWf u from fun u hu => by
      rcases List.mem_append.1 hu with hu | hu
      · obtain ⟨r, hr, hur⟩ := flat_mem hu
        exact (harg.wr r hr).2.2.2 u hur
      · exact harg.wo u hu)
    obtain ⟨ks, hks⟩ := keys_exist (flat rs ++ os)
    obtain ⟨x, hx⟩ : ∃ x, ks.length = x := ⟨_, rfl⟩
    obtain ⟨ts, hts⟩ := touch_exist (flat rs)
    have hs240 : (flat rs).length ≤ 1000000 := by omega
    have Hst := Lib.hid (Ha.out.state c d)
    have Hq := Lib.hid hq; have Hks := Lib.hid hks; have Hx := Lib.hid hx; have Hts := Lib.hid hts; have Hs240 := Lib.hid hs240
    clear hgc harg hs1 hs2 hs3 hs4 hq hks hx hts hs240
    go_wp2_with fail
    refine Hst.out.mono ?_
    rintro e w3 ⟨rfl, s3⟩
    rw [Hq.out] at s3
    go_wp2_with fail
    refine (len23 (s3.args Ha.out) c d Hks.out (x : Int) (by rw [Hx.out])).mono ?_
    rintro e w4 ⟨rfl, hg4⟩
    have s4 := s3.grown Kept.none hg4
    clear s3 hg4
    go_wp2_with fail
    refine (len34 (s4.args Ha.out) c d Hks.out x Hx.out).mono ?_
    rintro e w5 ⟨rfl, hg5⟩
    have s5 := s4.grown Kept.none hg5
    clear s4 hg5
    go_wp2_with fail
    refine (stb_len s5 Hks.out (x : Int) (by rw [Hx.out])).mono ?_
    rintro e w6 ⟨rfl, rfl⟩
    go_wp2_with fail
    refine (len34 (s5.args Ha.out) c d Hks.out x Hx.out).mono ?_
    rintro e w7 ⟨rfl, hg7⟩
    have s7 := s5.grown Kept.none hg7
    clear s5 hg7
    go_wp2_with fail
    refine (touched17 B d p rs w7 (s7.args Ha.out).lr (s7.args Ha.out).hr (s7.args Ha.out).wr Hs240.out (by omega) Hts.out).mono ?_
    rintro e w8 ⟨At, ct, rfl, hnr⟩
    have s8 := s7.grown Kept.none hnr.grown
    have r8 := hnr.rdN
    clear s7 hnr
    go_wp2_with fail
    refine (touched35 (s8.args Hn.out) d Hts.out).mono ?_
    rintro e w9 ⟨Au, cu, rfl, hnr⟩
    have s9 := s8.grown Kept.none hnr.grown
    have r9 := r8.kept hnr.grown (by omega)
    have r9' := hnr.rdN
    have htm : ts.length ≤ 1099511627776 := by
      have := kset_len Hts.out
      have := Hs240.out
      omega
    have Hsm := Lib.hid (same31 At Au ts.length ct cu ts w9 r9 r9' htm)
    clear s8 hnr r8 r9 r9' htm
    obtain ⟨tl, htl⟩ : ∃ tl, ts.length = tl := ⟨_, rfl⟩
    rw [htl] at Hsm ⊢
    clear htl
    go_wp2_with fail
    refine Hsm.out.mono ?_
    rintro e w10 ⟨rfl, mq, rfl⟩
    have s10 := s9.drewN Kept.none mq
    clear s9 Hsm
    go_wp2_with fail
    refine (flat36 (s10.args Ha.out) c d q Hq.out).mono ?_
    rintro e w11 ⟨A3, c3, rfl, hnr⟩
    have S11 := Lib.hid (s10.grown Kept.none hnr.grown)
    have R11 := Lib.hid hnr.rdN
    clear s10 hnr
    go_wp2_with fail
    go_loopw [50] (fun v wr => ∃ k : Nat, k ≤ q ∧ v = .int .i64 k ∧ w11.grownBy wr none) (fun v _ => q - (intOf v).toNat)
    case atStart => exact ⟨0, by omega, rfl, World.grownBy.refl _ _⟩
    case round =>
      obtain ⟨k, hkq, rfl, hg⟩ := hrel
      by_cases hlt : k < q
      · obtain ⟨b, off, u, rfl, hlu, d0, d1, d2, d3⟩ := upds_atn (R11.out.kept hg (by omega)) hlt
        have hukl := (Hwu.out u (List.mem_of_getElem? hlu)).1
        obtain ⟨v, hv⟩ : ∃ v, stOf (flat rs ++ os) u.key = v := ⟨_, rfl⟩
        have Hg := Lib.hid hg
        clear hlu hg
        obtain ⟨uk, ukd, un, us⟩ := u
        dsimp only at d0 d1 d2 d3 hukl hv
        obtain ⟨v1, v2, v3⟩ := v
        have Hukl := Lib.hid hukl; have Hv := Lib.hid hv
        clear hukl hv
        go_wp2_with fail
        obtain ⟨W5, hW5⟩ : ∃ W5, W5 = wr.alloc (.cells #[.string uk, .int .i64 ukd, .int .i64 un, .string us] 38) := ⟨_, rfl⟩
        have b5 := Blk.new wr 38 #[.string uk, .int .i64 ukd, .int .i64 un, .string us]
        have hg5 := World.grownBy_alloc wr (.cells #[.string uk, .int .i64 ukd, .int .i64 un, .string us] 38) none
        rw [← hW5] at b5 hg5 ⊢
        clear hW5 d0 d1 d2 d3
        have hgd := grown_tr Hg.out (grown_tr hg5 (show W5.grownBy W5.drew none from grown_drewN W5 1))
        have y0 : W5.drew.cell? ⟨wr.heap.size, 0, none⟩ = some (.string uk) := b5.cell 0
        have Hget := Lib.hid (stb_getw (S11.out.grown Kept.none hgd) Kept.none uk Hukl.out ⟨v1, v2, v3⟩ Hv.out)
        have Hrd := Lib.hid (show ∀ W, W5.drew.grownBy W none → Calls Try.prog 33 #[.string uk, .slice A n c, .slice B p d] W (NewRet W (.agg #[.int .i64 v1, .int .i64 v2, .string v3])) from fun W hw => read33 ((S11.out.grown Kept.none (grown_tr hgd hw)).args Ha.out) c d uk Hukl.out ⟨v1, v2, v3⟩ Hv.out)
        have Hgd := Lib.hid hgd
        clear b5 hg5 hgd
        go_region_held3 (fun w' => w'.cell? ⟨wr.heap.size, 0, none⟩ = some (.string uk)) (with_reducible assumption)
         (first
          | (go_at_call 33
             with_reducible refine (Hrd.out w6 hg6).mono ?_
             rintro e w7 ⟨rfl, hg7⟩
             have y2 := World.grownBy.cell hg7 y1 (by simp))
          | (go_at_call 21
             with_reducible refine Hget.out.mono ?_
             rintro e w6 ⟨rfl, hg6⟩
             have y1 := World.grownBy.cell hg6 y0 (by simp)))
        have Hend := Lib.hid (grown_tr Hgd.out (grown_tr hg6 hg7))
        clear hg6 hg7 y0 y1 y2
        go_wp2_with fail
        go_roundw
        case rel => exact ⟨k + 1, by omega, by go_num, Hend.out⟩
        case measure => simp [intOf]; omega
      · obtain rfl : q = k := by omega
        have K12 := Lib.hid (grown_tr K2.out (S11.out.grown Kept.none hg).end_)
        clear hg
        go_wp2
        go_ret
        exact ⟨rfl, K12.out⟩
end
end Go.Proofs.Ytihnldhdpiokhaa
