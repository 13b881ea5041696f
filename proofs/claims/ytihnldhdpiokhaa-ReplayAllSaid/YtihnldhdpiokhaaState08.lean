/- The walks of replay.State, Read and Len. -/
import Derived.Test.YtihnldhdpiokhaaRnds
namespace Go.Proofs.Ytihnldhdpiokhaa
open Go.RowKit
set_option linter.unusedVariables false

/-- State's answer: a store in new memory that stands as the updates say, all in one row. -/
def StateOk (w : World) (l : List Upd) (e : Ending) (w' : World) : Prop := e = .returned (.pointer (some ⟨w.heap.size + 1, 0, none⟩)) ∧ Stb w (w.heap.size + 1) (stOf l) l.length (fun _ _ => True) w'
set_option maxHeartbeats 8000000 in
set_option maxRecDepth 10000 in
theorem state19 (A B : Option Addr) (c d : Nat) (os : List Upd) (rs : List Rnd) (w : World) (ho : Rd w 4 A os.length (ucells os)) (hwo : ∀ u ∈ os, UpdWf u) (hr : Rd w 3 B rs.length (rcells rs)) (hwr : ∀ r ∈ rs, RndWf w r)
    (hlen : (flat rs ++ os).length ≤ 1000000) (hrl : rs.length ≤ 1000000) : Calls Try.prog 19 #[.slice A os.length c, .slice B rs.length d] w (StateOk w (flat rs ++ os)) := by
  have Ho := Lib.hid ho; have Hwo := Lib.hid hwo; have Hr := Lib.hid hr; have Hwr := Lib.hid hwr
  clear ho hwo hr hwr
  rw [List.length_append] at hlen
  have hfin : ∀ (e : Ending) (w' : World) (n : Nat), e = .returned (.pointer (some ⟨w.heap.size + 1, 0, none⟩)) → (flat rs).length + os.length = n → Stb w (w.heap.size + 1) (stOf (flat rs ++ os)) n (fun _ _ => True) w' → StateOk w (flat rs ++ os) e w' := by
    rintro e w' n h1 rfl h3
    exact ⟨h1, by rw [List.length_append]; exact h3⟩
  have Hfin := Lib.hid hfin; clear hfin
  generalize hR : StateOk w (flat rs ++ os) = R at *
  clear hR
  obtain ⟨n, hN⟩ : ∃ n, os.length = n := ⟨_, rfl⟩
  obtain ⟨p, hP⟩ : ∃ p, rs.length = p := ⟨_, rfl⟩
  obtain ⟨f, hF⟩ : ∃ f, (flat rs).length = f := ⟨_, rfl⟩
  rw [hN, hF] at hlen
  rw [hP] at hrl
  rw [hN, hP]
  have HN := Lib.hid hN; have HP := Lib.hid hP; have HF := Lib.hid hF
  clear hN hP hF
  go_enter Try.func19, Try.ntmps19
  go_wp2_with fail
  refine ((Pre.start w).new Kept.none).mono ?_
  rintro e w1 ⟨rfl, s1⟩
  go_wp2_with fail
  go_loopw [15] (fun v wr => ∃ k : Nat, k ≤ p ∧ v = .int .i64 k ∧ ∃ q, Hid ((flat (rs.take k)).length = q) ∧ Stb w (w.heap.size + 1) (stOf (flat (rs.take k))) q (fun _ _ => True) wr) (fun v _ => p - (intOf v).toNat)
  case atStart => exact ⟨0, by omega, rfl, 0, Lib.hid rfl, s1⟩
  case round =>
    clear s1
    obtain ⟨k, hkp, rfl, q, Hq, hS⟩ := hrel
    by_cases hlt : k < p
    · obtain ⟨b, off, r, rfl, hlr, d0, d1, d2⟩ := rnds_at (by have := hS.old Hr.out (by omega); rwa [HP.out] at this) hlt
      have hwf := Hwr.out r (List.mem_of_getElem? hlr)
      have hft := flat_take rs k r hlr
      have hqf : q + r.us.length ≤ f := by have := flat_len_take rs (k + 1); rw [hft, List.length_append, Hq.out, HF.out] at this; exact this
      have s2 := hS.alloc Kept.none 27 #[.int .i64 r.origin, .int .i64 r.number, .slice r.A r.us.length r.c]
      have K2 := Lib.hid (Kept.blk Kept.none 31 (by omega) wr.heap.size 27 #[.int .i64 r.origin, .int .i64 r.number, .slice r.A r.us.length r.c])
      have hus := hwf.2.2.1
      have hwu := hwf.2.2.2
      clear hS hwf hlr
      obtain ⟨ro, rn, rA, rc, us⟩ := r
      dsimp only at d0 d1 d2 s2 K2 hus hwu hft hqf
      obtain ⟨mq, hmq⟩ : ∃ mq, us.length = mq := ⟨_, rfl⟩
      rw [hmq] at d2 s2 K2 hus hqf
      have Hmq := Lib.hid hmq; have Hus := Lib.hid hus; have Hwu := Lib.hid hwu; have Hft := Lib.hid hft
      clear hmq hus hwu hft
      have s3 := s2.weaken (Y := fun _ _ => True) (fun _ _ _ => trivial)
      rw [show stOf (flat (rs.take k)) = stOf (flat (rs.take k) ++ us.take 0) by rw [List.take_zero, List.append_nil]] at s3
      clear s2
      obtain ⟨wo, rfl⟩ : ∃ wo, wo = wr := ⟨_, rfl⟩
      go_wp2_with fail
      go_loopw [22] (fun v wx => ∃ j : Nat, j ≤ mq ∧ v = .int .i64 j ∧ Stb w (w.heap.size + 1) (stOf (flat (rs.take k) ++ us.take j)) (q + j) (fun _ _ => True) wx) (fun v _ => mq - (intOf v).toNat)
      case atStart => exact ⟨0, by omega, rfl, s3⟩
      case round =>
        clear s3 d0 d1 d2
        obtain ⟨j, hjm, rfl, hS⟩ := hrel
        by_cases hlt2 : j < mq
        · obtain ⟨b2, off2, u, rfl, hlu, d0, d1, d2, d3⟩ := upds_atn (hS.old Hus.out (by omega)) hlt2
          have hwf := Hwu.out u (List.mem_of_getElem? hlu)
          have hsn : stOf (flat (rs.take k) ++ us.take (j + 1)) = doM (stOf (flat (rs.take k) ++ us.take j)) u := by rw [stOf_append, stOf_append, stFrom_take _ _ _ _ hlu]
          have K5 := Lib.hid (Kept.blk Kept.none 31 (by omega) wr.heap.size 38 #[.string u.key, .int .i64 u.kind, .int .i64 u.n, .string u.s])
          have s5 := hS.alloc Kept.none 38 #[.string u.key, .int .i64 u.kind, .int .i64 u.n, .string u.s]
          have hdo := fun (W : World) h => stb_do (w := W) (w0 := w) (g := w.heap.size + 1) (m := stOf (flat (rs.take k) ++ us.take j)) (n := q + j) h K5.out u hwf.1 hwf.2.1 (by omega)
          rw [← hsn] at hdo
          clear hS hwf hsn hlu
          obtain ⟨e0, he0⟩ : ∃ e0, mayU u = e0 := ⟨_, rfl⟩
          rw [he0] at hdo
          clear he0
          obtain ⟨uk, ukd, un, us'⟩ := u
          dsimp only at d0 d1 d2 d3 s5 K5 hdo
          have Hdo := Lib.hid hdo; clear hdo
          go_wp2_with fail
          refine (Hdo.out _ s5).mono ?_
          rintro e w6 ⟨rfl, s6⟩
          clear s5 d0 d1 d2 d3
          have Hend := Lib.hid (s6.weaken (Y := fun _ _ => True) (fun _ _ h => trivial))
          clear s6
          go_wp2_with fail
          go_roundw
          case rel => exact ⟨j + 1, by omega, by go_num, Hend.out⟩
          case measure => simp [intOf]; omega
        · obtain rfl : j = mq := by omega
          rw [show us.take j = us from List.take_of_length_le (by rw [Hmq.out]; exact Nat.le_refl _), ← Hft.out] at hS
          have Hend := Lib.hid hS; clear hS
          have Hq2 := Lib.hid (show (flat (rs.take (k + 1))).length = q + j by rw [Hft.out, List.length_append, Hq.out, Hmq.out])
          go_wp2_with fail
          go_roundw
          case rel => exact ⟨k + 1, by omega, by go_num, q + j, Hq2, Hend.out⟩
          case measure => simp [intOf]; omega
    · obtain rfl : k = p := by omega
      rw [List.take_of_length_le (by rw [HP.out]; exact Nat.le_refl _)] at hS Hq
      have hqf : q = f := by rw [← Hq.out, HF.out]
      subst hqf
      have s3 : Stb w (w.heap.size + 1) (stOf (flat rs ++ os.take 0)) (q + 0) (fun _ _ => True) wr := by rw [List.take_zero, List.append_nil]; exact hS
      clear hS
      go_wp2_with fail
      go_loopw [33] (fun v wx => ∃ j : Nat, j ≤ n ∧ v = .int .i64 j ∧ Stb w (w.heap.size + 1) (stOf (flat rs ++ os.take j)) (q + j) (fun _ _ => True) wx) (fun v _ => n - (intOf v).toNat)
      case atStart => exact ⟨0, by omega, rfl, s3⟩
      case round =>
        clear s3
        obtain ⟨j, hjm, rfl, hS⟩ := hrel
        by_cases hlt2 : j < n
        · obtain ⟨b2, off2, u, rfl, hlu, d0, d1, d2, d3⟩ := upds_atn (by have := hS.old Ho.out (by omega); rwa [HN.out] at this) hlt2
          have hwf := Hwo.out u (List.mem_of_getElem? hlu)
          have hsn : stOf (flat rs ++ os.take (j + 1)) = doM (stOf (flat rs ++ os.take j)) u := by rw [stOf_append, stOf_append, stFrom_take _ _ _ _ hlu]
          have K5 := Lib.hid (Kept.blk Kept.none 31 (by omega) wr.heap.size 38 #[.string u.key, .int .i64 u.kind, .int .i64 u.n, .string u.s])
          have s5 := hS.alloc Kept.none 38 #[.string u.key, .int .i64 u.kind, .int .i64 u.n, .string u.s]
          have hdo := fun (W : World) h => stb_do (w := W) (w0 := w) (g := w.heap.size + 1) (m := stOf (flat rs ++ os.take j)) (n := q + j) h K5.out u hwf.1 hwf.2.1 (by omega)
          rw [← hsn] at hdo
          clear hS hwf hsn hlu
          obtain ⟨e0, he0⟩ : ∃ e0, mayU u = e0 := ⟨_, rfl⟩
          rw [he0] at hdo
          clear he0
          obtain ⟨uk, ukd, un, us'⟩ := u
          dsimp only at d0 d1 d2 d3 s5 K5 hdo
          have Hdo := Lib.hid hdo; clear hdo
          go_wp2_with fail
          refine (Hdo.out _ s5).mono ?_
          rintro e w6 ⟨rfl, s6⟩
          clear s5 d0 d1 d2 d3
          have Hend := Lib.hid (s6.weaken (Y := fun _ _ => True) (fun _ _ h => trivial))
          clear s6
          go_wp2_with fail
          go_roundw
          case rel => exact ⟨j + 1, by omega, by go_num, Hend.out⟩
          case measure => simp [intOf]; omega
        · obtain rfl : j = n := by omega
          rw [show os.take j = os from List.take_of_length_le (by rw [HN.out]; exact Nat.le_refl _)] at hS
          have Hend := Lib.hid hS; clear hS
          have Hqn := Lib.hid (show (flat rs).length + os.length = q + j by rw [HF.out, HN.out])
          go_wp2
          exact Hfin.out _ _ _ rfl Hqn.out Hend.out
end Go.Proofs.Ytihnldhdpiokhaa
