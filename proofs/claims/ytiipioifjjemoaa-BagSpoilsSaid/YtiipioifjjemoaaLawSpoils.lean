/- The walk of BagSpoils. -/
import Derived.Test.YtiipioifjjemoaaAw19
import Derived.Deep.CutRange
import Derived.Deep.DeepCutAuto
import Derived.Deep.CutBlock
import Derived.Outline
namespace Go.Proofs.Ytiipioifjjemoaa
open Go.RowKit
set_option linter.unusedVariables false

/-- Before the bag stands: X is held, nothing that was there when the call began has changed. -/
def Pre (w0 : World) (X : Hold) (w : World) : Prop := ∃ own, Base w0.heap.size w0 w own ∧ X w own
section
variable {w0 w w' : World} {g : Nat} {X Y : Hold}
theorem Pre.start (w : World) : Pre w (fun _ _ => True) w := ⟨fun _ => 0, Base.start w, trivial⟩
theorem Pre.grown (h : Pre w0 X w) (hX : Kept X) (hg : w.grownBy w' none) : Pre w0 X w' := by
  obtain ⟨own, hB, hx⟩ := h
  have st := StepG.of_grown 4 own hg 40
  exact ⟨_, hB.stepG st (by omega), hX.step st (by omega) hx⟩
theorem Pre.alloc (h : Pre w0 X w) (hX : Kept X) (t : TypeId) (cs : Array Value) : Pre w0 (fun w' own => X w' own ∧ own w.heap.size = 31 ∧ Blk w' w.heap.size t cs) (w.alloc (.cells cs t)) := by
  obtain ⟨own, hB, hx⟩ := h
  have st := StepG.of_grown 4 own (World.grownBy_alloc w (.cells cs t) none) 31
  exact ⟨_, hB.stepG st (by omega), hX.step st (by omega) hx, give_new (Nat.le_refl _), Blk.new w t cs⟩
theorem Pre.new (h : Pre w0 X w) (hX : Kept X) : Calls Try.prog 7 #[] w (fun e w' => e = .returned (.pointer (some ⟨w.heap.size, 0, none⟩)) ∧ Bg w0 w.heap.size [] X w') := by
  obtain ⟨own, hB, hx⟩ := h
  refine (bag_new 1 own w).mono ?_
  rintro e w' ⟨he, own', st, hb⟩
  exact ⟨he, own', hB.stepG st (by omega), hb, hX.step st (by omega) hx⟩
end

theorem flips_size (s : ByteArray) (bit mask : Int) : (spoilt s bit mask).size = s.size := by
  unfold spoilt
  split
  · show (flips s.data.toList bit (maskOn mask) 32).toArray.size = s.data.size
    rw [List.size_toArray, flips_length, Array.length_toList]
  · rfl

set_option maxHeartbeats 8000000 in
set_option maxRecDepth 10000 in
theorem spoils_walk (p : Pkt) (bit mask : Int) (hm0 : 0 ≤ mask) (hm1 : mask ≤ 4294967295) (w : World) :
    Calls Try.prog 5 #[.agg #[.int .i64 p.src, .int .i64 p.dst, .string p.bytes], .int .i64 bit, .int .u32 mask] w (BoolRet w true) := by
  obtain ⟨x0, x1, x2⟩ := p
  show Calls Try.prog 5 #[.agg #[.int .i64 x0, .int .i64 x1, .string x2], .int .i64 bit, .int .u32 mask] w (BoolRet w true)
  have h0 := (Pre.start w).alloc Kept.none 39 #[.int .i64 x0, .int .i64 x1, .string x2]
  have K0 := Lib.hid (Kept.blk Kept.none 31 (by omega) w.heap.size 39 #[.int .i64 x0, .int .i64 x1, .string x2])
  go_enter Try.func5, Try.ntmps5
  go_wp2_with fail
  refine (h0.new K0.out).mono ?_
  rw [show (w.alloc (.cells #[.int .i64 x0, .int .i64 x1, .string x2] 39)).heap.size = w.heap.size + 1 by simp]
  rintro e w1 ⟨rfl, h1⟩
  clear h0
  go_wp2_with fail
  refine (awake19 w1).mono ?_
  rintro e w2 ⟨rfl, hgw⟩
  have h2 := h1.grown K0.out hgw
  clear h1 hgw
  have bx := h2.blk (fun _ _ h => h.2.2)
  have c2 := bx.cell 2
  simp only [List.getElem?_toArray, List.getElem?_cons_zero, List.getElem?_cons_succ] at c2
  by_cases hs : 60 < x2.size
  · have hs' : (60 : Int) < (x2.size : Int) := by omega
    clear bx
    go_wp2_with fail
    refine (awake19 w2).mono ?_
    rintro e w3 ⟨rfl, hgw⟩
    have h3 := h2.grown K0.out hgw
    clear hgw h2
    go_wp2
    go_ret
    exact ⟨rfl, h3.end_⟩
  · have hs' : decide ((60 : Int) < (x2.size : Int)) = false := by simp; omega
    have c0 := bx.cell 0
    have c1 := bx.cell 1
    simp only [List.getElem?_toArray, List.getElem?_cons_zero, List.getElem?_cons_succ] at c0 c1
    have h3 := h2.alloc K0.out 39 #[.int .i64 x0, .int .i64 x1, .string x2]
    have K3 := Lib.hid (Kept.blk K0.out 31 (by omega) w2.heap.size 39 #[.int .i64 x0, .int .i64 x1, .string x2])
    clear bx h2
    go_wp2_with fail
    have hsz : x2.size ≤ 60 := by omega
    refine (bg_add h3 K3.out [⟨x0, x1, x2⟩] _ 1 1 31 rfl rfl (fun _ _ h => row_of_blk h.2.1 h.2.2 rfl (fun i u hu => by rw [List.getElem?_toArray]; exact hu)) (by omega) (by decide) 1 rfl).mono ?_
    rintro e w4 ⟨rfl, h4⟩
    clear h3 K3
    have h4 : Bg w (w.heap.size + 1) [(⟨x0, x1, x2⟩, false)] _ w4 := h4.weaken (fun _ _ h => h.1)
    clear c0 c1 c2 hs hs'
    obtain ⟨sb, hsb⟩ : ∃ sb, sb = spoilt x2 bit mask := ⟨_, rfl⟩
    have hsbs : sb.size = x2.size := by rw [hsb]; exact flips_size _ _ _
    have hA : spoilB [(⟨x0, x1, x2⟩, false), (⟨x0, x1, x2⟩, false)] 0 bit mask = (0, [(⟨x0, x1, sb⟩, true), (⟨x0, x1, x2⟩, false)]) := by rw [hsb]; rfl
    have hB : spoilB [(⟨x0, x1, sb⟩, true), (⟨x0, x1, x2⟩, false), (⟨x0, x1, sb⟩, true)] 1 bit mask = (0, [(⟨x0, x1, sb⟩, true), (⟨x0, x1, sb⟩, true), (⟨x0, x1, sb⟩, true)]) := by rw [hsb]; rfl
    clear hsb
    have hz : ∀ q ∈ [((⟨x0, x1, x2⟩ : Pkt), false), (⟨x0, x1, x2⟩, false)], q.1.bytes.size ≤ 1099511627776 := by
      intro q hq
      simp only [List.mem_cons, List.not_mem_nil, or_false, or_self] at hq
      subst hq
      show x2.size ≤ _
      omega
    have hz2 : ∀ q ∈ [((⟨x0, x1, sb⟩ : Pkt), true), (⟨x0, x1, x2⟩, false), (⟨x0, x1, sb⟩, true)], q.1.bytes.size ≤ 1099511627776 := by
      intro q hq
      simp only [List.mem_cons, List.not_mem_nil, or_false] at hq
      rcases hq with rfl | rfl | rfl
      · show sb.size ≤ _; omega
      · show x2.size ≤ _; omega
      · show sb.size ≤ _; omega
    have HA := Lib.hid hA; clear hA
    have HB := Lib.hid hB; clear hB
    have Hz := Lib.hid hz; clear hz
    have Hz2 := Lib.hid hz2; clear hz2 hsz hsbs
    go_wp2_with fail
    refine (bg_twice h4 K0.out 0).mono ?_
    rw [show twiceB [((⟨x0, x1, x2⟩ : Pkt), false)] 0 = (0, [(⟨x0, x1, x2⟩, false), (⟨x0, x1, x2⟩, false)]) from rfl]
    rintro e w5 ⟨rfl, h5⟩
    clear h4
    go_wp2_with fail
    refine (bg_spoil h5 K0.out 0 bit mask hm0 hm1 Hz.out).mono ?_
    rw [HA.out]
    rintro e w6 ⟨rfl, h6⟩
    clear h5
    go_wp2_with fail
    refine (bg_twice h6 K0.out 0).mono ?_
    rw [show twiceB [((⟨x0, x1, sb⟩ : Pkt), true), (⟨x0, x1, x2⟩, false)] 0 = (0, [(⟨x0, x1, sb⟩, true), (⟨x0, x1, x2⟩, false), (⟨x0, x1, sb⟩, true)]) from rfl]
    rintro e w7 ⟨rfl, h7⟩
    clear h6
    go_wp2_with fail
    refine (bg_at h7 K0.out 0 0 ⟨x0, x1, sb⟩ true rfl rfl).mono ?_
    rintro e w8 ⟨rfl, h8⟩
    clear h7
    have h9 := h8.alloc K0.out 39 #[.int .i64 x0, .int .i64 x1, .string sb]
    have K9 := Lib.hid (Kept.blk K0.out 31 (by omega) w8.heap.size 39 #[.int .i64 x0, .int .i64 x1, .string sb])
    clear h8
    go_wp2_with fail
    refine (bg_at h9 K9.out 1 1 ⟨x0, x1, x2⟩ false rfl rfl).mono ?_
    rintro e w10 ⟨rfl, h10⟩
    clear h9
    have h11 := h10.alloc K9.out 39 #[.int .i64 x0, .int .i64 x1, .string x2]
    have K11 := Lib.hid (Kept.blk K9.out 31 (by omega) w10.heap.size 39 #[.int .i64 x0, .int .i64 x1, .string x2])
    clear h10
    go_wp2_with fail
    refine (bg_at h11 K11.out 2 2 ⟨x0, x1, sb⟩ true rfl rfl).mono ?_
    rintro e w12 ⟨rfl, h12⟩
    clear h11
    have h13 := h12.alloc K11.out 39 #[.int .i64 x0, .int .i64 x1, .string sb]
    have K13 := Lib.hid (Kept.blk K11.out 31 (by omega) w12.heap.size 39 #[.int .i64 x0, .int .i64 x1, .string sb])
    clear h12
    have hf : ∀ (W : World) (s : BSt), Bg w (w.heap.size + 1) s (fun W own => (((True ∧ own w.heap.size = 31 ∧ Blk W w.heap.size 39 #[.int .i64 x0, .int .i64 x1, .string x2]) ∧ own w8.heap.size = 31 ∧ Blk W w8.heap.size 39 #[.int .i64 x0, .int .i64 x1, .string sb]) ∧ own w10.heap.size = 31 ∧ Blk W w10.heap.size 39 #[.int .i64 x0, .int .i64 x1, .string x2]) ∧ own w12.heap.size = 31 ∧ Blk W w12.heap.size 39 #[.int .i64 x0, .int .i64 x1, .string sb]) W →
        (W.cell? ⟨w.heap.size, 0, none⟩ = some (.int .i64 x0) ∧ W.cell? ⟨w.heap.size, 1, none⟩ = some (.int .i64 x1) ∧ W.cell? ⟨w.heap.size, 2, none⟩ = some (.string x2)) ∧
        (W.cell? ⟨w8.heap.size, 0, none⟩ = some (.int .i64 x0) ∧ W.cell? ⟨w8.heap.size, 1, none⟩ = some (.int .i64 x1) ∧ W.cell? ⟨w8.heap.size, 2, none⟩ = some (.string sb)) ∧
        (W.cell? ⟨w10.heap.size, 0, none⟩ = some (.int .i64 x0) ∧ W.cell? ⟨w10.heap.size, 1, none⟩ = some (.int .i64 x1) ∧ W.cell? ⟨w10.heap.size, 2, none⟩ = some (.string x2)) ∧
        (W.cell? ⟨w12.heap.size, 0, none⟩ = some (.int .i64 x0) ∧ W.cell? ⟨w12.heap.size, 1, none⟩ = some (.int .i64 x1) ∧ W.cell? ⟨w12.heap.size, 2, none⟩ = some (.string sb)) := fun W s h => by
      have b1 := h.blk (fun _ _ h => h.1.1.1.2.2)
      have b2 := h.blk (fun _ _ h => h.1.1.2.2)
      have b3 := h.blk (fun _ _ h => h.1.2.2)
      have b4 := h.blk (fun _ _ h => h.2.2)
      exact ⟨⟨b1.cell 0, b1.cell 1, b1.cell 2⟩, ⟨b2.cell 0, b2.cell 1, b2.cell 2⟩, ⟨b3.cell 0, b3.cell 1, b3.cell 2⟩, b4.cell 0, b4.cell 1, b4.cell 2⟩
    have Hf := Lib.hid hf; clear hf
    have hE0 := h13.drewN K13.out 1
    go_wp2_with fail
    generalize w12.alloc (.cells #[.int .i64 x0, .int .i64 x1, .string sb] 39) = w13 at h13 hE0 ⊢
    have hE0 : Bg w (w.heap.size + 1) _ _ w13.drew := hE0
    obtain ⟨⟨a0, a1, a2⟩, ⟨b0, b1, b2⟩, ⟨c0, c1, c2⟩, ⟨d0, d1, d2⟩⟩ := Hf.out _ _ hE0
    clear h13
    go_region_held3 (fun w' => (w'.cell? ⟨w.heap.size, 0, none⟩ = some (.int .i64 x0) ∧ w'.cell? ⟨w.heap.size, 1, none⟩ = some (.int .i64 x1) ∧ w'.cell? ⟨w.heap.size, 2, none⟩ = some (.string x2)) ∧
        (w'.cell? ⟨w8.heap.size, 0, none⟩ = some (.int .i64 x0) ∧ w'.cell? ⟨w8.heap.size, 1, none⟩ = some (.int .i64 x1) ∧ w'.cell? ⟨w8.heap.size, 2, none⟩ = some (.string sb)) ∧
        (w'.cell? ⟨w10.heap.size, 0, none⟩ = some (.int .i64 x0) ∧ w'.cell? ⟨w10.heap.size, 1, none⟩ = some (.int .i64 x1) ∧ w'.cell? ⟨w10.heap.size, 2, none⟩ = some (.string x2)) ∧
        (w'.cell? ⟨w12.heap.size, 0, none⟩ = some (.int .i64 x0) ∧ w'.cell? ⟨w12.heap.size, 1, none⟩ = some (.int .i64 x1) ∧ w'.cell? ⟨w12.heap.size, 2, none⟩ = some (.string sb))) (first | (go_keep; done) | (refine ⟨⟨?_, ?_, ?_⟩, ⟨?_, ?_, ?_⟩, ⟨?_, ?_, ?_⟩, ?_, ?_, ?_⟩ <;> assumption))
     (first
      | (go_at_call 19
         refine (bg_second hE3 K13.out ⟨x0, x1, sb⟩ true rfl).mono ?_
         rintro e w17 ⟨rfl, hE4⟩
         have kk4 := Hf.out _ _ hE4
         rcases kk4 with ⟨⟨g0, g1, g2⟩, ⟨i0, i1, i2⟩, ⟨j0, j1, j2⟩, ⟨k0, k1, k2⟩⟩)
      | (go_at_call 18
         refine (bg_spoil hE2 K13.out 1 bit mask hm0 hm1 Hz2.out).mono ?_
         rw [HB.out]
         rintro e w16 ⟨rfl, hE3⟩
         have kk3 := Hf.out _ _ hE3
         rcases kk3 with ⟨⟨l0, l1, l2⟩, ⟨m0, m1, m2⟩, ⟨n0, n1, n2⟩, ⟨o0, o1, o2⟩⟩)
      | (go_at_call 18
         refine (bg_spoil hE1 K13.out 2 0 1 (by omega) (by omega) Hz2.out).mono ?_
         rw [show spoilB [((⟨x0, x1, sb⟩ : Pkt), true), (⟨x0, x1, x2⟩, false), (⟨x0, x1, sb⟩, true)] 2 0 1 = (12, [(⟨x0, x1, sb⟩, true), (⟨x0, x1, x2⟩, false), (⟨x0, x1, sb⟩, true)]) from rfl]
         rintro e w15 ⟨rfl, hE2⟩
         have kk2 := Hf.out _ _ hE2
         rcases kk2 with ⟨⟨p0, p1, p2⟩, ⟨q0, q1, q2⟩, ⟨r0, r1, r2⟩, ⟨s0, s1, s2⟩⟩)
      | (go_at_call 18
         refine (bg_spoil hE0 K13.out 0 0 1 (by omega) (by omega) Hz2.out).mono ?_
         rw [show spoilB [((⟨x0, x1, sb⟩ : Pkt), true), (⟨x0, x1, x2⟩, false), (⟨x0, x1, sb⟩, true)] 0 0 1 = (12, [(⟨x0, x1, sb⟩, true), (⟨x0, x1, x2⟩, false), (⟨x0, x1, sb⟩, true)]) from rfl]
         rintro e w14 ⟨rfl, hE1⟩
         have kk1 := Hf.out _ _ hE1
         rcases kk1 with ⟨⟨t0, t1, t2⟩, ⟨u0, u1, u2⟩, ⟨v0, v1, v2⟩, ⟨y0, y1, y2⟩⟩))
    go_wp2
    go_ret
    exact ⟨rfl, hE4.end_⟩
end Go.Proofs.Ytiipioifjjemoaa
