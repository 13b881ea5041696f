/- The walk of the store's Do. -/
import Derived.Test.YtihnldhdpiokhaaSto1
import Derived.Deep.RegionHeld3
import Derived.Deep.DrawnRows
import Derived.Deep.CutRange
import Derived.Deep.DeepCutAuto
import Derived.Deep.CutBlock
import Derived.Outline
namespace Go.Proofs.Ytihnldhdpiokhaa
open Go.RowKit
set_option linter.unusedVariables false
attribute [local go_sem ↓] Go.wp_at_zero Go.wp_at_succ

theorem MapAt.alloc_ {b n : Nat} {m : Vals} {x : World} (h : MapAt x b n m) (o : Obj) : MapAt (x.alloc o) b n m := h.of_eq (Below.heap_alloc _ _ _ h.lt)
theorem MapAt.set_ {b n : Nat} {m : Vals} {x : World} (h : MapAt x b n m) {p : Addr} (hp : b ≠ p.block) (u : Value) : MapAt (x.setCell p u) b n m := h.of_eq (Below.heap_setCell _ _ _ _ hp)
def DoRet (l : Nat) (own : Nat → Nat) (w : World) (g : Nat) (m : Vals) (n : Nat) (x : Int) (e : Ending) (w' : World) : Prop :=
  e = .returned (.int .i64 x) ∧ ∃ own', StepG l w own w' own' ∧ StAt w' own' l g m n
theorem StepG.put_ {l : Nat} {w w' w2 : World} {own own' : Nat → Nat} (h : StepG l w own w' own') {b : Nat} (hg : w'.grownBy w2 (some b)) (hb : own' b / 10 = l) : StepG l w own w2 own' :=
  h.trans ⟨hg.os, hg.tape, hg.output, hg.size, fun k hk hn => hg.block k hk (fun e => hn (by injection e with e; rw [e]; exact hb)), fun _ _ => rfl⟩
/-- what lies behind the region that asks Apply -/
def Mid (w : World) (g b n : Nat) (m : Vals) (ky : ByteArray) (kd un : Int) (us : ByteArray) (av : Val) (q : Nat) (wx : World) : Prop :=
  w.grownBy wx none ∧ w.heap.size ≤ q ∧ Blk wx q 29 #[.int .i64 av.kind, .int .i64 av.n, .string av.s] ∧ Blk wx w.heap.size 38 #[.string ky, .int .i64 kd, .int .i64 un, .string us] ∧ Blk wx g 70 #[.map (some b)] ∧ MapAt wx b n m
theorem mid_a {w x w5 : World} {g b n : Nat} {m : Vals} {ky : ByteArray} {kd un : Int} {us : ByteArray} {a1 a2 : Int} {a3 : ByteArray} (hw : w.grownBy x none) (hu : Blk x w.heap.size 38 #[.string ky, .int .i64 kd, .int .i64 un, .string us])
    (hb : Blk x g 70 #[.map (some b)]) (hM : MapAt x b n m) (hg : g < w.heap.size) (hbl : b < w.heap.size) (hg5 : (x.alloc (.cells #[.int .i64 0, .int .i64 0, .string { data := #[] }] 29)).grownBy w5 none) :
    Mid w g b n m ky kd un us ⟨a1, a2, a3⟩ x.heap.size (((w5.setCell ⟨x.heap.size, 0, none⟩ (.int .i64 a1)).setCell ⟨x.heap.size, 1, none⟩ (.int .i64 a2)).setCell ⟨x.heap.size, 2, none⟩ (.string a3)) := by
  have hx := hu.lt
  have hs := hw.size
  have hq := (Blk.new x 29 #[.int .i64 0, .int .i64 0, .string { data := #[] }]).grown hg5 (by simp)
  have h5 : w.grownBy w5 none := grown_tr (grown_al hw _) hg5
  refine ⟨grown_set (grown_set (grown_set h5 hs _) hs _) hs _, hs, ?_, ?_, ?_, ?_⟩
  · have := ((hq.set_ 0 (.int .i64 a1)).set_ 1 (.int .i64 a2)).set_ 2 (.string a3)
    simpa using this
  · refine (((((hu.alloc _).grown hg5 (by simp)).far ?_ _).far ?_ _).far ?_ _) <;> simp <;> omega
  · have := hb.lt
    refine (((((hb.alloc _).grown hg5 (by simp)).far ?_ _).far ?_ _).far ?_ _) <;> simp <;> omega
  · have := hM.lt
    refine (((((hM.alloc_ _).of_eq (hg5.block _ (by simp; omega) (by simp))).set_ ?_ _).set_ ?_ _).set_ ?_ _) <;> simp <;> omega
theorem mid_b {w x w5 : World} {g b n : Nat} {m : Vals} {ky : ByteArray} {kd un : Int} {us : ByteArray} {a1 a2 : Int} {a3 : ByteArray} (hw : w.grownBy x none) (hu : Blk x w.heap.size 38 #[.string ky, .int .i64 kd, .int .i64 un, .string us])
    (hb : Blk x g 70 #[.map (some b)]) (hM : MapAt x b n m) (hg5 : x.grownBy w5 none) :
    Mid w g b n m ky kd un us ⟨a1, a2, a3⟩ w5.heap.size (w5.alloc (.cells #[.int .i64 a1, .int .i64 a2, .string a3] 29)) := by
  have h5 : w.grownBy w5 none := grown_tr hw hg5
  exact ⟨grown_al h5 _, h5.size, Blk.new _ _ _, (hu.grown hg5 (by simp)).alloc _, (hb.grown hg5 (by simp)).alloc _, (hM.of_eq (hg5.block _ hM.lt (by simp))).alloc_ _⟩
theorem cell_al {w : World} {p : Addr} {v : Value} (h : w.cell? p = some v) (o : Obj) : (w.alloc o).cell? p = some v := (World.grownBy_alloc w o none).cell h (by simp)
theorem cell_s1 {w : World} {k i q j : Nat} {v : Value} (h : w.cell? ⟨k, i, none⟩ = some v) (hne : k ≠ q) (u : Value) : (w.setCell ⟨q, j, none⟩ u).cell? ⟨k, i, none⟩ = some v :=
  (World.cell?_of_block (w := w) (Below.heap_setCell w ⟨q, j, none⟩ u k hne)).trans h
theorem cell_s3 {w : World} {k i q j j' j'' : Nat} {v : Value} (h : w.cell? ⟨k, i, none⟩ = some v) (hne : k ≠ q) (u u' u'' : Value) : (((w.setCell ⟨q, j, none⟩ u).setCell ⟨q, j', none⟩ u').setCell ⟨q, j'', none⟩ u'').cell? ⟨k, i, none⟩ = some v :=
  cell_s1 (cell_s1 (cell_s1 h hne u) hne u') hne u''
theorem doM_is {m : Vals} {u : Upd} {av : Val} (h0 : mayU u = 0) (ha : applyV (m u.key) u = av) : (fun x => if u.key = x then av else m x) = doM m u := by
  funext x
  unfold doM
  by_cases e : u.key = x
  · subst e
    rw [if_pos rfl, if_pos ⟨rfl, h0⟩, ha]
  · rw [if_neg e, if_neg (fun h => e h.1)]
theorem doM_not {m : Vals} {u : Upd} (h0 : ¬ mayU u = 0) : doM m u = m := by
  funext x
  unfold doM
  rw [if_neg (fun h => h0 h.2)]
theorem do_fin {w wc wz : World} {own : Nat → Nat} {l g b n n' : Nat} {m m' : Vals} (ho : own g = 10 * l) (hob : own b = 10 * l + 1) (hl : g < w.heap.size) (hbl : b < w.heap.size) (hgw : w.grownBy wc none) (hgb : Blk wc g 70 #[.map (some b)])
    (hmc : MapAt wc b n m) (hgz : wc.drew.grownBy wz (some b)) (hmz : MapAt wz b n' m') (hok : AllOk m') : ∃ own', StepG l w own wz own' ∧ StAt wz own' l g m' n' := by
  have hne : g ≠ b := by
    rintro rfl
    omega
  refine ⟨give own w.heap.size 40, ((StepG.of_grown l own hgw 40).drewN 1).put_ hgz (by rw [give_old hbl]; omega), by rw [give_old hl]; exact ho, b, by rw [give_old hbl]; exact hob, (hgb.drew).grown hgz (by simpa using hne), hmz, hok⟩
section
variable {w : World} {own : Nat → Nat} {l g n : Nat} {m : Vals}
set_option maxHeartbeats 4000000 in
set_option maxRecDepth 10000 in
theorem sto_do (h : StAt w own l g m n) (u : Upd) (hk : u.key.size ≤ maxLen) (hs : u.s.size ≤ maxLen) (hn : n < maxLen) :
    Calls Try.prog 20 #[.pointer (some ⟨g, 0, none⟩), uval u] w (DoRet l own w g (doM m u) (n + 1) (mayU u)) := by
  have hmay := fun W => may40 u W hk hs
  have happ := fun W (hm : mayU u = 0) => app43 (m u.key) u W (h.ok u.key) hm
  have Hh := Lib.hid h
  obtain ⟨ky, kd, un, us⟩ := u
  dsimp only at hk hs happ
  have Hmay := Lib.hid hmay; clear hmay
  have hW0 := h.alloc (.cells #[.string ky, .int .i64 kd, .int .i64 un, .string us] 38)
  have hu0 := Blk.new w 38 #[.string ky, .int .i64 kd, .int .i64 un, .string us]
  have hg0 := World.grownBy_alloc w (.cells #[.string ky, .int .i64 kd, .int .i64 un, .string us] 38) none
  have hlt := h.lt
  obtain ⟨-, b, hbo, hb, hM, -⟩ := hW0
  have hbl : b < w.heap.size := by obtain ⟨_, b', _, hb1, hM1, _⟩ := h; have := (hb1.alloc (.cells #[.string ky, .int .i64 kd, .int .i64 un, .string us] 38)).inj hb; simp at this; rw [← this]; exact hM1.lt
  clear h
  by_cases hm0 : mayU ⟨ky, kd, un, us⟩ = 0
  · rw [hm0] at Hmay ⊢
    obtain ⟨av, hav⟩ : ∃ av, applyV (m ky) ⟨ky, kd, un, us⟩ = av := ⟨_, rfl⟩
    have happ2 := fun W => happ W hm0
    rw [hav] at happ2
    have Happ := Lib.hid happ2; clear happ happ2
    have Hav := Lib.hid hav; clear hav
    have Hm0 := Lib.hid hm0; clear hm0
    obtain ⟨x, hx⟩ : ∃ x, m ky = x := ⟨_, rfl⟩
    rw [hx] at Happ Hav
    have Hx := Lib.hid hx; clear hx
    obtain ⟨x1, x2, x3⟩ := x
    obtain ⟨a1, a2, a3⟩ := av
    have happ3 : ∀ W, Calls Try.prog 43 #[.agg #[.int .i64 x1, .int .i64 x2, .string x3], .agg #[.string ky, .int .i64 kd, .int .i64 un, .string us]] W (NewRet W (.agg #[.int .i64 a1, .int .i64 a2, .string a3])) := Happ.out
    clear Happ
    have Happ := Lib.hid happ3; clear happ3
    have Hb := Lib.hid hb; clear hb
    have HM := Lib.hid hM; clear hM
    have Hu0 := Lib.hid hu0; clear hu0
    have Hg0 := Lib.hid hg0; clear hg0
    go_enter Try.func20, Try.ntmps20
    go_wp2_with fail
    refine (Hmay.out _).mono ?_
    rintro e w1 ⟨rfl, hg1⟩
    have hb1 := (Hb.out.grown hg1 (by simp)).drewN 1
    have hu1 := (Hu0.out.grown hg1 (by simp)).drewN 1
    have hM1 : MapAt (w1.drewN 1) b n m := HM.out.of_eq (hg1.block _ HM.out.lt (by simp))
    have hw1 := grown_tr (grown_tr Hg0.out hg1) (grown_drewN w1 1)
    have hL : ∀ x, MapAt x b n m → (Instr.lookup 68 (.map (some b)) (.string ky) false).run Try.prog x = .ok (.agg #[.int .i64 x1, .int .i64 x2, .string x3]) x := fun x h => by
      have := h.look ky hk
      rw [Hx.out] at this
      exact this
    have HL := Lib.hid hL; clear hL
    clear hg1 Hb Hu0 HM Hg0
    go_upto_region 4 with fail
    go_cut [6] (fun s6 wx => ∃ q, s6 = .pointer (some ⟨q, 0, none⟩) ∧ Mid w g b n m ky kd un us ⟨a1, a2, a3⟩ q wx)
    case first =>
      have c0 := hb1.cell 0
      have y0 := hu1.cell 0
      have y1 := hu1.cell 1
      have y2 := hu1.cell 2
      have y3 := hu1.cell 3
      simp only [List.getElem?_toArray, List.getElem?_cons_zero, List.getElem?_cons_succ] at c0 y0 y1 y2 y3
      have d0 : (w1.drew.alloc (.cells #[.int .i64 0, .int .i64 0, .string { data := #[] }] 29)).cell? ⟨g, 0, none⟩ = some (.map (some b)) := (hb1.alloc _).cell 0
      have d1 : (w1.drew.alloc (.cells #[.int .i64 0, .int .i64 0, .string { data := #[] }] 29)).cell? ⟨w.heap.size, 0, none⟩ = some (.string ky) := (hu1.alloc _).cell 0
      have d2 : (w1.drew.alloc (.cells #[.int .i64 0, .int .i64 0, .string { data := #[] }] 29)).cell? ⟨w.heap.size, 1, none⟩ = some (.int .i64 kd) := (hu1.alloc _).cell 1
      have d3 : (w1.drew.alloc (.cells #[.int .i64 0, .int .i64 0, .string { data := #[] }] 29)).cell? ⟨w.heap.size, 2, none⟩ = some (.int .i64 un) := (hu1.alloc _).cell 2
      have d4 : (w1.drew.alloc (.cells #[.int .i64 0, .int .i64 0, .string { data := #[] }] 29)).cell? ⟨w.heap.size, 3, none⟩ = some (.string us) := (hu1.alloc _).cell 3
      have b0 : (w1.alloc (.cells #[.int .i64 0, .int .i64 0, .string { data := #[] }] 29)).drew.cell? ⟨g, 0, none⟩ = some (.map (some b)) := (hb1.alloc _).cell 0
      have b1 : (w1.alloc (.cells #[.int .i64 0, .int .i64 0, .string { data := #[] }] 29)).drew.cell? ⟨w.heap.size, 0, none⟩ = some (.string ky) := (hu1.alloc _).cell 0
      have b2 : (w1.alloc (.cells #[.int .i64 0, .int .i64 0, .string { data := #[] }] 29)).drew.cell? ⟨w.heap.size, 1, none⟩ = some (.int .i64 kd) := (hu1.alloc _).cell 1
      have b3 : (w1.alloc (.cells #[.int .i64 0, .int .i64 0, .string { data := #[] }] 29)).drew.cell? ⟨w.heap.size, 2, none⟩ = some (.int .i64 un) := (hu1.alloc _).cell 2
      have b4 : (w1.alloc (.cells #[.int .i64 0, .int .i64 0, .string { data := #[] }] 29)).drew.cell? ⟨w.heap.size, 3, none⟩ = some (.string us) := (hu1.alloc _).cell 3
      have l1 : (Instr.lookup 68 (.map (some b)) (.string ky) false).run Try.prog w1.drew = .ok (.agg #[.int .i64 x1, .int .i64 x2, .string x3]) w1.drew := HL.out w1.drew hM1
      have l2 : (Instr.lookup 68 (.map (some b)) (.string ky) false).run Try.prog (w1.drew.alloc (.cells #[.int .i64 0, .int .i64 0, .string { data := #[] }] 29)) = .ok (.agg #[.int .i64 x1, .int .i64 x2, .string x3]) (w1.drew.alloc (.cells #[.int .i64 0, .int .i64 0, .string { data := #[] }] 29)) := HL.out (w1.drew.alloc (.cells #[.int .i64 0, .int .i64 0, .string { data := #[] }] 29)) (hM1.alloc_ _)
      have l3 : (Instr.lookup 68 (.map (some b)) (.string ky) false).run Try.prog (w1.alloc (.cells #[.int .i64 0, .int .i64 0, .string { data := #[] }] 29)).drew = .ok (.agg #[.int .i64 x1, .int .i64 x2, .string x3]) (w1.alloc (.cells #[.int .i64 0, .int .i64 0, .string { data := #[] }] 29)).drew := HL.out (w1.alloc (.cells #[.int .i64 0, .int .i64 0, .string { data := #[] }] 29)).drew (hM1.alloc_ _)
      have ne1 : g ≠ w1.heap.size := Nat.ne_of_lt hb1.lt
      have ne2 : w.heap.size ≠ w1.heap.size := Nat.ne_of_lt hu1.lt
      have ne5 : b ≠ w1.heap.size := Nat.ne_of_lt hM1.lt
      have Hb1 := Lib.hid hb1; clear hb1
      have Hu1 := Lib.hid hu1; clear hu1
      have HM1 := Lib.hid hM1; clear hM1
      have Hw1 := Lib.hid hw1; clear hw1
      rw [show w1.drewN 1 = w1.drew from rfl] at Hb1 Hu1 HM1 Hw1 c0 y0 y1 y2 y3
      go_region_held3 (fun w' => w'.cell? ⟨g, 0, none⟩ = some (.map (some b)) ∧ w'.cell? ⟨w.heap.size, 0, none⟩ = some (.string ky) ∧ w'.cell? ⟨w.heap.size, 1, none⟩ = some (.int .i64 kd) ∧ w'.cell? ⟨w.heap.size, 2, none⟩ = some (.int .i64 un) ∧ w'.cell? ⟨w.heap.size, 3, none⟩ = some (.string us) ∧ (Instr.lookup 68 (.map (some b)) (.string ky) false).run Try.prog w' = .ok (.agg #[.int .i64 x1, .int .i64 x2, .string x3]) w') (refine ⟨?_, ?_, ?_, ?_, ?_, ?_⟩ <;> with_reducible first | assumption | (refine cell_al ?_ _; assumption) | (refine cell_s3 ?_ ?_ _ _ _ <;> assumption))
       (first
        | (go_at_call 43
           with_reducible refine (Happ.out (w1.alloc (.cells #[.int .i64 0, .int .i64 0, .string { data := #[] }] 29)).drew).mono ?_
           rintro e w5 ⟨rfl, hg6⟩
           have hg5 : (w1.drew.alloc (.cells #[.int .i64 0, .int .i64 0, .string { data := #[] }] 29)).grownBy w5 none := ⟨hg6.os, hg6.tape, hg6.output, hg6.size, hg6.block⟩
           clear hg6
           have k0 : w5.cell? ⟨g, 0, none⟩ = some (.map (some b)) := ((Hb1.out.alloc _).grown hg5 (by simp)).cell 0
           have k1 : w5.cell? ⟨w.heap.size, 0, none⟩ = some (.string ky) := ((Hu1.out.alloc _).grown hg5 (by simp)).cell 0
           have k2 : w5.cell? ⟨w.heap.size, 1, none⟩ = some (.int .i64 kd) := ((Hu1.out.alloc _).grown hg5 (by simp)).cell 1
           have k3 : w5.cell? ⟨w.heap.size, 2, none⟩ = some (.int .i64 un) := ((Hu1.out.alloc _).grown hg5 (by simp)).cell 2
           have k4 : w5.cell? ⟨w.heap.size, 3, none⟩ = some (.string us) := ((Hu1.out.alloc _).grown hg5 (by simp)).cell 3
           have hM5 : MapAt w5 b n m := (HM1.out.alloc_ _).of_eq (hg5.block _ (HM1.out.alloc_ _).lt (by simp))
           have HM5 := Lib.hid hM5; clear hM5
           have l4 : (Instr.lookup 68 (.map (some b)) (.string ky) false).run Try.prog w5 = .ok (.agg #[.int .i64 x1, .int .i64 x2, .string x3]) w5 := HL.out w5 HM5.out
           have l5 : (Instr.lookup 68 (.map (some b)) (.string ky) false).run Try.prog (((w5.setCell ⟨w1.heap.size, 0, none⟩ (.int .i64 a1)).setCell ⟨w1.heap.size, 1, none⟩ (.int .i64 a2)).setCell ⟨w1.heap.size, 2, none⟩ (.string a3)) = .ok (.agg #[.int .i64 x1, .int .i64 x2, .string x3]) (((w5.setCell ⟨w1.heap.size, 0, none⟩ (.int .i64 a1)).setCell ⟨w1.heap.size, 1, none⟩ (.int .i64 a2)).setCell ⟨w1.heap.size, 2, none⟩ (.string a3)) := HL.out (((w5.setCell ⟨w1.heap.size, 0, none⟩ (.int .i64 a1)).setCell ⟨w1.heap.size, 1, none⟩ (.int .i64 a2)).setCell ⟨w1.heap.size, 2, none⟩ (.string a3)) (((HM5.out.set_ ne5 _).set_ ne5 _).set_ ne5 _)
           have hq5 := (Blk.new w1.drew 29 #[.int .i64 0, .int .i64 0, .string { data := #[] }]).grown hg5 (by simp)
           have q0 : w5.cell? ⟨w1.heap.size, 0, none⟩ = some (.int .i64 0) := hq5.cell 0
           have q1 : w5.cell? ⟨w1.heap.size, 1, none⟩ = some (.int .i64 0) := hq5.cell 1
           have q2 : w5.cell? ⟨w1.heap.size, 2, none⟩ = some (.string { data := #[] }) := hq5.cell 2
           have f0 : w5.frozen? ⟨w1.heap.size, 0, none⟩ = false := hq5.free 0
           have f1 : w5.frozen? ⟨w1.heap.size, 1, none⟩ = false := hq5.free 1
           have f2 : w5.frozen? ⟨w1.heap.size, 2, none⟩ = false := hq5.free 2
           have hmid := mid_a (a1 := a1) (a2 := a2) (a3 := a3) Hw1.out Hu1.out Hb1.out HM1.out hlt hbl hg5
           have Hmid := Lib.hid hmid
           clear hmid hq5)
        | (go_at_call 43
           with_reducible refine (Happ.out w1.drew).mono ?_
           rintro e w5 ⟨rfl, hg5⟩
           have k0 : w5.cell? ⟨g, 0, none⟩ = some (.map (some b)) := (Hb1.out.grown hg5 (by simp)).cell 0
           have k1 : w5.cell? ⟨w.heap.size, 0, none⟩ = some (.string ky) := (Hu1.out.grown hg5 (by simp)).cell 0
           have k2 : w5.cell? ⟨w.heap.size, 1, none⟩ = some (.int .i64 kd) := (Hu1.out.grown hg5 (by simp)).cell 1
           have k3 : w5.cell? ⟨w.heap.size, 2, none⟩ = some (.int .i64 un) := (Hu1.out.grown hg5 (by simp)).cell 2
           have k4 : w5.cell? ⟨w.heap.size, 3, none⟩ = some (.string us) := (Hu1.out.grown hg5 (by simp)).cell 3
           have hM5 : MapAt w5 b n m := HM1.out.of_eq (hg5.block _ HM1.out.lt (by simp))
           have HM5 := Lib.hid hM5; clear hM5
           have l4 : (Instr.lookup 68 (.map (some b)) (.string ky) false).run Try.prog w5 = .ok (.agg #[.int .i64 x1, .int .i64 x2, .string x3]) w5 := HL.out w5 HM5.out
           have l5 : (Instr.lookup 68 (.map (some b)) (.string ky) false).run Try.prog (w5.alloc (.cells #[.int .i64 0, .int .i64 0, .string { data := #[] }] 29)) = .ok (.agg #[.int .i64 x1, .int .i64 x2, .string x3]) (w5.alloc (.cells #[.int .i64 0, .int .i64 0, .string { data := #[] }] 29)) := HL.out (w5.alloc (.cells #[.int .i64 0, .int .i64 0, .string { data := #[] }] 29)) (HM5.out.alloc_ _)
           have l6 : (Instr.lookup 68 (.map (some b)) (.string ky) false).run Try.prog (w5.alloc (.cells #[.int .i64 a1, .int .i64 a2, .string a3] 29)) = .ok (.agg #[.int .i64 x1, .int .i64 x2, .string x3]) (w5.alloc (.cells #[.int .i64 a1, .int .i64 a2, .string a3] 29)) := HL.out (w5.alloc (.cells #[.int .i64 a1, .int .i64 a2, .string a3] 29)) (HM5.out.alloc_ _)
           have ne3 : g ≠ w5.heap.size := Nat.ne_of_lt (Hb1.out.grown hg5 (by simp)).lt
           have ne4 : w.heap.size ≠ w5.heap.size := Nat.ne_of_lt (Hu1.out.grown hg5 (by simp)).lt
           have hmid := mid_b (a1 := a1) (a2 := a2) (a3 := a3) Hw1.out Hu1.out Hb1.out HM1.out hg5
           have Hmid := Lib.hid hmid
           clear hmid))
      all_goals go_wp2_with fail
      all_goals (go_meet; exact ⟨_, rfl, Hmid.out⟩)
    case rest =>
      obtain ⟨q, rfl, hgw, hq, hqb, hub, hgb, hmc⟩ := hcut
      clear hb1 hu1 hM1 hw1
      have c0 := hgb.cell 0
      have y0 := hub.cell 0
      have q0 := hqb.cell 0
      have q1 := hqb.cell 1
      have q2 := hqb.cell 2
      simp only [List.getElem?_toArray, List.getElem?_cons_zero, List.getElem?_cons_succ] at c0 y0 q0 q1 q2
      by_cases ha : a1 = 0
      · subst ha
        obtain ⟨wz, hrun, hmz, hgz⟩ := (show MapAt wc.drew b n m from hmc).del ky hk 0
        have Hmz := Lib.hid hmz; clear hmz
        have Hgz := Lib.hid hgz; clear hgz
        go_wp2_with fail
        go_still_tail 6, (by kernel_rfl)
        change wpList _ _ _ _ _ wc.drew
        go_wp2
        go_ret
        have hvz : (⟨0, a2, a3⟩ : Val) = zeroV := by
          have h1 := (applyV_ok (Hh.out.ok ky) Hm0.out).1
          rw [Hx.out, Hav.out] at h1
          rcases h1 with h1 | h1 | h1
          · obtain ⟨_, h2, h3⟩ := h1
            dsimp only at h2 h3
            subst h2; subst h3; rfl
          · exact absurd (show (0 : Int) = 1 from h1.1) (by decide)
          · exact absurd (show (0 : Int) = 2 from h1.1) (by decide)
        have hd := doM_is (m := m) (u := ⟨ky, kd, un, us⟩) (av := zeroV) Hm0.out (by dsimp only; rw [Hx.out, Hav.out, hvz])
        have hm' := Hmz.out
        rw [← hd]
        refine ⟨rfl, ?_⟩
        obtain ⟨own', s1, s2⟩ := do_fin Hh.out.1 hbo hlt hbl hgw hgb hmc Hgz.out hm' (by have := Hh.out.ok.step ⟨ky, kd, un, us⟩; rw [← hd] at this; exact this)
        exact ⟨own', s1, s2.mono (Nat.le_succ _)⟩
      · obtain ⟨wz, hrun, hmz, hgz⟩ := (show MapAt wc.drew b n m from hmc).put hn ky hk ⟨a1, a2, a3⟩ ha
        have Hmz := Lib.hid hmz; clear hmz
        have Hgz := Lib.hid hgz; clear hgz
        have hrun : (Instr.mapUpdate 68 (.map (some b)) (.string ky) (.agg #[.int .i64 a1, .int .i64 a2, .string a3])).run Try.prog wc.drew = .ok () wz := hrun
        have ha' : (a1 == 0) = false := by simpa using ha
        go_wp2_with fail
        go_still_tail 7, (by kernel_rfl)
        change wpList _ _ _ _ _ wc.drew
        go_wp2
        go_ret
        have hd := doM_is (m := m) (u := ⟨ky, kd, un, us⟩) (av := ⟨a1, a2, a3⟩) Hm0.out (by dsimp only; rw [Hx.out, Hav.out])
        have hm' := Hmz.out
        rw [← hd]
        refine ⟨rfl, ?_⟩
        exact do_fin Hh.out.1 hbo hlt hbl hgw hgb hmc Hgz.out hm' (by have := Hh.out.ok.step ⟨ky, kd, un, us⟩; rw [← hd] at this; exact this)
  · have hd := doM_not (m := m) hm0
    rw [hd]
    have Hd := Lib.hid hd; clear hd happ
    obtain ⟨x, hx⟩ : ∃ x, mayU ⟨ky, kd, un, us⟩ = x := ⟨_, rfl⟩
    rw [hx] at Hmay hm0 ⊢
    have hm1 : (x != 0) = true := by simpa using hm0
    have Hx := Lib.hid hx; clear hx
    have Hb := Lib.hid hb; clear hb
    have HM := Lib.hid hM; clear hM
    have Hu0 := Lib.hid hu0; clear hu0
    have Hg0 := Lib.hid hg0; clear hg0
    go_enter Try.func20, Try.ntmps20
    go_wp2_with fail
    refine (Hmay.out _).mono ?_
    rintro e w1 ⟨rfl, hg1⟩
    have hw1 := grown_tr Hg0.out hg1
    have Hw1 := Lib.hid hw1; clear hw1 hg1
    go_wp2
    go_ret
    exact ⟨rfl, _, StepG.of_grown l own Hw1.out 40, (Hh.out.grown Hw1.out 40).mono (Nat.le_succ _)⟩
end
end Go.Proofs.Ytihnldhdpiokhaa
