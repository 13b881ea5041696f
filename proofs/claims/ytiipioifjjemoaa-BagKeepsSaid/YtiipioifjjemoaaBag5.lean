/- A bag: Take. -/
import Derived.Test.YtiipioifjjemoaaBag4
namespace Go.Proofs.Ytiipioifjjemoaa
open Go.RowKit
set_option linter.unusedVariables false

theorem qcells_cut (s : BSt) (k : Nat) (hk : k ≤ s.length) : qcells (s.take k) = (qcells s).take (k * 4) ∧ qcells (s.drop k) = (qcells s).drop (k * 4) := by
  have e : qcells s = qcells (s.take k) ++ qcells (s.drop k) := by rw [← qcells_append, List.take_append_drop]
  have hl : (qcells (s.take k)).length = k * 4 := by rw [qcells_length, List.length_take, Nat.min_eq_left hk]
  rw [e]
  exact ⟨by rw [List.take_left' hl], by rw [List.drop_left' hl]⟩
theorem qcells_del (s : BSt) (k : Nat) (hk : k < s.length) : qcells (s.take k ++ s.drop (k + 1)) = (qcells s).take (k * 4) ++ (qcells s).drop ((k + 1) * 4) := by
  rw [qcells_append, (qcells_cut s k (by omega)).1, (qcells_cut s (k + 1) (by omega)).2]

theorem grown_set {a b : World} (h : a.grownBy b none) {p : Addr} (hp : a.heap.size ≤ p.block) (u : Value) : a.grownBy (b.setCell p u) none :=
  ⟨h.os, h.tape, h.output, by have := h.size; simpa using this, fun k hk hn => (Below.heap_setCell _ _ _ _ (by omega)).trans (h.block k hk hn)⟩

theorem StepG.set_new {l : Nat} {w w' : World} {own own' : Nat → Nat} (h : StepG l w own w' own') {p : Addr} (hp : w.heap.size ≤ p.block) (u : Value) : StepG l w own (w'.setCell p u) own' :=
  ⟨h.os, h.tape, h.output, by have := h.size; simpa using this, fun k hk hn => (Below.heap_setCell _ _ _ _ (by omega)).trans (h.heap k hk hn), h.own⟩
theorem BagAt.set_other {w : World} {own : Nat → Nat} {l g : Nat} {s : BSt} (h : BagAt w own l g s) {p : Addr} {j : Nat} (hp : own p.block = j) (hj : j / 10 ≠ l) (u : Value) : BagAt (w.setCell p u) own l g s :=
  h.other (((Step.refl j w own).setCell hp u).toG rfl) (fun e => hj e.symm)

section
variable {w : World} {own : Nat → Nat} {l g : Nat} {s : BSt}
set_option maxHeartbeats 2000000 in
set_option maxRecDepth 10000 in
theorem bag_take_no (h : BagAt w own l g s) (x : Int) (hx : x < 0 ∨ (s.length : Int) ≤ x) :
    Calls Try.prog 16 #[.pointer (some ⟨g, 0, none⟩), .int .i64 x] w (NewRet w (.tuple #[.agg #[.int .i64 0, .int .i64 0, .string ByteArray.empty], .bool false])) := by
  have h1 := h.grown (World.grownBy_alloc w (.cells #[.int .i64 0, .int .i64 0, .string { data := #[] }] 39) none) (10 * (l + 1))
  have H1 := Lib.hid h1; clear h1
  have Hx := Lib.hid hx; clear hx h
  go_enter Try.func16, Try.ntmps16
  go_wp2_with fail
  refine (bag_at_no H1.out x Hx.out).mono ?_
  rintro e w1 ⟨rfl, hg⟩
  have hb := (Blk.new w 39 #[.int .i64 0, .int .i64 0, .string { data := #[] }]).grown hg (by simp)
  have hgw := World.grownBy_alloc w (.cells #[.int .i64 0, .int .i64 0, .string { data := #[] }] 39) none
  have hg2 := grown_tr hgw hg
  clear hgw hg
  have hrl := hb.lt
  have hge : w.heap.size ≤ w.heap.size := Nat.le_refl _
  generalize hrb : w.heap.size = rb at hb hrl hge ⊢
  have Hrb := Lib.hid hrb; clear hrb
  have c0 := hb.cell 0
  have c1 := hb.cell 1
  have c2 := hb.cell 2
  have f0 := hb.free 0
  have f1 := hb.free 1
  have f2 := hb.free 2
  simp only [List.getElem?_toArray, List.getElem?_cons_zero, List.getElem?_cons_succ] at c0 c1 c2
  have Hb := Lib.hid hb; clear hb
  go_wp2
  have hge := Hrb.out
  refine bodyPost_ret (v := .tuple #[.agg #[.int .i64 0, .int .i64 0, .string ByteArray.empty], .bool false]) (by simp [results, Try.results16, go_sem, hrl, c0, c1, c2]) rfl ⟨rfl, ?_⟩
  exact grown_tr (grown_set (grown_set (grown_set hg2 (by simp; omega) _) (by simp; omega) _) (by simp; omega) _) (World.grownBy_alloc _ _ none)

set_option maxHeartbeats 4000000 in
set_option maxRecDepth 10000 in
theorem bag_take (h : BagAt w own l g s) (k : Nat) (p : Pkt) (sp : Bool) (hk : s[k]? = some (p, sp)) :
    Calls Try.prog 16 #[.pointer (some ⟨g, 0, none⟩), .int .i64 (k : Int)] w (BagRet l own w g (.tuple #[.agg #[.int .i64 p.src, .int .i64 p.dst, .string p.bytes], .bool true]) (s.take k ++ s.drop (k + 1))) := by
  obtain ⟨ps, pd, pb⟩ := p
  dsimp only
  have hgw := World.grownBy_alloc w (.cells #[.int .i64 0, .int .i64 0, .string { data := #[] }] 39) none
  have h1 := h.grown hgw (10 * (l + 1))
  have hkl : k < s.length := (List.getElem?_eq_some_iff.1 hk).1
  have hs4 : s.length ≤ 4096 := h.2.1
  have st1 := StepG.of_grown l own hgw (10 * (l + 1))
  clear hgw h
  have hba := fun W own' (h : BagAt W own' l g s) => bag_at_yes h k ⟨ps, pd, pb⟩ sp hk
  have Hba := Lib.hid hba; clear hba hk
  have hor1 : give own w.heap.size (10 * (l + 1)) w.heap.size = 10 * (l + 1) := give_new (Nat.le_refl _)
  generalize give own w.heap.size (10 * (l + 1)) = own1 at h1 st1 hor1
  have H1 := Lib.hid h1; clear h1
  have Hst1 := Lib.hid st1; clear st1
  go_enter Try.func16, Try.ntmps16
  go_wp2_with fail
  refine (Hba.out _ _ H1.out).mono ?_
  rintro e w1 ⟨rfl, hg⟩
  have hb := (Blk.new w 39 #[.int .i64 0, .int .i64 0, .string { data := #[] }]).grown hg (by simp)
  have h2 := H1.out.grown hg (10 * (l + 1))
  have st2 := Hst1.out.trans (StepG.of_grown l own1 hg (10 * (l + 1)))
  have hor : give own1 (w.alloc (.cells #[.int .i64 0, .int .i64 0, .string { data := #[] }] 39)).heap.size (10 * (l + 1)) w.heap.size = 10 * (l + 1) := (give_old (by simp)).trans hor1
  clear hg H1 Hst1 hor1
  generalize give own1 _ (10 * (l + 1)) = own2 at h2 st2 hor
  have hrl := hb.lt
  obtain ⟨rb, hrb⟩ : ∃ rb, rb = w.heap.size := ⟨_, rfl⟩
  rw [← hrb] at hb hrl hor ⊢
  have Hrb := Lib.hid hrb; clear hrb
  obtain ⟨ho, hl, A, c, hbg, hO⟩ := h2
  have hxs := qcells_one s
  have hdel := qcells_del s k hkl
  have hll : (s.take k ++ s.drop (k + 1)).length = s.length - 1 := by simp; omega
  obtain ⟨n, hn⟩ : ∃ n, s.length = n := ⟨_, rfl⟩
  rw [hn] at hbg hO hl hkl hll
  clear hn hs4
  obtain ⟨b, rfl⟩ : ∃ b, A = some ⟨b, 0, none⟩ := by
    rcases hO.2 with ⟨_, h0, _⟩ | ⟨b, _, e, _⟩
    · omega
    · exact ⟨b, e⟩
  have y0 := hbg.cell 0
  simp only [List.getElem?_toArray, List.getElem?_cons_zero] at y0
  have hgl := hbg.lt
  have hga := World.grownBy_alloc w1 (.cells #[.int .i64 ps, .int .i64 pd, .string pb] 39) none
  have hbg2 := hbg.alloc (.cells #[.int .i64 ps, .int .i64 pd, .string pb] 39)
  have hO2 := hO.grown (j := 10 * (l + 1)) hga (Nat.le_refl _)
  have hb2 := hb.alloc (.cells #[.int .i64 ps, .int .i64 pd, .string pb] 39)
  have hbt : Blk (w1.alloc (.cells #[.int .i64 ps, .int .i64 pd, .string pb] 39)) w1.heap.size 39 #[.int .i64 ps, .int .i64 pd, .string pb] := Blk.new w1 39 _
  have ho2 : give own2 w1.heap.size (10 * (l + 1)) g = 10 * l := (give_old hgl).trans ho
  have hor2 : give own2 w1.heap.size (10 * (l + 1)) rb = 10 * (l + 1) := (give_old hrl).trans hor
  have hot2 : give own2 w1.heap.size (10 * (l + 1)) w1.heap.size = 10 * (l + 1) := give_new (Nat.le_refl _)
  have st3 := st2.trans (StepG.of_grown l own2 hga (10 * (l + 1)))
  clear hbg hO hb ho hor st2 hga
  generalize give own2 w1.heap.size (10 * (l + 1)) = own3 at hO2 ho2 hor2 hot2 st3
  have Hxs := Lib.hid hxs; clear hxs
  have Hdel := Lib.hid hdel; clear hdel
  have Hll := Lib.hid hll; clear hll
  have Hst3 := Lib.hid st3; clear st3
  have HO2 := Lib.hid hO2; clear hO2
  have hkc9 : (0 : Int) ≤ (k : Int) := by omega
  have hk49 : (k : Int) + 1 ≤ 4096 := by omega
  go_wp2_with fail
  generalize w1.alloc (.cells #[.int .i64 ps, .int .i64 pd, .string pb] 39) = W2 at hbg2 HO2 hb2 hbt Hst3 ⊢
  generalize w1.heap.size = bt at hbt hot2 ⊢
  clear y0 hgl hrl
  refine (del_raw HO2.out Hxs.out k hkl hl).mono ?_
  rintro e w3 ⟨rfl, st4, hO4⟩
  have q1 := st4.other (j := 10 * l) (by omega) hbg2.lt ho2
  have q2 := st4.other (j := 10 * (l + 1)) (by omega) hb2.lt hor2
  have q3 := st4.other (j := 10 * (l + 1)) (by omega) hbt.lt hot2
  have hg3 := hbg2.of_eq q1.1
  have hr3 := hb2.of_eq q2.1
  have ht3 := hbt.of_eq q3.1
  have hne1 : rb ≠ g := hr3.ne_ hg3 (by decide)
  have hne2 : bt ≠ g := ht3.ne_ hg3 (by decide)
  have x0 := hg3.cell 0
  have r0 := hr3.cell 0
  have r1 := hr3.cell 1
  have r2 := hr3.cell 2
  have t0 := ht3.cell 0
  have t1 := ht3.cell 1
  have t2 := ht3.cell 2
  simp only [List.getElem?_toArray, List.getElem?_cons_zero, List.getElem?_cons_succ] at x0 r0 r1 r2 t0 t1 t2
  have fg := hg3.free 0
  have fr0 := hr3.free 0
  have fr1 := hr3.free 1
  have fr2 := hr3.free 2
  have Hg3 := Lib.hid hg3; clear hg3
  have HO4 := Lib.hid hO4; clear hO4
  have Hst4 := Lib.hid st4
  have Hrl2 := Lib.hid hb2.lt
  have Hg2 := Lib.hid hbg2
  clear st4 q1 q2 q3 hr3 ht3 hbg2 hb2 hbt HO2
  have hne1' : g ≠ rb := fun e => hne1 e.symm
  have hne2' : g ≠ bt := fun e => hne2 e.symm
  go_wp2
  have hdel := Hdel.out
  have hf := bag_mk (s := s.take k ++ s.drop (k + 1)) (A2 := some ⟨b, 0, none⟩) (c2 := c) (Hst4.out) ho2 (Hg2.out) (by rw [Hll.out]; omega) (by rw [Hdel.out, Hll.out]; exact HO4.out) (.int .i64 0)
  rw [Hll.out] at hf
  obtain ⟨_, own5, st5, hB5⟩ := hf
  have hrb := Hrb.out
  refine bodyPost_ret (v := .tuple #[.agg #[.int .i64 ps, .int .i64 pd, .string pb], .bool true]) (by simp [results, Try.results16, go_sem, r0, r1, r2]) rfl ⟨rfl, own5, (((Hst3.out.trans st5).set_new (by simp; omega) _).set_new (by simp; omega) _).set_new (by simp; omega) _, ?_⟩
  have hor5 : own5 rb = 10 * (l + 1) := (st5.own rb Hrl2.out).trans hor2
  exact ((hB5.set_other (by exact hor5) (by omega) _).set_other (by exact hor5) (by omega) _).set_other (by exact hor5) (by omega) _
end
end Go.Proofs.Ytiipioifjjemoaa
