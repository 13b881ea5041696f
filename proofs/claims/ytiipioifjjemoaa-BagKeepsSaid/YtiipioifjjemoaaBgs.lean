/- A bag as it stands in a law's walk, with what else is held. -/
import Derived.Test.YtiipioifjjemoaaBag7
namespace Go.Proofs.Ytiipioifjjemoaa
open Go.RowKit
set_option linter.unusedVariables false

theorem grown_drewN (w : World) (n : Nat) : w.grownBy (w.drewN n) none := ⟨rfl, rfl, rfl, Nat.le_refl _, fun _ _ _ => rfl⟩
/-- what stays through any step of groups 1 and 2 -/
abbrev Hold := World → (Nat → Nat) → Prop
/-- Since w0 nothing that was there has changed; the bag at g stands as s; X is held. -/
def Bg (w0 : World) (g : Nat) (s : BSt) (X : Hold) (w : World) : Prop := ∃ own, Base w0.heap.size w0 w own ∧ BagAt w own 1 g s ∧ X w own

section
variable {w0 w w' : World} {g : Nat} {s : BSt} {X Y : Hold}
theorem Bg.new (w : World) : Calls Try.prog 7 #[] w (fun e w' => e = .returned (.pointer (some ⟨w.heap.size, 0, none⟩)) ∧ Bg w w.heap.size [] (fun _ _ => True) w') := by
  refine (bag_new 1 (fun _ => 0) w).mono ?_
  rintro e w' ⟨he, own', st, hb⟩
  exact ⟨he, own', (Base.start w).stepG st (by omega), hb, trivial⟩
theorem Bg.grown (h : Bg w0 g s X w) (hX : Kept X) (hg : w.grownBy w' none) : Bg w0 g s X w' := by
  obtain ⟨own, hB, hb, hx⟩ := h
  have st := StepG.of_grown 4 own hg 40
  exact ⟨_, hB.stepG st (by omega), hb.other st (by omega), hX.step st (by omega) hx⟩
theorem Bg.drewN (h : Bg w0 g s X w) (hX : Kept X) (n : Nat) : Bg w0 g s X (w.drewN n) := h.grown hX (grown_drewN w n)
theorem Bg.weaken (h : Bg w0 g s X w) (hxy : ∀ w own, X w own → Y w own) : Bg w0 g s Y w := by
  obtain ⟨own, hB, hb, hx⟩ := h
  exact ⟨own, hB, hb, hxy _ _ hx⟩
theorem Bg.alloc (h : Bg w0 g s X w) (hX : Kept X) (t : TypeId) (cs : Array Value) : Bg w0 g s (fun w' own => X w' own ∧ own w.heap.size = 31 ∧ Blk w' w.heap.size t cs) (w.alloc (.cells cs t)) := by
  obtain ⟨own, hB, hb, hx⟩ := h
  have st := StepG.of_grown 4 own (World.grownBy_alloc w (.cells cs t) none) 31
  exact ⟨_, hB.stepG st (by omega), hb.other st (by omega), hX.step st (by omega) hx, give_new (Nat.le_refl _), Blk.new w t cs⟩
theorem Bg.blk {b t : Nat} {cs : Array Value} (h : Bg w0 g s X w) (hx : ∀ w own, X w own → Blk w b t cs) : Blk w b t cs := by
  obtain ⟨own, hB, hb, h3⟩ := h
  exact hx _ _ h3
theorem Bg.end_ (h : Bg w0 g s X w) : w0.grownBy w none := by
  obtain ⟨own, hB, hb, h3⟩ := h
  exact base_end hB rfl
theorem Bg.ret {l : Nat} {v : Value} {s' : BSt} {e : Ending} {own : Nat → Nat} (hB : Base w0.heap.size w0 w own) (hX : Kept X) (hx : X w own) (h : BagRet 1 own w g v s' e w') : e = .returned v ∧ Bg w0 g s' X w' := by
  obtain ⟨he, own', st, h'⟩ := h
  exact ⟨he, own', hB.stepG st (by omega), h', hX.step st (by omega) hx⟩
theorem bg_len (h : Bg w0 g s X w) (n : Int) (hn : (s.length : Int) = n) : Calls Try.prog 14 #[.pointer (some ⟨g, 0, none⟩)] w fun e w' => e = .returned (.int .i64 n) ∧ w = w' := by
  obtain ⟨own, hB, hb, hx⟩ := h
  exact bag_len hb n hn
theorem bg_at (h : Bg w0 g s X w) (hX : Kept X) (x : Int) (k : Nat) (p : Pkt) (sp : Bool) (hxk : x = (k : Int)) (hk : s[k]? = some (p, sp)) :
    Calls Try.prog 13 #[.pointer (some ⟨g, 0, none⟩), .int .i64 x] w (fun e w' => e = .returned (.tuple #[.agg #[.int .i64 p.src, .int .i64 p.dst, .string p.bytes], .bool true]) ∧ Bg w0 g s X w') := by
  subst hxk
  obtain ⟨own, hB, hb, hx⟩ := h
  refine (bag_at_yes hb k p sp hk).mono ?_
  rintro e w' ⟨he, hg⟩
  exact ⟨he, Bg.grown ⟨own, hB, hb, hx⟩ hX hg⟩
theorem bg_at_no (h : Bg w0 g s X w) (hX : Kept X) (x : Int) (hxn : x < 0 ∨ (s.length : Int) ≤ x) :
    Calls Try.prog 13 #[.pointer (some ⟨g, 0, none⟩), .int .i64 x] w (fun e w' => e = .returned (.tuple #[.agg #[.int .i64 0, .int .i64 0, .string ByteArray.empty], .bool false]) ∧ Bg w0 g s X w') := by
  obtain ⟨own, hB, hb, hx⟩ := h
  refine (bag_at_no hb x hxn).mono ?_
  rintro e w' ⟨he, hg⟩
  exact ⟨he, Bg.grown ⟨own, hB, hb, hx⟩ hX hg⟩
/-- what Twice answers, and what stands behind it -/
def twiceB (s : BSt) (x : Int) : Int × BSt :=
  if x < 0 ∨ (s.length : Int) ≤ x then (11, s) else if 4096 ≤ s.length then (7, s) else (0, s ++ (s[x.toNat]?).toList)
theorem bg_twice (h : Bg w0 g s X w) (hX : Kept X) (x : Int) :
    Calls Try.prog 17 #[.pointer (some ⟨g, 0, none⟩), .int .i64 x] w (fun e w' => e = .returned (.int .i64 (twiceB s x).1) ∧ Bg w0 g (twiceB s x).2 X w') := by
  obtain ⟨own, hB, hb, hx⟩ := h
  by_cases h1 : x < 0 ∨ (s.length : Int) ≤ x
  · rw [show twiceB s x = (11, s) by rw [twiceB, if_pos h1]]
    refine (bag_twice_none hb x h1).mono ?_
    rintro e w' ⟨he, rfl⟩
    exact ⟨he, own, hB, hb, hx⟩
  · obtain ⟨k, hk⟩ : ∃ k : Nat, x = (k : Int) := ⟨x.toNat, by omega⟩
    subst hk
    have hkl : k < s.length := by omega
    have h4 : s.length ≤ 4096 := hb.2.1
    by_cases h2 : 4096 ≤ s.length
    · rw [show twiceB s (k : Int) = (7, s) by rw [twiceB, if_neg h1, if_pos h2]]
      refine (bag_twice_full hb k hkl (by omega)).mono ?_
      rintro e w' ⟨he, rfl⟩
      exact ⟨he, own, hB, hb, hx⟩
    · rw [show twiceB s (k : Int) = (0, s ++ [s[k]]) by rw [twiceB, if_neg h1, if_neg h2]; simp [hkl]]
      refine (bag_twice hb k s[k] (by simp [hkl]) (by omega)).mono ?_
      exact fun e w' h => Bg.ret (l := 1) hB hX hx h
/-- what Spoil answers, and what stands behind it -/
def spoilB (s : BSt) (x bit mask : Int) : Int × BSt :=
  if x < 0 ∨ (s.length : Int) ≤ x then (11, s) else match s[x.toNat]? with
    | some (p, false) => (0, s.set x.toNat ({ p with bytes := spoilt p.bytes bit mask }, true))
    | _ => (12, s)
theorem bg_spoil (h : Bg w0 g s X w) (hX : Kept X) (x bit mask : Int) (hm0 : 0 ≤ mask) (hm1 : mask ≤ 4294967295) (hsz : ∀ q ∈ s, q.1.bytes.size ≤ 1099511627776) :
    Calls Try.prog 18 #[.pointer (some ⟨g, 0, none⟩), .int .i64 x, .int .i64 bit, .int .u32 mask] w (fun e w' => e = .returned (.int .i64 (spoilB s x bit mask).1) ∧ Bg w0 g (spoilB s x bit mask).2 X w') := by
  obtain ⟨own, hB, hb, hx⟩ := h
  by_cases h1 : x < 0 ∨ (s.length : Int) ≤ x
  · rw [show spoilB s x bit mask = (11, s) by rw [spoilB, if_pos h1]]
    refine (bag_spoil_none hb x bit mask h1).mono ?_
    rintro e w' ⟨he, rfl⟩
    exact ⟨he, own, hB, hb, hx⟩
  · obtain ⟨k, hk⟩ : ∃ k : Nat, x = (k : Int) := ⟨x.toNat, by omega⟩
    subst hk
    have hkl : k < s.length := by omega
    obtain ⟨p, sp, hk⟩ : ∃ p sp, s[k]? = some (p, sp) := ⟨s[k].1, s[k].2, by simp [hkl]⟩
    cases sp with
    | true =>
      rw [show spoilB s (k : Int) bit mask = (12, s) by rw [spoilB, if_neg h1]; simp [hk]]
      refine (bag_spoil_twice hb k p bit mask hk).mono ?_
      rintro e w' ⟨he, rfl⟩
      exact ⟨he, own, hB, hb, hx⟩
    | false =>
      rw [show spoilB s (k : Int) bit mask = (0, s.set k ({ p with bytes := spoilt p.bytes bit mask }, true)) by rw [spoilB, if_neg h1]; simp [hk]]
      refine (bag_spoil hb k p bit mask hk hm0 hm1 (hsz _ (List.mem_of_getElem? hk))).mono ?_
      exact fun e w' h => Bg.ret (l := 1) hB hX hx h
theorem bg_take (h : Bg w0 g s X w) (hX : Kept X) (x : Int) (k : Nat) (p : Pkt) (sp : Bool) (hxk : x = (k : Int)) (hk : s[k]? = some (p, sp)) :
    Calls Try.prog 16 #[.pointer (some ⟨g, 0, none⟩), .int .i64 x] w (fun e w' => e = .returned (.tuple #[.agg #[.int .i64 p.src, .int .i64 p.dst, .string p.bytes], .bool true]) ∧ Bg w0 g (s.take k ++ s.drop (k + 1)) X w') := by
  subst hxk
  obtain ⟨own, hB, hb, hx⟩ := h
  refine (bag_take hb k p sp hk).mono ?_
  exact fun e w' h => Bg.ret (l := 1) hB hX hx h
theorem bg_take_no (h : Bg w0 g s X w) (hX : Kept X) (x : Int) (hxn : x < 0 ∨ (s.length : Int) ≤ x) :
    Calls Try.prog 16 #[.pointer (some ⟨g, 0, none⟩), .int .i64 x] w (fun e w' => e = .returned (.tuple #[.agg #[.int .i64 0, .int .i64 0, .string ByteArray.empty], .bool false]) ∧ Bg w0 g s X w') := by
  obtain ⟨own, hB, hb, hx⟩ := h
  refine (bag_take_no hb x hxn).mono ?_
  rintro e w' ⟨he, hg⟩
  exact ⟨he, Bg.grown ⟨own, hB, hb, hx⟩ hX hg⟩
theorem bg_add (h : Bg w0 g s X w) (hX : Kept X) (ps : List Pkt) (P : Option Addr) (m cp j : Nat) (hm : ps.length = m) (hj : j / 10 = 3) (hp : ∀ w own, X w own → Row w own j 39 3 P m (pcells ps)) (hpc : m ≤ cp) (hcm : cp ≤ maxLen)
    (n : Nat) (hn : n = min ps.length (4096 - s.length)) :
    Calls Try.prog 15 #[.pointer (some ⟨g, 0, none⟩), .slice P m cp] w (fun e w' => e = .returned (.int .i64 (n : Int)) ∧ Bg w0 g (s ++ fresh (ps.take n)) X w') := by
  subst hm
  obtain ⟨own, hB, hb, hx⟩ := h
  refine (bag_add hb ps P cp j (by omega) (hp _ _ hx) hpc hcm n hn).mono ?_
  exact fun e w' h => Bg.ret (l := 1) hB hX hx h
theorem bag_second {own : Nat → Nat} {l : Nat} (h : BagAt w own l g s) (p : Pkt) (sp : Bool) (hk : s[1]? = some (p, sp)) :
    Calls Try.prog 19 #[.pointer (some ⟨g, 0, none⟩)] w (NewRet w (.agg #[.int .i64 p.src, .int .i64 p.dst, .string p.bytes])) := by
  have hg1 := World.grownBy_alloc w (.cells #[.int .i64 0, .int .i64 0, .string { data := #[] }] 39) none
  have h1 := h.grown hg1 40
  have hb1 : Blk (w.alloc (.cells #[.int .i64 0, .int .i64 0, .string { data := #[] }] 39)) w.heap.size 39 _ := Blk.new w 39 #[.int .i64 0, .int .i64 0, .string { data := #[] }]
  have H1 := Lib.hid h1; clear h1 h
  have Hb1 := Lib.hid hb1; clear hb1
  go_enter Try.func19, Try.ntmps19
  go_wp2_with fail
  generalize w.alloc (.cells #[.int .i64 0, .int .i64 0, .string { data := #[] }] 39) = W1 at *
  refine (bag_at_yes H1.out 1 p sp hk).mono ?_
  rintro e w' ⟨rfl, hg2⟩
  have hb2 := Hb1.out.grown hg2 (by simp)
  have b0 := hb2.cell 0
  have b1 := hb2.cell 1
  have b2 := hb2.cell 2
  have f0 := hb2.free 0
  have f1 := hb2.free 1
  have f2 := hb2.free 2
  have hbl := hb2.lt
  simp only [List.getElem?_toArray, List.getElem?_cons_zero, List.getElem?_cons_succ] at b0 b1 b2
  have hg := hg1.trans hg2
  clear hb2 Hb1 H1 hg1 hg2
  go_wp2
  refine bodyPost_ret (v := .agg #[.int .i64 p.src, .int .i64 p.dst, .string p.bytes]) ?_ rfl ⟨rfl, ?_⟩
  · simp [results, Try.results19, go_sem, b0, b1, b2, hbl]
  · refine (grown_set (grown_set (grown_set hg ?_ _) ?_ _) ?_ _).trans (World.grownBy_alloc _ _ none) <;> exact Nat.le_refl _
section
variable {w0 w w' : World} {g : Nat} {s : BSt} {X Y : Hold}
theorem bg_second (h : Bg w0 g s X w) (hX : Kept X) (p : Pkt) (sp : Bool) (hk : s[1]? = some (p, sp)) :
    Calls Try.prog 19 #[.pointer (some ⟨g, 0, none⟩)] w (fun e w' => e = .returned (.agg #[.int .i64 p.src, .int .i64 p.dst, .string p.bytes]) ∧ Bg w0 g s X w') := by
  obtain ⟨own, hB, hb, hx⟩ := h
  refine (bag_second hb p sp hk).mono ?_
  rintro e w' ⟨he, hg⟩
  exact ⟨he, Bg.grown ⟨own, hB, hb, hx⟩ hX hg⟩
end
end
end Go.Proofs.Ytiipioifjjemoaa
