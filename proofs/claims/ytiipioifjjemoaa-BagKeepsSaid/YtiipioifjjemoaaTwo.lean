/- A bag and the reference's, as they stand in a law's walk, with what else is held. -/
import Derived.Test.YtiipioifjjemoaaRBag1
import Derived.Test.YtiipioifjjemoaaRBag2
import Derived.Test.YtiipioifjjemoaaRBag4
import Derived.Test.YtiipioifjjemoaaRBag5
namespace Go.Proofs.Ytiipioifjjemoaa
open Go.RowKit
set_option linter.unusedVariables false

/-- Since w0 nothing that was there has changed; the bag at g stands as s, the reference's at r as t; X is held. -/
def Two (w0 : World) (g : Nat) (s : BSt) (r : Nat) (t : BSt) (X : Hold) (w : World) : Prop := ∃ own, Base w0.heap.size w0 w own ∧ BagAt w own 1 g s ∧ RBagAt w own 2 r t ∧ X w own

theorem base_oRow {w0 w : World} {own : Nat → Nat} (hB : Base w0.heap.size w0 w own) {size n : Nat} {A : Option Addr} {xs : List Value} (h : Rd w0 size A n xs) (hs : 0 < size) : ORow w own 0 size A n xs := ⟨h.1, fun hn => by
  obtain ⟨b, off, e, hc⟩ := h.2 hn
  have hl : 0 < xs.length := by rw [h.1]; exact Nat.mul_pos hn hs
  have hb := World.block_lt_of_cell? w0 _ (hc 0 _ (List.getElem?_eq_getElem hl))
  exact ⟨b, off, e, Nat.lt_of_lt_of_le hb hB.size, hB.own b hb, fun q u hq => (World.cell?_of_block (w := w0) (hB.below.block b hb)).trans (hc q u hq)⟩⟩

section
variable {w0 w w' : World} {g r : Nat} {s t : BSt} {X Y : Hold}
theorem Two.grown (h : Two w0 g s r t X w) (hX : Kept X) (hg : w.grownBy w' none) : Two w0 g s r t X w' := by
  obtain ⟨own, hB, hb, hr, hx⟩ := h
  have st := StepG.of_grown 4 own hg 40
  exact ⟨_, hB.stepG st (by omega), hb.other st (by omega), hr.other st (by omega), hX.step st (by omega) hx⟩
theorem Two.drewN (h : Two w0 g s r t X w) (hX : Kept X) (n : Nat) : Two w0 g s r t X (w.drewN n) := h.grown hX (grown_drewN w n)
theorem Two.weaken (h : Two w0 g s r t X w) (hxy : ∀ w own, X w own → Y w own) : Two w0 g s r t Y w := by
  obtain ⟨own, hB, hb, hr, hx⟩ := h
  exact ⟨own, hB, hb, hr, hxy _ _ hx⟩
theorem Two.alloc (h : Two w0 g s r t X w) (hX : Kept X) (ty : TypeId) (cs : Array Value) : Two w0 g s r t (fun w' own => X w' own ∧ own w.heap.size = 31 ∧ Blk w' w.heap.size ty cs) (w.alloc (.cells cs ty)) := by
  obtain ⟨own, hB, hb, hr, hx⟩ := h
  have st := StepG.of_grown 4 own (World.grownBy_alloc w (.cells cs ty) none) 31
  exact ⟨_, hB.stepG st (by omega), hb.other st (by omega), hr.other st (by omega), hX.step st (by omega) hx, give_new (Nat.le_refl _), Blk.new w ty cs⟩
theorem Two.hold {e size n c : Nat} {xs : List Value} {A : Option Addr} (h : Two w0 g s r t X w) (hX : Kept X) (hn : NewRow e size xs w A n c w') : Two w0 g s r t (fun w' own => X w' own ∧ Row w' own 30 e size A n xs) w' := by
  obtain ⟨own, hB, hb, hr, hx⟩ := h
  have st := StepG.of_grown 4 own hn.grown 30
  exact ⟨_, hB.stepG st (by omega), hb.other st (by omega), hr.other st (by omega), hX.step st (by omega) hx, hn.row own w.heap.size 30 (Nat.le_refl _)⟩
theorem Two.blk {b ty : Nat} {cs : Array Value} (h : Two w0 g s r t X w) (hx : ∀ w own, X w own → Blk w b ty cs) : Blk w b ty cs := by
  obtain ⟨own, hB, hb, hr, h3⟩ := h
  exact hx _ _ h3
theorem Two.rd {j size n e : Nat} {A : Option Addr} {xs : List Value} (h : Two w0 g s r t X w) (hx : ∀ w own, X w own → Row w own j e size A n xs) : Rd w size A n xs := by
  obtain ⟨own, hB, hb, hr, h3⟩ := h
  exact (hx _ _ h3).rd
theorem Two.old {size n : Nat} {A : Option Addr} {xs : List Value} (h : Two w0 g s r t X w) (hr : Rd w0 size A n xs) (hs : 0 < size) : Rd w size A n xs := by
  obtain ⟨own, hB, _⟩ := h
  exact (base_oRow hB hr hs).rd
theorem Two.refs (h : Two w0 g s r t X w) : ∃ A c A2 c2, Blk w r 29 #[.slice A t.length c, .slice A2 t.length c2] ∧ Rd w 3 A t.length (pks t) := by
  obtain ⟨own, hB, hb, hr, h3⟩ := h
  obtain ⟨ho, hl, A, c, A2, c2, hb, hr, hr2, _⟩ := hr
  exact ⟨A, c, A2, c2, hb, hr.rd⟩
theorem Two.end_ (h : Two w0 g s r t X w) : w0.grownBy w none := by
  obtain ⟨own, hB, _⟩ := h
  exact base_end hB rfl
theorem Two.ret1 {v : Value} {s' : BSt} {e : Ending} {own : Nat → Nat} (hB : Base w0.heap.size w0 w own) (hr : RBagAt w own 2 r t) (hX : Kept X) (hx : X w own) (h : BagRet 1 own w g v s' e w') : e = .returned v ∧ Two w0 g s' r t X w' := by
  obtain ⟨he, own', st, h'⟩ := h
  exact ⟨he, own', hB.stepG st (by omega), h', hr.other st (by omega), hX.step st (by omega) hx⟩
theorem Two.ret2 {v : Value} {t' : BSt} {e : Ending} {own : Nat → Nat} (hB : Base w0.heap.size w0 w own) (hb : BagAt w own 1 g s) (hX : Kept X) (hx : X w own) (h : RBagRet 2 own w r v t' e w') : e = .returned v ∧ Two w0 g s r t' X w' := by
  obtain ⟨he, own', st, h'⟩ := h
  exact ⟨he, own', hB.stepG st (by omega), hb.other st (by omega), h', hX.step st (by omega) hx⟩
theorem tw_len (h : Two w0 g s r t X w) (n : Int) (hn : (s.length : Int) = n) : Calls Try.prog 14 #[.pointer (some ⟨g, 0, none⟩)] w fun e w' => e = .returned (.int .i64 n) ∧ w = w' := by
  obtain ⟨own, hB, hb, hr, hx⟩ := h
  exact bag_len hb n hn
theorem tw_all (h : Two w0 g s r t X w) : Calls Try.prog 12 #[.pointer (some ⟨g, 0, none⟩)] w (AllOk s w) := by
  obtain ⟨own, hB, hb, hr, hx⟩ := h
  exact all19 hb
theorem tw_at_no (h : Two w0 g s r t X w) (hX : Kept X) (x : Int) (hxn : x < 0 ∨ (s.length : Int) ≤ x) :
    Calls Try.prog 13 #[.pointer (some ⟨g, 0, none⟩), .int .i64 x] w (fun e w' => e = .returned (.tuple #[.agg #[.int .i64 0, .int .i64 0, .string ByteArray.empty], .bool false]) ∧ Two w0 g s r t X w') := by
  obtain ⟨own, hB, hb, hr, hx⟩ := h
  refine (bag_at_no hb x hxn).mono ?_
  rintro e w' ⟨he, hg⟩
  exact ⟨he, Two.grown ⟨own, hB, hb, hr, hx⟩ hX hg⟩
theorem tw_twice (h : Two w0 g s r t X w) (hX : Kept X) (x : Int) :
    Calls Try.prog 17 #[.pointer (some ⟨g, 0, none⟩), .int .i64 x] w (fun e w' => e = .returned (.int .i64 (twiceB s x).1) ∧ Two w0 g (twiceB s x).2 r t X w') := by
  obtain ⟨own, hB, hb, hr, hx⟩ := h
  by_cases h1 : x < 0 ∨ (s.length : Int) ≤ x
  · rw [show twiceB s x = (11, s) by rw [twiceB, if_pos h1]]
    refine (bag_twice_none hb x h1).mono ?_
    rintro e w' ⟨he, rfl⟩
    exact ⟨he, own, hB, hb, hr, hx⟩
  · obtain ⟨k, hk⟩ : ∃ k : Nat, x = (k : Int) := ⟨x.toNat, by omega⟩
    subst hk
    have hkl : k < s.length := by omega
    have h4 : s.length ≤ 4096 := hb.2.1
    by_cases h2 : 4096 ≤ s.length
    · rw [show twiceB s (k : Int) = (7, s) by rw [twiceB, if_neg h1, if_pos h2]]
      refine (bag_twice_full hb k hkl (by omega)).mono ?_
      rintro e w' ⟨he, rfl⟩
      exact ⟨he, own, hB, hb, hr, hx⟩
    · rw [show twiceB s (k : Int) = (0, s ++ [s[k]]) by rw [twiceB, if_neg h1, if_neg h2]; simp [hkl]]
      refine (bag_twice hb k s[k] (by simp [hkl]) (by omega)).mono ?_
      exact fun e w' h => Two.ret1 hB hr hX hx h
theorem tw_rtwice (h : Two w0 g s r t X w) (hX : Kept X) (x : Int) :
    Calls Try.prog 22 #[.pointer (some ⟨r, 0, none⟩), .int .i64 x] w (fun e w' => e = .returned (.int .i64 (twiceB t x).1) ∧ Two w0 g s r (twiceB t x).2 X w') := by
  obtain ⟨own, hB, hb, hr, hx⟩ := h
  by_cases h1 : x < 0 ∨ (t.length : Int) ≤ x
  · rw [show twiceB t x = (11, t) by rw [twiceB, if_pos h1]]
    refine (rbag_twice_none hr x h1).mono ?_
    rintro e w' ⟨he, rfl⟩
    exact ⟨he, own, hB, hb, hr, hx⟩
  · obtain ⟨k, hk⟩ : ∃ k : Nat, x = (k : Int) := ⟨x.toNat, by omega⟩
    subst hk
    have hkl : k < t.length := by omega
    have h4 : t.length ≤ 4096 := hr.2.1
    by_cases h2 : 4096 ≤ t.length
    · rw [show twiceB t (k : Int) = (7, t) by rw [twiceB, if_neg h1, if_pos h2]]
      refine (rbag_twice_full hr k hkl (by omega)).mono ?_
      rintro e w' ⟨he, rfl⟩
      exact ⟨he, own, hB, hb, hr, hx⟩
    · rw [show twiceB t (k : Int) = (0, t ++ [t[k]]) by rw [twiceB, if_neg h1, if_neg h2]; simp [hkl]]
      refine (rbag_twice hr k t[k] (by simp [hkl]) (by omega)).mono ?_
      exact fun e w' h => Two.ret2 hB hb hX hx h
theorem tw_spoil (h : Two w0 g s r t X w) (hX : Kept X) (x bit mask : Int) (hm0 : 0 ≤ mask) (hm1 : mask ≤ 4294967295) (hsz : ∀ q ∈ s, q.1.bytes.size ≤ 1099511627776) :
    Calls Try.prog 18 #[.pointer (some ⟨g, 0, none⟩), .int .i64 x, .int .i64 bit, .int .u32 mask] w (fun e w' => e = .returned (.int .i64 (spoilB s x bit mask).1) ∧ Two w0 g (spoilB s x bit mask).2 r t X w') := by
  obtain ⟨own, hB, hb, hr, hx⟩ := h
  by_cases h1 : x < 0 ∨ (s.length : Int) ≤ x
  · rw [show spoilB s x bit mask = (11, s) by rw [spoilB, if_pos h1]]
    refine (bag_spoil_none hb x bit mask h1).mono ?_
    rintro e w' ⟨he, rfl⟩
    exact ⟨he, own, hB, hb, hr, hx⟩
  · obtain ⟨k, hk⟩ : ∃ k : Nat, x = (k : Int) := ⟨x.toNat, by omega⟩
    subst hk
    have hkl : k < s.length := by omega
    obtain ⟨p, sp, hk⟩ : ∃ p sp, s[k]? = some (p, sp) := ⟨s[k].1, s[k].2, by simp [hkl]⟩
    cases sp with
    | true =>
      rw [show spoilB s (k : Int) bit mask = (12, s) by rw [spoilB, if_neg h1]; simp [hk]]
      refine (bag_spoil_twice hb k p bit mask hk).mono ?_
      rintro e w' ⟨he, rfl⟩
      exact ⟨he, own, hB, hb, hr, hx⟩
    | false =>
      rw [show spoilB s (k : Int) bit mask = (0, s.set k ({ p with bytes := spoilt p.bytes bit mask }, true)) by rw [spoilB, if_neg h1]; simp [hk]]
      refine (bag_spoil hb k p bit mask hk hm0 hm1 (hsz _ (List.mem_of_getElem? hk))).mono ?_
      exact fun e w' h => Two.ret1 hB hr hX hx h
theorem tw_rspoil (h : Two w0 g s r t X w) (hX : Kept X) (x bit mask : Int) (hm0 : 0 ≤ mask) (hm1 : mask ≤ 4294967295) (hsz : ∀ q ∈ t, q.1.bytes.size ≤ 1099511627776) :
    Calls Try.prog 23 #[.pointer (some ⟨r, 0, none⟩), .int .i64 x, .int .i64 bit, .int .u32 mask] w (fun e w' => e = .returned (.int .i64 (spoilB t x bit mask).1) ∧ Two w0 g s r (spoilB t x bit mask).2 X w') := by
  obtain ⟨own, hB, hb, hr, hx⟩ := h
  by_cases h1 : x < 0 ∨ (t.length : Int) ≤ x
  · rw [show spoilB t x bit mask = (11, t) by rw [spoilB, if_pos h1]]
    refine (rbag_spoil_none hr x bit mask h1).mono ?_
    rintro e w' ⟨he, rfl⟩
    exact ⟨he, own, hB, hb, hr, hx⟩
  · obtain ⟨k, hk⟩ : ∃ k : Nat, x = (k : Int) := ⟨x.toNat, by omega⟩
    subst hk
    have hkl : k < t.length := by omega
    obtain ⟨p, sp, hk⟩ : ∃ p sp, t[k]? = some (p, sp) := ⟨t[k].1, t[k].2, by simp [hkl]⟩
    cases sp with
    | true =>
      rw [show spoilB t (k : Int) bit mask = (12, t) by rw [spoilB, if_neg h1]; simp [hk]]
      refine (rbag_spoil_twice hr k p bit mask hk).mono ?_
      rintro e w' ⟨he, rfl⟩
      exact ⟨he, own, hB, hb, hr, hx⟩
    | false =>
      rw [show spoilB t (k : Int) bit mask = (0, t.set k ({ p with bytes := spoilt p.bytes bit mask }, true)) by rw [spoilB, if_neg h1]; simp [hk]]
      refine (rbag_spoil hr k p bit mask hk hm0 hm1 (hsz _ (List.mem_of_getElem? hk))).mono ?_
      exact fun e w' h => Two.ret2 hB hb hX hx h
/-- what Take answers, and what stands behind it -/
def takeP (s : BSt) (x : Int) : Pkt × Bool := if x < 0 ∨ (s.length : Int) ≤ x then (Pkt.zero, false) else (((s[x.toNat]?).getD (Pkt.zero, false)).1, true)
def takeS (s : BSt) (x : Int) : BSt := if x < 0 ∨ (s.length : Int) ≤ x then s else s.take x.toNat ++ s.drop (x.toNat + 1)
theorem tw_take (h : Two w0 g s r t X w) (hX : Kept X) (x : Int) :
    Calls Try.prog 16 #[.pointer (some ⟨g, 0, none⟩), .int .i64 x] w (fun e w' => e = .returned (.tuple #[.agg #[.int .i64 (takeP s x).1.src, .int .i64 (takeP s x).1.dst, .string (takeP s x).1.bytes], .bool (takeP s x).2]) ∧ Two w0 g (takeS s x) r t X w') := by
  obtain ⟨own, hB, hb, hr, hx⟩ := h
  by_cases h1 : x < 0 ∨ (s.length : Int) ≤ x
  · rw [show takeP s x = (Pkt.zero, false) by rw [takeP, if_pos h1], show takeS s x = s by rw [takeS, if_pos h1]]
    refine (bag_take_no hb x h1).mono ?_
    rintro e w' ⟨he, hg⟩
    exact ⟨he, Two.grown ⟨own, hB, hb, hr, hx⟩ hX hg⟩
  · obtain ⟨k, hk⟩ : ∃ k : Nat, x = (k : Int) := ⟨x.toNat, by omega⟩
    subst hk
    have hkl : k < s.length := by omega
    obtain ⟨p, sp, hk⟩ : ∃ p sp, s[k]? = some (p, sp) := ⟨s[k].1, s[k].2, by simp [hkl]⟩
    rw [show takeP s (k : Int) = (p, true) by rw [takeP, if_neg h1]; simp [hk], show takeS s (k : Int) = s.take k ++ s.drop (k + 1) by rw [takeS, if_neg h1]; simp]
    refine (bag_take hb k p sp hk).mono ?_
    exact fun e w' h => Two.ret1 hB hr hX hx h
theorem tw_rtake (h : Two w0 g s r t X w) (hX : Kept X) (x : Int) :
    Calls Try.prog 21 #[.pointer (some ⟨r, 0, none⟩), .int .i64 x] w (fun e w' => e = .returned (.tuple #[.agg #[.int .i64 (takeP t x).1.src, .int .i64 (takeP t x).1.dst, .string (takeP t x).1.bytes], .bool (takeP t x).2]) ∧ Two w0 g s r (takeS t x) X w') := by
  obtain ⟨own, hB, hb, hr, hx⟩ := h
  by_cases h1 : x < 0 ∨ (t.length : Int) ≤ x
  · rw [show takeP t x = (Pkt.zero, false) by rw [takeP, if_pos h1], show takeS t x = t by rw [takeS, if_pos h1]]
    refine (rbag_take_no hr x h1).mono ?_
    rintro e w' ⟨he, hg⟩
    exact ⟨he, Two.grown ⟨own, hB, hb, hr, hx⟩ hX hg⟩
  · obtain ⟨k, hk⟩ : ∃ k : Nat, x = (k : Int) := ⟨x.toNat, by omega⟩
    subst hk
    have hkl : k < t.length := by omega
    obtain ⟨p, sp, hk⟩ : ∃ p sp, t[k]? = some (p, sp) := ⟨t[k].1, t[k].2, by simp [hkl]⟩
    rw [show takeP t (k : Int) = (p, true) by rw [takeP, if_neg h1]; simp [hk], show takeS t (k : Int) = t.take k ++ t.drop (k + 1) by rw [takeS, if_neg h1]; simp]
    refine (rbag_take hr k p sp hk).mono ?_
    exact fun e w' h => Two.ret2 hB hb hX hx h
/-- what Add leaves -/
def addN (s : BSt) (ps : List Pkt) : Nat := min ps.length (4096 - s.length)
def addS (s : BSt) (ps : List Pkt) : BSt := s ++ fresh (ps.take (addN s ps))
theorem tw_add (h : Two w0 g s r t X w) (hX : Kept X) (ps : List Pkt) (P : Option Addr) (m cp j : Nat) (hm : ps.length = m) (hj : j / 10 = 3) (hp : ∀ w own, X w own → Row w own j 39 3 P m (pcells ps)) (hpc : m ≤ cp) (hcm : cp ≤ maxLen) :
    Calls Try.prog 15 #[.pointer (some ⟨g, 0, none⟩), .slice P m cp] w (fun e w' => e = .returned (.int .i64 (addN s ps : Int)) ∧ Two w0 g (addS s ps) r t X w') := by
  subst hm
  obtain ⟨own, hB, hb, hr, hx⟩ := h
  refine (bag_add hb ps P cp j (by omega) (hp _ _ hx) hpc hcm (addN s ps) rfl).mono ?_
  exact fun e w' h => Two.ret1 hB hr hX hx h
theorem tw_radd (h : Two w0 g s r t X w) (hX : Kept X) (ps : List Pkt) (P : Option Addr) (m cp : Nat) (hm : ps.length = m) (hp : Rd w0 3 P m (pcells ps)) :
    Calls Try.prog 20 #[.pointer (some ⟨r, 0, none⟩), .slice P m cp] w (fun e w' => e = .returned (.int .i64 (addN t ps : Int)) ∧ Two w0 g s r (addS t ps) X w') := by
  subst hm
  obtain ⟨own, hB, hb, hr, hx⟩ := h
  refine (rbag_add hr ps P cp 0 (by omega) (base_oRow hB hp (by omega)) (addN t ps) rfl).mono ?_
  exact fun e w' h => Two.ret2 hB hb hX hx h
end
end Go.Proofs.Ytiipioifjjemoaa
