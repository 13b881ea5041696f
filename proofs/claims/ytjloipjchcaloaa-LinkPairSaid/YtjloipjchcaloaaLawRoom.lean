/- The walk of ReceiverRoom: for every room and every number it returns true and changes nothing that was there. -/
import Derived.Test.YtjloipjchcaloaaAw11
namespace Go.Proofs.Ytjloipjchcaloaa
open Go.RowKit
set_option linter.unusedVariables false
def mxI (x y : Int) : Int := max x y
def mnI (x y : Int) : Int := min x y
theorem run_max_mxI {P : Program} (ts : Array TypeId) (t : TypeId) (k k' : IntKind) (x y : Int) (w : World) : (Builtin.max_ ts t #[.int k x, .int k' y]).run P w = .ok (.int k (mxI x y)) w := run_max_mx ts t k k' x y w
theorem run_min_mnI {P : Program} (ts : Array TypeId) (t : TypeId) (k k' : IntKind) (x y : Int) (w : World) : (Builtin.min_ ts t #[.int k x, .int k' y]).run P w = .ok (.int k (mnI x y)) w := run_min_mn ts t k k' x y w
attribute [local go_sem ↓] run_max_mxI run_min_mnI

/-- A receiver that the call made itself, at block g, stands as s; nothing that was there when the call began has changed. -/
def AtR (w0 : World) (g : Nat) (s : Rcv) (w : World) : Prop := ∃ own, Step 1 w0 (fun _ => 0) w own ∧ RcvAt w own 1 g s

theorem AtR.grown {w0 w w' : World} {g : Nat} {s : Rcv} (h : AtR w0 g s w) (hg : w.grownBy w' none) : AtR w0 g s w' := by
  obtain ⟨own, st, hs⟩ := h
  exact ⟨give own w.heap.size 0, (st.give_ 0).grown hg (by simp), hs.grown hg (Nat.le_refl _)⟩
theorem AtR.drewN {w0 w : World} {g : Nat} {s : Rcv} (h : AtR w0 g s w) (n : Nat) : AtR w0 g s (w.drewN n) := by
  obtain ⟨own, st, hs⟩ := h
  exact ⟨own, st.drewN n, hs.drewN n⟩
theorem AtR.end_ {w0 w : World} {g : Nat} {s : Rcv} (h : AtR w0 g s w) : w0.grownBy w none := by
  obtain ⟨own, st, _⟩ := h
  exact grown_of_step st (by omega)
theorem AtR.ok {w0 w : World} {g : Nat} {s : Rcv} (h : AtR w0 g s w) : s.Ok := by obtain ⟨_, _, hs⟩ := h; exact hs.ok

def AtRRet (w0 : World) (g : Nat) (v : Value) (s : Rcv) (e : Ending) (w' : World) : Prop := e = .returned v ∧ AtR w0 g s w'

theorem atr_new (room : Int) (w : World) :
    Calls Try.prog 26 #[.int .i64 room] w fun e w' => ∃ g, e = .returned (.pointer (some ⟨g, 0, none⟩)) ∧ AtR w g (Rcv.new room) w' :=
  (rcv_new 1 (fun _ => 0) room w).mono fun e w' ⟨he, own, st, h⟩ => ⟨_, he, own, st, h⟩
theorem atr_hear {w0 w : World} {g : Nat} {s : Rcv} (h : AtR w0 g s w) (seq : Int) (d : ByteArray) (b : Bool) (s' : Rcv) (ha : s.acked ≤ 1125899906842624) (hb : s.takes seq = b) (hs : s.hear seq d = s') :
    Calls Try.prog 30 #[.pointer (some ⟨g, 0, none⟩), .int .i64 seq, .string d] w (AtRRet w0 g (.bool b) s') := by
  obtain ⟨own, st, hs1⟩ := h
  exact (rcv_hear_is hs1 seq d b s' ha hb hs).mono fun e w' ⟨he, own', st', h'⟩ => ⟨he, own', st.trans st', h'⟩
theorem atr_pop {w0 w : World} {g : Nat} {s : Rcv} (h : AtR w0 g s w) (x : ByteArray) (b : Bool) (s' : Rcv) (hx : s.popV = x) (hb : s.popB = b) (hs : s.pop = s') :
    Calls Try.prog 32 #[.pointer (some ⟨g, 0, none⟩)] w (AtRRet w0 g (.tuple #[.string x, .bool b]) s') := by
  obtain ⟨own, st, hs1⟩ := h
  exact (rcv_pop_is hs1 x b s' hx hb hs).mono fun e w' ⟨he, own', st', h'⟩ => ⟨he, own', st.trans st', h'⟩
theorem atr_ack {w0 w : World} {g : Nat} {s : Rcv} (h : AtR w0 g s w) (n : Int) (hn : (s.acked : Int) = n) :
    Calls Try.prog 34 #[.pointer (some ⟨g, 0, none⟩)] w fun e w' => e = .returned (.int .i64 n) ∧ w = w' := by
  subst hn
  obtain ⟨own, st, hs1⟩ := h
  exact rcv_ack hs1
theorem atr_waiting {w0 w : World} {g : Nat} {s : Rcv} (h : AtR w0 g s w) (n : Int) (hn : (s.q.length : Int) = n) :
    Calls Try.prog 35 #[.pointer (some ⟨g, 0, none⟩)] w fun e w' => e = .returned (.int .i64 n) ∧ w = w' := by
  subst hn
  obtain ⟨own, st, hs1⟩ := h
  exact rcv_waiting hs1
theorem atr_look {w0 w : World} {g : Nat} {s : Rcv} (h : AtR w0 g s w) :
    Calls Try.prog 38 #[.pointer (some ⟨g, 0, none⟩)] w (LookOk s.q.length w (s.q.map Value.string)) := by
  obtain ⟨own, st, hs1⟩ := h
  exact rcv_look hs1

/-- k pieces 'x' heard -/
def roomS (Z k : Nat) : Rcv := ⟨Z, k, List.replicate k ⟨#[120]⟩⟩

theorem roomS_take {Z k : Nat} (h : k < Z) : (roomS Z k).takes ((k : Int) + 1) = true ∧ (roomS Z k).hear ((k : Int) + 1) ⟨#[120]⟩ = roomS Z (k + 1) := by
  have ht : (roomS Z k).takes ((k : Int) + 1) = true := by simp [Rcv.takes, roomS]; omega
  refine ⟨ht, ?_⟩
  rw [Rcv.hear, ht]
  simp [roomS, List.replicate_succ']

theorem roomS_full {Z : Nat} (s : Int) (d : ByteArray) : (roomS Z Z).takes s = false ∧ (roomS Z Z).hear s d = roomS Z Z := by
  have ht : (roomS Z Z).takes s = false := by simp [Rcv.takes, roomS]
  exact ⟨ht, by rw [Rcv.hear, ht]; rfl⟩

def roomP (Z : Nat) : Rcv := ⟨Z, Z, List.replicate (Z - 1) ⟨#[120]⟩⟩
def roomY (Z : Nat) : Rcv := ⟨Z, Z + 1, List.replicate (Z - 1) ⟨#[120]⟩ ++ [⟨#[121]⟩]⟩

theorem roomS_pop {Z : Nat} (h : 0 < Z) : (roomS Z Z).popV = ⟨#[120]⟩ ∧ (roomS Z Z).popB = true ∧ (roomS Z Z).pop = roomP Z := by
  obtain ⟨z, rfl⟩ : ∃ z, Z = z + 1 := ⟨Z - 1, by omega⟩
  simp [Rcv.popV, Rcv.popB, Rcv.pop, roomS, roomP, List.replicate_succ]
theorem roomP_take {Z : Nat} (h : 0 < Z) : (roomP Z).takes ((Z : Int) + 1) = true ∧ (roomP Z).hear ((Z : Int) + 1) ⟨#[121]⟩ = roomY Z := by
  have ht : (roomP Z).takes ((Z : Int) + 1) = true := by simp [Rcv.takes, roomP]; omega
  refine ⟨ht, ?_⟩
  rw [Rcv.hear, ht]
  rfl
theorem roomY_full {Z : Nat} (h : 0 < Z) (s : Int) (d : ByteArray) : (roomY Z).takes s = false ∧ (roomY Z).hear s d = roomY Z := by
  have ht : (roomY Z).takes s = false := by
    simp [Rcv.takes, roomY]; omega
  exact ⟨ht, by rw [Rcv.hear, ht]; rfl⟩

set_option maxHeartbeats 1000000 in
set_option maxRecDepth 10000 in
theorem room_bad (room n : Int) (w : World) (h : n < 0 ∨ (0 ≤ n ∧ 100 < n)) : Calls Try.prog 8 #[.int .i64 room, .int .i64 n] w (BoolRet w true) := by
  rcases h with h | ⟨h1, h2⟩
  all_goals
    go_enter Try.func8, Try.ntmps8
    go_wp2_with fail
    refine (atr_new room w).mono ?_
    rintro e w1 ⟨g, rfl, hs⟩
    go_wp2_with fail
    refine (awake11 w1).mono ?_
    rintro e w2 ⟨rfl, hg⟩
    have hs2 := hs.grown hg
    clear hs hg
    go_wp2_with fail
    refine (awake11 w2).mono ?_
    rintro e w3 ⟨rfl, hg⟩
    have hs3 := hs2.grown hg
    clear hs2 hg
    go_wp2
    go_ret
    exact ⟨rfl, hs3.end_⟩

set_option maxHeartbeats 2000000 in
set_option maxRecDepth 10000 in
theorem room_good (room : Int) (n : Nat) (w : World) (hn : n ≤ 100) : Calls Try.prog 8 #[.int .i64 room, .int .i64 n] w (BoolRet w true) := by
  obtain ⟨Z, hZ⟩ : ∃ Z : Nat, (Z : Int) = min (max room 1) 16 := ⟨(min (max room 1) 16).toNat, by omega⟩
  have hZ1 : 1 ≤ Z := by omega
  have hZ16 : Z ≤ 16 := by omega
  have hnew : Rcv.new room = roomS Z 0 := by
    simp only [Rcv.new, roomS, clampR, Rcv.mk.injEq, List.replicate_zero, and_true]
    (repeat' split) <;> omega
  have Hnew := Lib.hid hnew; clear hnew
  have hz' : mnI (mxI room 1) 16 = (Z : Int) := hZ.symm
  have Hpop := Lib.hid (roomS_pop (Z := Z) (by omega))
  have Hy := Lib.hid (roomP_take (Z := Z) (by omega))
  have Hz := Lib.hid (roomY_full (Z := Z) (by omega))
  clear hZ
  go_enter Try.func8, Try.ntmps8
  go_wp2_with fail
  refine (atr_new room w).mono ?_
  rintro e w1 ⟨g, rfl, hs⟩
  rw [Hnew.out] at hs
  go_wp2_with fail
  refine (awake11 w1).mono ?_
  rintro e w2 ⟨rfl, hg⟩
  have hs2 := hs.grown hg
  clear hs hg
  go_wp2_with fail
  clear hz'
  go_loopw [31] (fun v wr => ∃ k : Nat, k ≤ n ∧ k ≤ Z ∧ v = .int .i64 k ∧ AtR w g (roomS Z k) wr) (fun v _ => n - (intOf v).toNat)
  case atStart => exact ⟨0, by omega, by omega, rfl, hs2⟩
  case round =>
    clear hs2
    obtain ⟨k, hk, hkz, rfl, hs⟩ := hrel
    by_cases hlt : k < n
    · by_cases hz : k < Z
      · have hof := roomS_take hz
        have Hof := Lib.hid hof; clear hof
        go_wp2_with fail
        refine (atr_hear hs _ _ _ _ (by simp only [roomS]; omega) Hof.out.1 Hof.out.2).mono ?_
        rintro e w3 ⟨rfl, hs3⟩
        clear hs
        go_wp2_with fail
        go_roundw
        case rel => exact ⟨k + 1, by omega, by omega, by go_num, hs3⟩
        case measure => simp [intOf]; omega
      · obtain rfl : k = Z := by omega
        go_wp2_with fail
        refine (atr_hear hs ((k : Int) + 1) ⟨#[120]⟩ false (roomS k k) (by simp only [roomS]; omega) (roomS_full _ ⟨#[120]⟩).1 (roomS_full _ _).2).mono ?_
        rintro e w3 ⟨rfl, hs3⟩
        clear hs
        have hs := hs3
        clear hs3
        have hmn : mnI (n : Int) (k : Int) = (k : Int) := by unfold mnI; omega
        go_wp2_with fail
        refine (atr_waiting hs (k : Int) (by simp [roomS])).mono ?_
        rintro e w' ⟨rfl, rfl⟩
        go_wp2_with fail
        refine (atr_ack hs (k : Int) rfl).mono ?_
        rintro e w' ⟨rfl, rfl⟩
        go_wp2_with fail
        refine (atr_pop hs _ _ _ Hpop.out.1 Hpop.out.2.1 Hpop.out.2.2).mono ?_
        rintro e w4 ⟨rfl, hs4⟩
        clear hs
        go_wp2_with fail
        refine (atr_hear hs4 _ _ _ _ (by simp only [roomP]; omega) Hy.out.1 Hy.out.2).mono ?_
        rintro e w5 ⟨rfl, hs5⟩
        clear hs4
        go_wp2_with fail
        refine (atr_hear hs5 ((k : Int) + 2) ⟨#[122]⟩ false (roomY k) (by simp only [roomY]; omega) (Hz.out _ ⟨#[122]⟩).1 (Hz.out _ _).2).mono ?_
        rintro e w6 ⟨rfl, hs6⟩
        clear hs5
        go_wp2_with fail
        refine (atr_waiting hs6 (k : Int) (by simp [roomY]; omega)).mono ?_
        rintro e w' ⟨rfl, rfl⟩
        go_wp2
        go_ret
        exact ⟨rfl, hs6.end_⟩
    · obtain rfl : k = n := by omega
      by_cases hz : k < Z
      · have hmn : mnI (k : Int) (Z : Int) = (k : Int) := by unfold mnI; omega
        go_wp2_with fail
        refine (atr_waiting hs (k : Int) (by simp [roomS])).mono ?_
        rintro e w' ⟨rfl, rfl⟩
        go_wp2_with fail
        refine (atr_ack hs (k : Int) rfl).mono ?_
        rintro e w' ⟨rfl, rfl⟩
        go_wp2
        go_ret
        exact ⟨rfl, hs.end_⟩
      · obtain rfl : k = Z := by omega
        have hmn : mnI (k : Int) (k : Int) = (k : Int) := by unfold mnI; omega
        go_wp2_with fail
        refine (atr_waiting hs (k : Int) (by simp [roomS])).mono ?_
        rintro e w' ⟨rfl, rfl⟩
        go_wp2_with fail
        refine (atr_ack hs (k : Int) rfl).mono ?_
        rintro e w' ⟨rfl, rfl⟩
        go_wp2_with fail
        refine (atr_pop hs _ _ _ Hpop.out.1 Hpop.out.2.1 Hpop.out.2.2).mono ?_
        rintro e w4 ⟨rfl, hs4⟩
        clear hs
        go_wp2_with fail
        refine (atr_hear hs4 _ _ _ _ (by simp only [roomP]; omega) Hy.out.1 Hy.out.2).mono ?_
        rintro e w5 ⟨rfl, hs5⟩
        clear hs4
        go_wp2_with fail
        refine (atr_hear hs5 ((k : Int) + 2) ⟨#[122]⟩ false (roomY k) (by simp only [roomY]; omega) (Hz.out _ ⟨#[122]⟩).1 (Hz.out _ _).2).mono ?_
        rintro e w6 ⟨rfl, hs6⟩
        clear hs5
        go_wp2_with fail
        refine (atr_waiting hs6 (k : Int) (by simp [roomY]; omega)).mono ?_
        rintro e w' ⟨rfl, rfl⟩
        go_wp2
        go_ret
        exact ⟨rfl, hs6.end_⟩

theorem room_walk (room n : Int) (w : World) : Calls Try.prog 8 #[.int .i64 room, .int .i64 n] w (BoolRet w true) := by
  by_cases h : n < 0 ∨ (0 ≤ n ∧ 100 < n)
  · exact room_bad room n w h
  · obtain ⟨k, rfl⟩ : ∃ k : Nat, n = (k : Int) := ⟨n.toNat, by omega⟩
    exact room_good room k w (by omega)
end Go.Proofs.Ytjloipjchcaloaa
