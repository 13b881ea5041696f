/- The walks of replay.Read and Len, and of the reference's Flat, Read and Len. -/
import Derived.Test.YtihnldhdpiokhaaState08
import Derived.Test.YtihnldhdpiokhaaSkeys05
namespace Go.Proofs.Ytihnldhdpiokhaa
open Go.RowKit
set_option linter.unusedVariables false

/-- open updates and rounds, as they lie -/
structure ArgsAt (w : World) (A : Option Addr) (n : Nat) (os : List Upd) (B : Option Addr) (p : Nat) (rs : List Rnd) : Prop where
  lo : os.length = n
  ho : Rd w 4 A n (ucells os)
  wo : ∀ u ∈ os, UpdWf u
  lr : rs.length = p
  hr : Rd w 3 B p (rcells rs)
  wr : ∀ r ∈ rs, RndWf w r
  len : (flat rs ++ os).length ≤ 1000000
  rl : p ≤ 1000000
section
variable {w w0 w' : World} {A B : Option Addr} {n p : Nat} {os : List Upd} {rs : List Rnd}
theorem ArgsAt.keep (h : ArgsAt w A n os B p rs) (hk : ∀ b, b < w.heap.size → w'.heap[b]? = w.heap[b]?) : ArgsAt w' A n os B p rs :=
  ⟨h.lo, h.ho.keep (fun b _ _ _ hb => hk b hb) (by omega), h.wo, h.lr, h.hr.keep (fun b _ _ _ hb => hk b hb) (by omega), fun r hr => ⟨(h.wr r hr).1, (h.wr r hr).2.1, (h.wr r hr).2.2.1.keep (fun b _ _ _ hb => hk b hb) (by omega), (h.wr r hr).2.2.2⟩, h.len, h.rl⟩
theorem ArgsAt.grown (h : ArgsAt w A n os B p rs) (hg : w.grownBy w' none) : ArgsAt w' A n os B p rs := h.keep fun b hb => hg.block b hb (by simp)
theorem Stb.args {g q : Nat} {m : Vals} {X : Hold} (h : Stb w0 g m q X w) (ha : ArgsAt w0 A n os B p rs) : ArgsAt w A n os B p rs := by
  obtain ⟨own, hB, _⟩ := h
  exact ha.keep fun b hb => hB.below.block b hb
theorem ArgsAt.state (h : ArgsAt w A n os B p rs) (c d : Nat) : Calls Try.prog 19 #[.slice A n c, .slice B p d] w (StateOk w (flat rs ++ os)) := by
  obtain ⟨rfl, h1, h2, rfl, h3, h4, h5, h6⟩ := h
  exact state19 A B c d os rs w h1 h2 h3 h4 h5 h6
theorem read16 (h : ArgsAt w A n os B p rs) (c d : Nat) (key : ByteArray) (hk : key.size ≤ maxLen) (v : Val) (hv : stOf (flat rs ++ os) key = v) :
    Calls Try.prog 16 #[.string key, .slice A n c, .slice B p d] w (NewRet w (.agg #[.int .i64 v.kind, .int .i64 v.n, .string v.s])) := by
  have h0 := (Pre.start w).alloc Kept.none 29 #[.int .i64 0, .int .i64 0, .string { data := #[] }]
  have K0 := Lib.hid (Kept.blk Kept.none 31 (by omega) w.heap.size 29 #[.int .i64 0, .int .i64 0, .string { data := #[] }])
  have hs := (h.grown (World.grownBy_alloc w (.cells #[.int .i64 0, .int .i64 0, .string { data := #[] }] 29) none)).state c d
  obtain ⟨x1, x2, x3⟩ := v
  have Hs := Lib.hid hs; clear hs h
  have Hv := Lib.hid hv; clear hv
  go_enter Try.func16, Try.ntmps16
  go_wp2_with fail
  refine Hs.out.mono ?_
  rintro e w1 ⟨rfl, hst⟩
  have s1 := h0.ofRet K0.out (fun own => hst.toRet 1 own)
  clear hst h0
  rw [show (w.alloc (.cells #[.int .i64 0, .int .i64 0, .string { data := #[] }] 29)).heap.size = w.heap.size + 1 by simp] at s1
  have hwz : (w.alloc (.cells #[.int .i64 0, .int .i64 0, .string { data := #[] }] 29)).heap.size = w.heap.size + 1 := by simp
  rw [hwz]
  clear hwz
  go_wp2_with fail
  refine (stb_get s1 K0.out key hk ⟨x1, x2, x3⟩ Hv.out).mono ?_
  rintro e w2 ⟨rfl, s2⟩
  clear s1
  have bx := s2.blk (fun _ _ h => h.2.2)
  have e0 := bx.cell 0
  have e1 := bx.cell 1
  have e2 := bx.cell 2
  have f0 := bx.free 0
  have f1 := bx.free 1
  have f2 := bx.free 2
  simp only [List.getElem?_toArray, List.getElem?_cons_zero, List.getElem?_cons_succ] at e0 e1 e2
  have Hend := Lib.hid s2.end_
  clear s2 bx
  go_wp2
  refine bodyPost_ret (v := .agg #[.int .i64 x1, .int .i64 x2, .string x3]) (by simp [results, Try.results16, go_sem, e0, e1, e2]) rfl ⟨rfl, ?_⟩
  exact grown_set (grown_set (grown_set Hend.out (Nat.le_refl _) _) (Nat.le_refl _) _) (Nat.le_refl _) _
theorem len23 (h : ArgsAt w A n os B p rs) (c d : Nat) {ks : List ByteArray} (hk : KeysOf (stOf (flat rs ++ os)) ks) (x : Int) (hx : ((ks.length : Nat) : Int) = x) :
    Calls Try.prog 23 #[.slice A n c, .slice B p d] w (fun e w' => e = .returned (.int .i64 x) ∧ w.grownBy w' none) := by
  have Hs := Lib.hid (h.state c d); clear h
  have Hk := Lib.hid hk; have Hx := Lib.hid hx; clear hk hx
  go_enter Try.func23, Try.ntmps23
  go_wp2_with fail
  refine Hs.out.mono ?_
  rintro e w1 ⟨rfl, s1⟩
  go_wp2_with fail
  refine (stb_len s1 Hk.out x Hx.out).mono ?_
  rintro e w2 ⟨rfl, rfl⟩
  have Hend := Lib.hid s1.end_; clear s1
  go_wp2
  go_ret
  exact ⟨rfl, Hend.out⟩
end
end Go.Proofs.Ytihnldhdpiokhaa
