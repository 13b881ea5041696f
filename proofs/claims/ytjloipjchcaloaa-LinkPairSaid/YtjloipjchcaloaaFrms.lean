/- The frames of a link: link.Frames and the reference's one give one list. -/
import Derived.Test.YtjloipjchcaloaaMay09
namespace Go.Proofs.Ytjloipjchcaloaa
open Go.RowKit
set_option linter.unusedVariables false

def frs (ep ack : Int) : Nat → List ByteArray → List Frm
  | _, [] => []
  | a, d :: ds => ⟨ep, ((a + 1 : Nat) : Int), ack, d⟩ :: frs ep ack (a + 1) ds
theorem frs_length (ep ack : Int) (ds : List ByteArray) : ∀ a, (frs ep ack a ds).length = ds.length := by
  induction ds with
  | nil => intro a; rfl
  | cons d ds ih => intro a; simp [frs, ih]
theorem frs_get (ep ack : Int) (k : Nat) : ∀ (a : Nat) (ds : List ByteArray) (h : k < ds.length), (frs ep ack a ds)[k]? = some ⟨ep, ((a + k + 1 : Nat) : Int), ack, ds[k]⟩ := by
  induction k with
  | zero =>
    intro a ds h
    cases ds with
    | nil => simp at h
    | cons d ds => simp [frs]
  | succ k ih =>
    intro a ds h
    cases ds with
    | nil => simp at h
    | cons d ds =>
      simp only [frs, List.getElem?_cons_succ, List.getElem_cons_succ]
      rw [ih (a + 1) ds (by simpa using h)]
      congr 3
      omega

/-- the frames that a link has -/
def Lnk.frames (L : Lnk) : List Frm :=
  if L.epoch = 0 then [] else if L.s.ds = [] then [⟨L.epoch, 0, L.r.acked, ByteArray.empty⟩] else frs L.epoch L.r.acked (L.s.sent - L.s.ds.length) L.s.ds

/-- A call hands back frames in new memory. -/
def FramesOk (w : World) (l : List Frm) (e : Ending) (w' : World) : Prop := ∃ A c, e = .returned (.slice A l.length c) ∧ NewRow 78 4 (fcells l) w A l.length c w'

theorem Try.info78 : (Try.prog.info? 78).map (fun i => (i.zero, i.size, i.bytes)) = some (some (.agg #[.int .i64 0, .int .i64 0, .int .i64 0, .string ByteArray.empty]), 4, 40) := by kernel_rfl

theorem frs_take (l : List Frm) (k : Nat) (f : Frm) (h : l[k]? = some f) : fcells (l.take k) ++ [.int .i64 f.epoch, .int .i64 f.seq, .int .i64 f.ack, .string f.data] = fcells (l.take (k + 1)) := by
  rw [List.take_add_one, h, Option.toList_some, fcells_snoc]

set_option maxHeartbeats 4000000 in
set_option maxRecDepth 10000 in
theorem lnk_frames {w : World} {own : Nat → Nat} {l g : Nat} {L : Lnk} (h : LnkAt w own l g L) :
    Calls Try.prog 58 #[.pointer (some ⟨g, 0, none⟩)] w (FramesOk w L.frames) := by
  obtain ⟨i0, hi, hz0, hz1, hz2⟩ := info_parts Try.info78
  have hglt := h.lt
  obtain ⟨ho, he, gs, gr, hb, hs, hr⟩ := h
  obtain ⟨o1, o2, o3, o4, o5, o6⟩ := hs.ok
  have c0 : w.cell? ⟨g, 0, none⟩ = some (.pointer (some ⟨gs, 0, none⟩)) := hb.cell 0
  have c1 : w.cell? ⟨g, 1, none⟩ = some (.pointer (some ⟨gr, 0, none⟩)) := hb.cell 1
  have c2 : w.cell? ⟨g, 2, none⟩ = some (.int .i64 (L.epoch : Int)) := hb.cell 2
  have Hb := Lib.hid hb; clear hb
  obtain ⟨F, hF⟩ : ∃ F, L.frames = F := ⟨_, rfl⟩
  rw [hF]
  unfold Lnk.frames at hF
  go_enter Try.func58, Try.ntmps58
  by_cases h0 : L.epoch = 0
  · rw [if_pos h0] at hF
    subst hF
    have hz : ((L.epoch : Int) == 0) = true := by simpa using h0
    go_wp2
    go_ret
    exact ⟨none, 0, rfl, Nat.le_refl _, Nat.zero_le _, World.grownBy.refl _ _, fun own b0 j _ => Row.nil _ _ _ _ _ _⟩
  · rw [if_neg h0] at hF
    have hz : ((L.epoch : Int) == 0) = false := by simpa using h0
    have HF := Lib.hid hF; clear hF
    go_wp2_with fail
    refine (rcv_ack hr).mono ?_
    rintro e w' ⟨rfl, rfl⟩
    go_wp2_with fail
    refine (snd_pieces hs).mono ?_
    rintro e w1 ⟨P, cp, rfl, hnr⟩
    have st1 : Step 1 w (fun _ => 0) w1 (give (fun _ => 0) w.heap.size 2) := ((Step.refl 1 w (fun _ => 0)).give_ 2).grown hnr.grown (by simp)
    have hp1 := hnr.row (fun _ => 0) w.heap.size 2 (Nat.le_refl _)
    have k2 : w1.cell? ⟨g, 2, none⟩ = some (.int .i64 (L.epoch : Int)) := World.grownBy.cell hnr.grown c2 (by simp)
    clear hnr
    generalize give (fun _ => 0) w.heap.size 2 = og1 at st1 hp1
    go_wp2_with fail
    have hgs0 : g < w.heap.size := hglt
    obtain ⟨n, hn⟩ : ∃ n, L.s.ds.length = n := ⟨_, rfl⟩
    obtain ⟨a, hav⟩ : ∃ a, L.s.sent - L.s.ds.length = a := ⟨_, rfl⟩
    have hcells : L.s.cells = pcs a L.s.ds := by unfold Snd.cells; rw [hav]
    rw [hcells, hn] at hp1
    rw [hn]
    have hF := HF.out
    clear HF
    rw [hav] at hF
    generalize (L.epoch : Int) = ep at k2 c2 hF hz
    generalize (L.r.acked : Int) = ak at hF
    have HF := Lib.hid hF
    clear hF
    go_loopw [3, 25] (fun q v wr => ∃ (k : Nat) (A : Option Addr) (c : Nat) (og : Nat → Nat), k ≤ n ∧ v = .int .i64 k ∧ q = .slice A k c ∧ Step 1 w (fun _ => 0) wr og ∧ OwnS wr og 1 78 4 A k c (fcells ((frs ep ak a L.s.ds).take k)) ∧ Row wr og 2 30 2 P n (pcs a L.s.ds)) (fun _ v _ => n - (intOf v).toNat)
    case atStart => exact ⟨0, none, 0, og1, by omega, rfl, rfl, st1, OwnS.nil _ _ _ _ _, hp1⟩
    case round =>
      clear st1 hp1 k2
      obtain ⟨k, A, c, og, hk, rfl, rfl, st, hO, hp⟩ := hrel
      by_cases hlt : k < n
      · have hkd : k < L.s.ds.length := by omega
        obtain ⟨pb, po, pc, rfl, _, hpb, hpx⟩ := hp.2 (by omega)
        have x0 : wr.cell? ⟨pb, po + k * 2, none⟩ = some (.int .i64 ((a + k + 1 : Nat) : Int)) := (hpb.cell _).trans (hpx _ _ (pcs_seq k a _ hkd))
        have x1 : wr.cell? ⟨pb, po + k * 2 + 1, none⟩ = some (.string L.s.ds[k]) := (hpb.cell _).trans (hpx _ _ (pcs_data k a _ hkd))
        have hfk := frs_get ep ak k a L.s.ds hkd
        have hget : wr.cell? ⟨g, 2, none⟩ = some (.int .i64 ep) := (World.cell?_of_block (w := w) (st.heap g hglt (by decide))).trans c2
        have hgw : g < wr.heap.size := Nat.lt_of_lt_of_le hglt st.size
        clear hpb hpx
        generalize L.s.ds[k] = d at x1 hfk
        generalize ((a + k + 1 : Nat) : Int) = sq at x0 hfk
        have hb1 : Blk (wr.alloc (.cells #[.int .i64 sq, .string d] 30)) wr.heap.size 30 #[.int .i64 sq, .string d] := Blk.new wr 30 _
        have hg1 : (wr.alloc (.cells #[.int .i64 sq, .string d] 30)).cell? ⟨g, 2, none⟩ = some (.int .i64 ep) := (World.cell?_alloc_lt wr _ _ hgw).trans hget
        have st1 := (st.give_ 2).alloc (.cells #[.int .i64 sq, .string d] 30)
        have hO1 := hO.grown (b0 := wr.heap.size) (j := 2) (World.grownBy_alloc wr (.cells #[.int .i64 sq, .string d] 30) none) (Nat.le_refl _)
        have hp1 : Row (wr.alloc (.cells #[.int .i64 sq, .string d] 30)) (give og wr.heap.size 2) 2 30 2 (some ⟨pb, po, none⟩) n (pcs a L.s.ds) := hp.keep fun k hk ho => ⟨Below.heap_alloc _ _ _ hk, by rw [give_old hk]; exact ho⟩
        have hob1 : give og wr.heap.size 2 wr.heap.size = 2 := give_new (Nat.le_refl _)
        have hgl1 : g < (wr.alloc (.cells #[.int .i64 sq, .string d] 30)).heap.size := by simp; omega
        clear st hO hp hget hgw
        generalize give og wr.heap.size 2 = og at st1 hO1 hp1 hob1
        have Hob := Lib.hid hob1; clear hob1
        have HO := Lib.hid hO1; clear hO1
        have Hp := Lib.hid hp1; clear hp1
        have Hst := Lib.hid st1; clear st1
        have Hfk := Lib.hid hfk; clear hfk
        go_wp2_with fail
        clear x0 x1
        generalize hW : wr.alloc (.cells #[.int .i64 sq, .string d] 30) = W at hb1 hg1 HO Hp Hst hgl1 ⊢
        generalize wr.heap.size = bk at hb1 Hob ⊢
        clear hW
        have y0 : W.cell? ⟨bk, 0, none⟩ = some (.int .i64 sq) := hb1.cell 0
        have y1 : W.cell? ⟨bk, 1, none⟩ = some (.string d) := hb1.cell 1
        have ha0 : ∀ o : Obj, (W.alloc o).cell? ⟨bk, 0, none⟩ = some (.int .i64 sq) := fun o => (hb1.alloc o).cell 0
        have ha1 : ∀ o : Obj, (W.alloc o).cell? ⟨bk, 1, none⟩ = some (.string d) := fun o => (hb1.alloc o).cell 1
        have ha2 : ∀ o : Obj, (W.alloc o).cell? ⟨g, 2, none⟩ = some (.int .i64 ep) := fun o => (World.cell?_alloc_lt W _ _ hgl1).trans hg1
        have Hb1 := Lib.hid hb1; clear hb1
        go_region_held3 (fun w' => w'.cell? ⟨g, 2, none⟩ = some (.int .i64 ep) ∧ w'.cell? ⟨bk, 0, none⟩ = some (.int .i64 sq) ∧ w'.cell? ⟨bk, 1, none⟩ = some (.string d)) (first | (go_keep; done) | (refine ⟨?_, ?_, ?_⟩ <;> assumption))
         ((refine step_mine rfl (.tmp 29) (.tmp 40) 87 rfl 78 i0 (.agg #[.int .i64 0, .int .i64 0, .int .i64 0, .string ByteArray.empty]) 4 40 Try.underlying87 hi hz0 hz1 hz2 rfl (by decide) og 1 A k c _ (by rfl) ((HO.out.alloc _).drewN 1) (some ⟨W.heap.size, 0, none⟩) 1 1 [.int .i64 ep, .int .i64 sq, .int .i64 ak, .string d] (by rfl) (Rd.of_blk ((Blk.new W 78 _).drewN 1) (by simp) (fun j u h => by simpa using h)) (by simp [Value.oneCell']) (by unfold maxLen; omega) (by omega) ?_
           intro A2 c2' w2 og2 hO2 st2
           have st12 := (((Step.refl 1 W og).alloc (.cells #[.int .i64 ep, .int .i64 sq, .int .i64 ak, .string d] 78)).drewN 1).trans st2
           have hst2 := Hst.out.trans st12
           have hp2 := Hp.out.step st12 (by omega)
           have k2 : w2.cell? ⟨g, 2, none⟩ = some (.int .i64 ep) := (World.cell?_of_block (w := w) (hst2.heap g hglt (by decide))).trans c2
           have hb2 : Blk w2 bk 30 #[.int .i64 sq, .string d] := Hb1.out.of_eq (st12.heap bk Hb1.out.lt (by rw [Hob.out]; decide))
           have k0 : w2.cell? ⟨bk, 0, none⟩ = some (.int .i64 sq) := hb2.cell 0
           have k1 : w2.cell? ⟨bk, 1, none⟩ = some (.string d) := hb2.cell 1
           clear hb2 st12 st2
           have HO2 := Lib.hid hO2
           clear hO2
           have Hst2 := Lib.hid hst2
           clear hst2
           have Hp2 := Lib.hid hp2
           clear hp2))
        go_wp2
        have hO3 := HO2.out
        rw [frs_take _ _ _ Hfk.out] at hO3
        go_roundw
        case rel => exact ⟨k + 1, A2, c2', og2, by omega, by go_num, rfl, Hst2.out, hO3, Hp2.out⟩
        case measure => simp [intOf]; omega
      · obtain rfl : k = n := by omega
        clear hp
        have hfull : (frs ep ak a L.s.ds).take k = frs ep ak a L.s.ds := List.take_of_length_le (by rw [frs_length]; omega)
        rw [hfull] at hO
        clear hfull
        by_cases hz0' : k = 0
        · have hds : L.s.ds = [] := List.eq_nil_of_length_eq_zero (by omega)
          subst hz0'
          have hF := HF.out
          rw [if_pos hds] at hF
          subst hF
          rw [hds] at hO
          have hget : wr.cell? ⟨g, 2, none⟩ = some (.int .i64 ep) := (World.cell?_of_block (w := w) (st.heap g hglt (by decide))).trans c2
          have HO := Lib.hid hO; clear hO
          have Hst := Lib.hid st; clear st
          go_wp2_with (at_builtin; refine wpList_mine rfl (.tmp 46) (.tmp 53) 87 rfl 78 i0 (.agg #[.int .i64 0, .int .i64 0, .int .i64 0, .string ByteArray.empty]) 4 40 Try.underlying87 hi hz0 hz1 hz2 rfl (by decide) og 1 A 0 c _ (by rfl) (HO.out.alloc _) (some ⟨wr.heap.size, 0, none⟩) 1 1 [.int .i64 ep, .int .i64 0, .int .i64 ak, .string { data := #[] }] (by rfl) (Rd.of_blk (Blk.new wr 78 _) (by simp) (fun j u h => by simpa using h)) (by simp [Value.oneCell']) (by unfold maxLen; omega) (by omega) ?_; intro A2 c2' w2 og2 hO2 st2; have HO2 := Lib.hid hO2; clear hO2; have Hst2 := Lib.hid st2; clear st2)
          go_wp2
          go_ret
          exact ⟨A2, c2', rfl, NewRow.of_mine (Hst.out.trans (((Step.refl 1 wr og).alloc _).trans Hst2.out)) HO2.out⟩
        · have hne : ((k : Int) == 0) = false := by simp; omega
          have hF := HF.out
          rw [if_neg (fun e => hz0' (by rw [← hn, e]; rfl))] at hF
          have hl : (frs ep ak a L.s.ds).length = k := by rw [frs_length, hn]
          have HO := Lib.hid hO; clear hO
          have Hst := Lib.hid st; clear st
          clear HF
          have HF := Lib.hid hF; clear hF
          have Hl := Lib.hid hl; clear hl
          go_wp2
          go_ret
          rw [← HF.out]
          refine ⟨A, c, by rw [Hl.out]; rfl, ?_⟩
          rw [Hl.out]
          exact NewRow.of_mine Hst.out HO.out
end Go.Proofs.Ytjloipjchcaloaa
