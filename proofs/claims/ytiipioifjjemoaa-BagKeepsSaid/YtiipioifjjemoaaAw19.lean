/- awake of layer 19's statements: true; it changes nothing that was there. -/
import Derived.Test.YtiipioifjjemoaaBgs
import Derived.Outline
namespace Go.Proofs.Ytiipioifjjemoaa
open Go.RowKit
set_option linter.unusedVariables false

def PP : Pkt := ⟨1, 0, ⟨#[112]⟩⟩
def PQ : Pkt := ⟨0, 1, ⟨#[113]⟩⟩
def PZ : Pkt := ⟨1, 0, ⟨#[113]⟩⟩
theorem row_of_blk {w : World} {own : Nat → Nat} {b j n : Nat} {cs : Array Value} {xs : List Value} (ho : own b = j) (hb : Blk w b 39 cs) (hl : xs.length = n * 3) (hc : ∀ (i : Nat) (u : Value), xs[i]? = some u → cs[i]? = some u) : Row w own j 39 3 (some ⟨b, 0, none⟩) n xs :=
  ⟨hl, fun _ => ⟨b, 0, cs, rfl, ho, hb, fun i u hu => by rw [Nat.zero_add]; exact hc i u hu⟩⟩
theorem spoil_p : spoilt ⟨#[112]⟩ 0 1 = ⟨#[113]⟩ := by decide +kernel
theorem aw_sp1 : spoilB [(PP, false), (PP, false)] 0 0 1 = (0, [(PZ, true), (PP, false)]) := by
  show (0, [({ PP with bytes := spoilt ⟨#[112]⟩ 0 1 }, true), (PP, false)]) = _
  rw [spoil_p]; rfl
theorem aw_sp2 : spoilB [(PZ, true), (PP, false)] 0 0 1 = (12, [(PZ, true), (PP, false)]) := rfl
theorem aw_sp3 : spoilB [(PZ, true), (PP, false)] 5 0 1 = (11, [(PZ, true), (PP, false)]) := rfl

set_option maxHeartbeats 4000000 in
set_option maxRecDepth 10000 in
theorem awake19 (w : World) : Calls Try.prog 8 #[] w (NewRet w (.bool true)) := by
  go_enter Try.func8, Try.ntmps8
  go_wp2_with fail
  refine (Bg.new w).mono ?_
  rintro e w1 ⟨rfl, h1⟩
  go_wp2_with fail
  have h2 := h1.alloc Kept.none 39 #[.int .i64 1, .int .i64 0, .string ⟨#[112]⟩]
  have K2 := Lib.hid (Kept.blk Kept.none 31 (by omega) w1.heap.size 39 #[.int .i64 1, .int .i64 0, .string ⟨#[112]⟩])
  have h3 := h2.alloc K2.out 39 #[.int .i64 0, .int .i64 1, .string ⟨#[113]⟩]
  rw [show (w1.alloc (.cells #[.int .i64 1, .int .i64 0, .string ⟨#[112]⟩] 39)).heap.size = w1.heap.size + 1 by simp] at h3
  have K3 := Lib.hid (Kept.blk K2.out 31 (by omega) (w1.heap.size + 1) 39 #[.int .i64 0, .int .i64 1, .string ⟨#[113]⟩])
  have h4 := h3.alloc K3.out 39 #[.int .i64 1, .int .i64 0, .string ⟨#[112]⟩, .int .i64 0, .int .i64 1, .string ⟨#[113]⟩]
  rw [show ((w1.alloc (.cells #[.int .i64 1, .int .i64 0, .string ⟨#[112]⟩] 39)).alloc (.cells #[.int .i64 0, .int .i64 1, .string ⟨#[113]⟩] 39)).heap.size = w1.heap.size + 1 + 1 by simp] at h4
  have K4 := Lib.hid (Kept.blk K3.out 31 (by omega) (w1.heap.size + 1 + 1) 39 #[.int .i64 1, .int .i64 0, .string ⟨#[112]⟩, .int .i64 0, .int .i64 1, .string ⟨#[113]⟩])
  clear h1 h2 h3 K2
  refine (bg_add h4 K4.out [PP, PQ] _ 2 2 31 rfl rfl (fun _ _ h => row_of_blk h.2.1 h.2.2 rfl (fun i u hu => by rw [List.getElem?_toArray]; exact hu)) (by omega) (by decide) 2 rfl).mono ?_
  rintro e w5 ⟨rfl, h5⟩
  clear h4
  have h5 := h5.weaken (fun _ _ h => h.1)
  go_wp2_with fail
  refine (bg_twice h5 K3.out 0).mono ?_
  rw [show twiceB ([] ++ fresh (List.take 2 [PP, PQ])) 0 = (0, [(PP, false), (PQ, false), (PP, false)]) from rfl]
  rintro e w6 ⟨rfl, h6⟩
  clear h5
  go_wp2_with fail
  refine (bg_take h6 K3.out 1 1 PQ false rfl rfl).mono ?_
  rintro e w7 ⟨he, h7⟩
  have he : e = .returned (.tuple #[.agg #[.int .i64 0, .int .i64 1, .string ⟨#[113]⟩], .bool true]) := he
  subst he
  clear h6
  have h7 : Bg w w.heap.size [(PP, false), (PP, false)] _ w7 := h7
  have h8 := h7.alloc K3.out 39 #[.int .i64 0, .int .i64 1, .string ⟨#[113]⟩]
  have K8 := Lib.hid (Kept.blk K3.out 31 (by omega) w7.heap.size 39 #[.int .i64 0, .int .i64 1, .string ⟨#[113]⟩])
  have hsm : ∀ q ∈ [(PP, false), (PP, false)], q.1.bytes.size ≤ 1099511627776 := by decide
  have hsm2 : ∀ q ∈ [(PZ, true), (PP, false)], q.1.bytes.size ≤ 1099511627776 := by decide
  have Hsm := Lib.hid hsm; clear hsm
  have Hsm2 := Lib.hid hsm2; clear hsm2
  go_wp2_with fail
  refine (bg_spoil h8 K8.out 0 0 1 (by omega) (by omega) Hsm.out).mono ?_
  rw [aw_sp1]
  rintro e w9 ⟨rfl, h9⟩
  clear h8 h7
  go_wp2_with fail
  refine (bg_spoil h9 K8.out 0 0 1 (by omega) (by omega) Hsm2.out).mono ?_
  rw [aw_sp2]
  rintro e w10 ⟨rfl, h10⟩
  clear h9
  go_wp2_with fail
  refine (bg_spoil h10 K8.out 5 0 1 (by omega) (by omega) Hsm2.out).mono ?_
  rw [aw_sp3]
  rintro e w11 ⟨rfl, h11⟩
  clear h10
  go_wp2_with fail
  refine (bg_at h11 K8.out 0 0 PZ true rfl rfl).mono ?_
  rintro e w12 ⟨he, h12⟩
  have he : e = .returned (.tuple #[.agg #[.int .i64 1, .int .i64 0, .string ⟨#[113]⟩], .bool true]) := he
  subst he
  clear h11
  have h13 := h12.alloc K8.out 39 #[.int .i64 1, .int .i64 0, .string ⟨#[113]⟩]
  have b6 := h12.blk (fun _ _ h => h.2.2)
  have b3 := h12.blk (fun _ _ h => h.1.2.2)
  have l6 := b6.lt
  have l3 := b3.lt
  have c60 := b6.cell 0
  have c61 := b6.cell 1
  have c62 := b6.cell 2
  have c30 := b3.cell 0
  have c31 := b3.cell 1
  have c32 := b3.cell 2
  simp only [List.getElem?_toArray, List.getElem?_cons_zero, List.getElem?_cons_succ] at c60 c61 c62 c30 c31 c32
  have hdr : ∀ n, Bg w w.heap.size _ _ _ := fun n => h13.drewN (Kept.blk K8.out 31 (by omega) w12.heap.size 39 #[.int .i64 1, .int .i64 0, .string ⟨#[113]⟩]) n
  have Hdr := Lib.hid hdr; clear hdr
  have H13 := Lib.hid h13; clear h13 b6 b3
  go_wp2_with fail
  refine (bg_len H13.out 2 rfl).mono ?_
  rintro e w14 ⟨rfl, rfl⟩
  go_wp2
  go_ret
  exact ⟨rfl, H13.out.end_⟩
end Go.Proofs.Ytiipioifjjemoaa
