/- slices.Delete of one packet, within the slice's own array. -/
import Derived.Test.YtiipioifjjemoaaBag3
import Derived.Laws.OwnMore
namespace Go.Proofs.Ytiipioifjjemoaa
open Go.RowKit
set_option linter.unusedVariables false

section
variable {P : Program} (w : World)
theorem run_clear2 (t ty e : TypeId) (i : TypeInfo) (z : Value) (ht : P.underlying t = some (.slice e)) (hi : P.info? e = some i) (hz : i.zero = some z)
    (hz1 : ∀ u ∈ z.cells, u.oneCell' = true) (g off n c : Nat) (cur : Array Value) (hg : Blk w g e cur) (hfit : off + n * z.cells.size ≤ cur.size) (hn : 0 < n)
    (hpos : 0 < z.cells.size) :
    ∃ cur' w', (Builtin.clear_ #[t] ty #[.slice (some ⟨g, off, none⟩) n c]).run P w = .ok (.tuple #[]) w' ∧ Blk w' g e cur' ∧ cur'.size = cur.size ∧ w.grownBy w' (some g) ∧
      ∀ j, j < off → cur'[j]? = cur[j]? := by
  have h1 : ∀ u ∈ (Builtin.zeroCells z.cells n).toList, u.oneCell' = true := by
    intro u hu
    unfold Builtin.zeroCells at hu
    simp only [Array.toList_map, List.mem_map] at hu
    obtain ⟨k, _, rfl⟩ := hu
    refine hz1 _ ?_
    rw [getElem!_pos z.cells (k % z.cells.size) (Nat.mod_lt _ hpos)]
    exact Array.getElem_mem _
  have hlen : (Builtin.zeroCells z.cells n).toList.length = n * z.cells.size := by simp [Builtin.zeroCells]
  have hst := run_storeCells_at P g off e (Builtin.zeroCells z.cells n).toList 0 cur w hg (by rw [hlen]; simpa using hfit) h1
  simp only [Nat.add_zero] at hst
  refine ⟨(cur.toList.take off ++ (Builtin.zeroCells z.cells n).toList ++ cur.toList.drop (off + (Builtin.zeroCells z.cells n).toList.length)).toArray,
    w.setRow g (cur.toList.take off ++ (Builtin.zeroCells z.cells n).toList ++ cur.toList.drop (off + (Builtin.zeroCells z.cells n).toList.length)).toArray, ?_, setRow_heap w g cur _ e _ hg, ?_, ⟨rfl, rfl, rfl, by simp, fun k _ hk => setRow_other w g k _ (fun e => hk (by rw [e]))⟩, ?_⟩
  · have hzero : (zeroValue e).run P w = .ok z w := by
      simp [zeroValue, typeInfo, hi, hz]
    obtain ⟨n', rfl⟩ : ∃ n', n = n' + 1 := ⟨n - 1, by omega⟩
    simp [Builtin.clear_, run_underlying ht, hzero, hst]
  · simp only [List.size_toArray, List.length_append, List.length_take, List.length_drop, hlen, Array.length_toList]
    omega
  · intro j hj
    simp only [List.getElem?_toArray]
    rw [List.append_assoc, List.getElem?_append_left (by simp; omega), List.getElem?_take_of_lt hj, Array.getElem?_toList]


theorem wpList_clear1 {w : World} {ops : Array Oper} {rest : List Oper} {o : Oper} {a : Act} {Q : Exit → Act → World → Prop}
    (hg : o.guard = none) (s : Operand) (t : TypeId) (hop : o.op = Op.call { callee := Callee.builtin Builtin.clear, args := #[s], argTypes := #[t] })
    (e : TypeId) (i : TypeInfo) (z : Value) (ht : P.underlying t = some (.slice e)) (hi : P.info? e = some i) (hz : i.zero = some z)
    (hz1 : ∀ u ∈ z.cells, u.oneCell' = true) (hpos : 0 < z.cells.size) (b off n c : Nat) (cur : Array Value) (hn : 0 < n) (hs : a.eval s = .slice (some ⟨b, off, none⟩) n c)
    (hb : Blk w b e cur) (hfit : off + n * z.cells.size ≤ cur.size)
    (hK : ∀ cur' w', Blk w' b e cur' → cur'.size = cur.size → w.grownBy w' (some b) → (∀ j, j < off → cur'[j]? = cur[j]?) → wpList P ops Q rest (a.put o.dst (.tuple #[])) w') : wpList P ops Q (o :: rest) a w := by
  refine wpList_plain hg fun K hK' => ?_
  obtain ⟨cur', w', hrun, r1, r2, r3, r4⟩ := run_clear2 (P := P) w t o.type e i z ht hi hz hz1 b off n c cur hb hfit hn hpos
  unfold Oper.wp
  simp [execOp, hop, resolve, invoke, builtin, hs, hrun, Result.andThen]
  exact hK' _ _ (hK cur' w' r1 r2 r3 r4)

theorem run_fits (t ty e : TypeId) (i : TypeInfo) (size : Nat) (ht : P.underlying t = some (.slice e)) (hi : P.info? e = some i) (hsize : i.size = size)
    (own : Nat → Nat) (k b n c : Nat) (xs : List Value) (hown : OwnS w own k e size (some ⟨b, 0, none⟩) n c xs)
    (A2 : Option Addr) (m c' : Nat) (news : List Value) (hr : Rd w size A2 m news) (h1 : ∀ u ∈ news, u.oneCell' = true) (hroom : n + m ≤ c) :
    ∃ w', (Builtin.append_ #[t, t] ty #[.slice (some ⟨b, 0, none⟩) n c, .slice A2 m c']).run P w = .ok (.slice (some ⟨b, 0, none⟩) (n + m) c) w' ∧
      OwnS w' own k e size (some ⟨b, 0, none⟩) (n + m) c (xs ++ news) ∧ Step k w own w' own := by
  rcases Nat.eq_zero_or_pos m with hm | hm
  · subst hm
    have hn : news = [] := List.eq_nil_of_length_eq_zero (by simpa using hr.1)
    subst hn
    exact ⟨w, run_app0 (P := P) w t ty e i size ht hi hsize _ A2 n c c' hown.le, by simpa using hown, Step.refl _ _ _⟩
  · obtain ⟨b2, off2, rfl, hc⟩ := hr.2 hm
    have hnews : ∀ j u, news[j]? = some u → w.cell? ((⟨b2, off2, none⟩ : Addr).add j) = some u := fun j u hu => by
      rw [add_lit]; exact hc j u hu
    obtain ⟨w', hrun, h2, h3⟩ := run_append_fits (P := P) w 0 t ty e i size ht hi hsize b n c xs hown.owns ⟨b2, off2, none⟩ m c' news hr.1 hnews h1 hroom
    have hob : own b = k := hown.owner b (by simp [Value.ownBlock])
    refine ⟨w', hrun, ?_, (Step.refl k w own).grown h3 (fun q hq => by injection hq with hq; rw [← hq]; exact hob)⟩
    obtain ⟨A', c2, e', hO⟩ := OwnS.of_owns (H := 0) (own := own) (i := k) h2 (fun q hq => by simp [Value.ownBlock] at hq; rw [← hq]; exact hob)
    injection e' with e1 e2 e3
    subst e1; subst e3
    exact hO

theorem step_fits {w : World} {ops : Array Oper} {o : Oper} {a : Act} {K : Act → World → Prop} {Q : Exit → Act → World → Prop} {E : Prop}
    (hg : o.guard = none) (s x : Operand) (t : TypeId) (hop : o.op = Op.call { callee := Callee.builtin Builtin.append, args := #[s, x], argTypes := #[t, t] })
    (e : TypeId) (i : TypeInfo) (size : Nat) (ht : P.underlying t = some (.slice e)) (hi : P.info? e = some i) (hsize : i.size = size)
    (own : Nat → Nat) (k b n c : Nat) (xs : List Value) (hs : a.eval s = .slice (some ⟨b, 0, none⟩) n c) (hown : OwnS w own k e size (some ⟨b, 0, none⟩) n c xs)
    (A2 : Option Addr) (m c' : Nat) (news : List Value) (hx : a.eval x = .slice A2 m c') (hr : Rd w size A2 m news) (h1 : ∀ u ∈ news, u.oneCell' = true) (hroom : n + m ≤ c)
    (hK : ∀ w', OwnS w' own k e size (some ⟨b, 0, none⟩) (n + m) c (xs ++ news) → Step k w own w' own → K (a.put o.dst (.slice (some ⟨b, 0, none⟩) (n + m) c)) w') :
    if Region.wanted o (yielded ops a.tmps) = true then Oper.wp P o a w K Q else E := by
  have hw : Region.wanted o (yielded ops a.tmps) = true := by simp [Region.wanted, hg]
  rw [if_pos hw]
  obtain ⟨w', hrun, r1, r2⟩ := run_fits (P := P) w t o.type e i size ht hi hsize own k b n c xs hown A2 m c' news hr h1 hroom
  unfold Oper.wp
  simp [execOp, hop, resolve, invoke, builtin, hs, hx, hrun, Result.andThen]
  exact hK w' r1 r2
end

theorem OwnS.first {w : World} {own : Nat → Nat} {i e size n c b : Nat} {xs : List Value} (h : OwnS w own i e size (some ⟨b, 0, none⟩) n c xs) {k : Nat} (hk : k ≤ n) : OwnS w own i e size (some ⟨b, 0, none⟩) k c (xs.take (k * size)) := by
  refine ⟨?_, ?_⟩
  · rw [List.length_take, h.1]
    exact Nat.min_eq_left (Nat.mul_le_mul_right _ hk)
  · rcases h.2 with ⟨h0, _⟩ | ⟨g, cur, e1, ho, hb, hnc, hm, hs, ht⟩
    · cases h0
    · refine .inr ⟨g, cur, e1, ho, hb, by omega, hm, hs, ?_⟩
      rw [← ht, List.take_take, Nat.min_eq_left (Nat.mul_le_mul_right _ hk)]

/-- What Delete leaves. -/
def DelOk (j : Nat) (own : Nat → Nat) (w : World) (b n c : Nat) (xs : List Value) (e : Ending) (w' : World) : Prop :=
  e = .returned (.slice (some ⟨b, 0, none⟩) n c) ∧ Step j w own w' own ∧ OwnS w' own j 59 4 (some ⟨b, 0, none⟩) n c xs

theorem del_fin {w w2 w3 : World} {own : Nat → Nat} {j b nn c : Nat} {ys : List Value} {cur cur' : Array Value} (st2 : Step j w own w2 own) (hl : ys.length = nn * 4) (hob : own b = j) (hnc : nn ≤ c) (hcm : c ≤ maxLen) (hs : cur.size = c * 4) (ht : cur.toList.take (nn * 4) = ys)
    (hb3 : Blk w3 b 59 cur') (hs3 : cur'.size = cur.size) (hg3 : w2.grownBy w3 (some b)) (hp3 : ∀ q, q < nn * 4 → cur'[q]? = cur[q]?) : DelOk j own w b nn c ys (.returned (.slice (some ⟨b, 0, none⟩) nn c)) w3 := by
  refine ⟨rfl, st2.grown hg3 (fun q hq => by injection hq with hq; rw [← hq]; exact hob), hl, .inr ⟨b, cur', rfl, hob, hb3, hnc, hcm, hs3.trans hs, ?_⟩⟩
  rw [← ht]
  apply List.ext_getElem?
  intro q
  rw [List.getElem?_take, List.getElem?_take]
  split
  · rename_i h
    rw [Array.getElem?_toList, Array.getElem?_toList]
    exact hp3 q h
  · rfl

set_option maxHeartbeats 2000000 in
set_option maxRecDepth 10000 in
theorem del_raw {w : World} {own : Nat → Nat} {j b n c : Nat} {xs : List Value} (hO : OwnS w own j 59 4 (some ⟨b, 0, none⟩) n c xs) (h1c : ∀ u ∈ xs, u.oneCell' = true) (k : Nat) (hk : k < n) (hn : n ≤ 4096) :
    Calls Try.prog 25 #[.slice (some ⟨b, 0, none⟩) n c, .int .i64 (k : Int), .int .i64 ((k : Int) + 1)] w (DelOk j own w b (n - 1) c (xs.take (k * 4) ++ xs.drop ((k + 1) * 4))) := by
  obtain ⟨i0, hi, hz0, hz1, hz2⟩ := info_parts Try.info59
  have hnc := hO.le
  have hcm := hO.max
  have hxl := hO.len
  have HO := Lib.hid hO
  have hO1 := hO.first (k := k) (by omega)
  have HO1 := Lib.hid hO1; clear hO1
  have hrd := hO.row.rd
  clear hO
  unfold maxLen at hcm
  have hk0 : (0 : Int) ≤ (k : Int) := by omega
  have hkn : (k : Int) < (n : Int) := by omega
  have hkc : (k : Int) ≤ (c : Int) := by omega
  have hk1 : (k : Int) + 1 ≤ (n : Int) := by omega
  have hk2 : (k : Int) + 1 ≤ (c : Int) := by omega
  have hncI : (n : Int) ≤ (c : Int) := by omega
  have hkk : (k : Int) ≤ (k : Int) + 1 := by omega
  have hk10 : (0 : Int) ≤ (k : Int) + 1 := by omega
  have hne : ((k : Int) == (k : Int) + 1) = false := by simp; omega
  go_enter Try.func25, Try.ntmps25
  go_wp2_with fail
  by_cases hck : c = k + 1
  · subst hck
    obtain rfl : n = k + 1 := by omega
    have hdr : xs.drop ((k + 1) * 4) = [] := List.drop_eq_nil_of_le (by rw [hxl]; exact Nat.le_refl _)
    have Hdr := Lib.hid hdr; clear hdr hxl
    go_region_held3 (fun w' => True) (trivial)
     ((refine step_fits rfl (.tmp 22) (.tmp 25) 51 rfl 59 i0 4 Try.underlying51 hi hz1 own j b k (k + 1) (xs.take (k * 4)) (by rfl) (HO1.out.drewN 1) (some ⟨b, 0, none⟩) 0 0 [] (by rfl) (Rd.nil _ _ _) (by simp) (by omega) ?_
       intro w2 hO2 st2
       have HO2 := Lib.hid hO2
       clear hO2
       have Hst2 := Lib.hid st2
       clear st2))
    have HO2 : Hid (OwnS w2 own j 59 4 (some ⟨b, 0, none⟩) k (k + 1) (xs.take (k * 4) ++ xs.drop ((k + 1) * 4))) := by rw [Hdr.out]; exact HO2
    have hO2 := HO2.out
    rcases hO2.2 with ⟨h0, _⟩ | ⟨g', cur, e1, hob, hbb, hnc2, hcm2, hcs, hct⟩
    · cases h0
    injection e1 with e1
    injection e1 with e1
    subst e1
    have hyl := hO2.1
    have Hyl := Lib.hid hyl; clear hyl hO2
    have Hct := Lib.hid hct; clear hct
    have hN0 : (0 : Int) ≤ (k : Int) := by omega
    have hN1 : (k : Int) ≤ (k : Int) + 1 := by omega
    have hN2 : (k : Int) + 1 ≤ ((k + 1 : Nat) : Int) := by omega
    have hN3 : ¬ k + 1 = k := by omega
    have hN4 : (k : Int) ≤ ((k + 1 : Nat) : Int) := by omega
    clear HO2
    go_wp2_with ((with_reducible show wpList _ _ _ ((⟨none, .call _, _, _, _, _⟩ : Oper) :: _) _ _); (refine wpList_clear1 rfl (.tmp 31) 51 rfl 59 i0 (.agg #[.int .i64 0, .int .i64 0, .string ByteArray.empty, .bool false]) Try.underlying51 hi hz0 (by simp [Value.cells, Value.oneCell']) (by simp [Value.cells]) b (k * 4) 1 _ cur (by omega) (by rfl) hbb (by simp [Value.cells]; omega) ?_); intro cur' w3 hb3 hs3 hg3 hp3; have Hp3 := Lib.hid hp3; clear hp3; have Hs3 := Lib.hid hs3; clear hs3)
    go_ret
    exact del_fin (Step.of_drewN (n := 1) Hst2.out) Hyl.out hob hnc2 hcm2 hcs Hct.out hb3 Hs3.out hg3 Hp3.out
  · have hcf : (k : Int) + 1 < (c : Int) := by omega
    have hnews : Rd w 4 (some ⟨b, (k + 1) * 4, none⟩) (n - (k + 1)) (xs.drop ((k + 1) * 4)) := by
      refine ⟨by rw [List.length_drop, hxl, ← Nat.sub_mul], fun hpos => ?_⟩
      obtain ⟨b', off', e, hc⟩ := hrd.2 (by omega)
      injection e with e
      injection e with e1 e2
      subst e1; subst e2
      refine ⟨b, _, rfl, fun q u hq => ?_⟩
      rw [List.getElem?_drop] at hq
      have := hc _ u hq
      simpa using this
    have hone : ∀ u ∈ xs.drop ((k + 1) * 4), u.oneCell' = true := fun u hu => h1c u (List.mem_of_mem_drop hu)
    have Hone := Lib.hid hone; clear hone
    have Hnews := Lib.hid hnews; clear hnews hrd
    go_region_held3 (fun w' => True) (trivial)
     ((refine step_fits rfl (.tmp 22) (.tmp 25) 51 rfl 59 i0 4 Try.underlying51 hi hz1 own j b k c (xs.take (k * 4)) (by rfl) (HO1.out.drewN 1) (some ⟨b, (k + 1) * 4, none⟩) (n - (k + 1)) (c - (k + 1)) (xs.drop ((k + 1) * 4)) (by rfl) (Hnews.out.drewN 1) Hone.out (by omega) ?_
       intro w2 hO2 st2
       have HO2 := Lib.hid hO2
       clear hO2
       have Hst2 := Lib.hid st2
       clear st2))
    obtain ⟨nn, rfl⟩ : ∃ nn, n = nn + 1 := ⟨n - 1, by omega⟩
    rw [show k + (nn + 1 - (k + 1)) = nn by omega] at HO2 ⊢
    rw [show nn + 1 - 1 = nn from rfl]
    have hO2 := HO2.out
    rcases hO2.2 with ⟨h0, _⟩ | ⟨g', cur, e1, hob, hbb, hnc2, hcm2, hcs, hct⟩
    · cases h0
    injection e1 with e1
    injection e1 with e1
    subst e1
    have hyl := hO2.1
    have Hyl := Lib.hid hyl; clear hyl hO2
    have Hct := Lib.hid hct; clear hct
    have hN0 : (0 : Int) ≤ (nn : Int) := by omega
    have hN1 : (nn : Int) ≤ (nn : Int) + 1 := by omega
    have hN2 : (nn : Int) + 1 ≤ (c : Int) := by omega
    have hN3 : ¬ c = nn := by omega
    have hN4 : (nn : Int) ≤ (c : Int) := by omega
    clear HO2
    go_wp2_with ((with_reducible show wpList _ _ _ ((⟨none, .call _, _, _, _, _⟩ : Oper) :: _) _ _); (refine wpList_clear1 rfl (.tmp 31) 51 rfl 59 i0 (.agg #[.int .i64 0, .int .i64 0, .string ByteArray.empty, .bool false]) Try.underlying51 hi hz0 (by simp [Value.cells, Value.oneCell']) (by simp [Value.cells]) b (nn * 4) 1 (c - nn) cur (by omega) (by rfl) hbb (by simp [Value.cells]; omega) ?_); intro cur' w3 hb3 hs3 hg3 hp3; have Hp3 := Lib.hid hp3; clear hp3; have Hs3 := Lib.hid hs3; clear hs3)
    go_ret
    exact del_fin (Step.of_drewN (n := 1) Hst2.out) Hyl.out hob hnc2 hcm2 hcs Hct.out hb3 Hs3.out hg3 Hp3.out
end Go.Proofs.Ytiipioifjjemoaa
