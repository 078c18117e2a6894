/- The walk of the statement AdjustWrong. (Written by genwrong22.py.) -/
import Derived.Test.YtgfnggdjjigomaaDoorAdjMadeLaw
import Derived.Test.YtgfnggdjjigomaaDoorAdjMadeW3
namespace Go.Proofs.YtgfnggdjjigomaaDoor
open Go.RowKit

theorem small_info : (Tryd.prog.info? 59).map (·.size) = some 14 := by kernel_rfl
/-- An entry whose third outcome cannot be is not right. -/
theorem right_third (k f : Int) (o : Nat → Oc) (a0 a1 : Int) (hz : zB (o 2) = false) (hw : (o 2).w = 0) : rightE k f o a0 a1 = false := by
  have hr : ∀ n, n ≤ 2 → restB o n = false := fun n hn => by
    cases hq : restB o n with
    | false => rfl
    | true => rw [(restB_iff o n).1 hq 2 (by decide) hn] at hz; cases hz
  have hp : partsN o ≤ 2 := by
    have h2 : partsTo o 2 ≤ 2 := parts_le o 2
    have h3 : partsTo o 3 ≤ 2 := by
      show (if partsTo o 2 = 2 ∧ (o 2).w ≠ 0 then 2 + 1 else partsTo o 2) ≤ 2
      rw [if_neg (fun h => h.2 hw)]; exact h2
    show (if partsTo o 3 = 3 ∧ (o 3).w ≠ 0 then 3 + 1 else partsTo o 3) ≤ 2
    rw [if_neg (fun h => by have := h.1; omega)]; exact h3
  unfold rightE voidB playedB weightedB splitB awardB
  rw [hr 0 (by decide), hr 1 (by decide), hr 2 (by decide), hr _ hp]
  simp

set_option maxRecDepth 100000 in
set_option maxHeartbeats 4000000 in
theorem adjWrong_walk (x : SmE) (hx : x.Ok) (n : Int) (hn : -9223372036854775808 ≤ n ∧ n ≤ 9223372036854775807) (w : World) (hL : LaidS w) :
    Calls Tryd.prog 6 #[.agg (smA x), .int .i64 n] w fun e w' => e = .returned (.bool true) ∧ Below w.heap.size w w' := by
  have hx0 := hx.1
  have hx1 := hx.2.1
  obtain ⟨M, hM⟩ : ∃ M, max n 14 = M := ⟨_, rfl⟩
  have hMb : 14 ≤ M ∧ M ≤ 9223372036854775807 := by omega
  obtain ⟨M2, hM2⟩ : ∃ M, max n 25 = M := ⟨_, rfl⟩
  have hM2b : 25 ≤ M2 := by omega
  obtain ⟨M3, hM3⟩ : ∃ M, min n 0 = M := ⟨_, rfl⟩
  have hM3b : M3 ≤ 0 := by omega
  have HM := Lib.hid (fun W => made_any22 x hx W)
  have hr := made_right22 x hx
  have hok := madeO_ok x hx
  unfold madeC at HM
  have hk : 0 ≤ x.k % 5 ∧ x.k % 5 ≤ 255 := by omega
  have hf : 0 ≤ x.f % 4 ∧ x.f % 4 ≤ 255 := by omega
  generalize x.k % 5 = k at HM hr hk
  generalize x.f % 4 = f at HM hr hf
  generalize madeO x = o at HM hr hok
  generalize madeA0 x = b0 at HM hr
  generalize madeA1 x = b1 at HM hr
  have hokB : ∀ i, i < 4 → OcOk (upd o 2 ⟨1, 0, 0, 0, M, 0⟩ i) := fun i hi => by
    unfold upd
    split
    · unfold OcOk; dsimp only; omega
    · exact hok i hi
  have hrB : rightE k f (upd o 2 ⟨1, 0, 0, 0, M, 0⟩) b0 b1 = false := right_third k f _ b0 b1 (by rw [show upd o 2 ⟨1, 0, 0, 0, M, 0⟩ 2 = ⟨1, 0, 0, 0, M, 0⟩ from rfl]; exact decide_eq_false (fun h => by have h1 : (1 : Int) = 0 := h.1; omega)) rfl
  have hS : ∀ W, LaidS W → Calls Tryd.prog 10 #[.agg (enCells k f (upd o 2 ⟨1, 0, 0, 0, M, 0⟩) b0 b1), .int .u8 0] W _ := fun W hW => sides_wrong _ k f b0 b1 0 _ (enCells_ok _ _ _ _ _) hokB hf hk (Or.inl hrB) W hW
  have HSb := Lib.hid hS
  have HMb := Lib.hid (fun W hW => mean_err _ 0 2 (enCells_ok k f (upd o 2 ⟨1, 0, 0, 0, M, 0⟩) b0 b1).1 (Or.inl rfl) hS W hW)
  have HAb := Lib.hid (fun W hW => award_err _ k f b0 b1 5 2 _ (enCells_ok k f (upd o 2 ⟨1, 0, 0, 0, M, 0⟩) b0 b1) hokB hf hk (Or.inl ⟨rfl, Or.inl hrB⟩) W hW)
  have HSv := Lib.hid (fun W hW => sides_wrong _ k f b0 b1 4 _ (enCells_ok k f o b0 b1) hok hf hk (Or.inr (by decide)) W hW)
  have HAx := Lib.hid (fun W hW => award_err _ k f b0 b1 M2 2 _ (enCells_ok k f o b0 b1) hok hf hk (Or.inl ⟨rfl, Or.inr (Or.inr (by omega))⟩) W hW)
  have HAy := Lib.hid (fun W hW => award_err _ k f b0 b1 M3 2 _ (enCells_ok k f o b0 b1) hok hf hk (Or.inl ⟨rfl, Or.inr (Or.inl (by omega))⟩) W hW)
  have HZ := Lib.hid enC_size
  have HL := Lib.hid hL
  have HSp := Lib.hid spades_any
  have wl : ∀ (L : List Oc) (vul : Int) (A : Option Addr) (m : Nat) (W : World), m = L.length → L.length ≤ 4 → 0 ≤ vul ∧ vul ≤ 255 → (∀ y ∈ L, OcOk y) → Rd W W.heap.size 6 A m (ocC L) → LaidS W → wOk L vul = false →
      Calls Tryd.prog 20 #[.slice A m m, .int .u8 vul] W fun e w' => e = .returned (.tuple #[.slice none 0 0, .int .i64 2]) ∧ Below W.heap.size W w' := fun L vul A m W hm hl hv ho hrd hLW hno =>
    (weight_n L vul A m m hm W (by omega) hv ho hrd hLW).mono fun e w' hres => by
      rcases hres with ⟨-, he, hb⟩ | ⟨hy, -⟩
      · exact ⟨he, hb⟩
      · rw [hno] at hy; cases hy
  have HWl := Lib.hid wl
  clear hL hS wl hr hok hokB hrB hx hx0 hx1 hk hf
  go_enter Tryd.func6, Tryd.ntmps6
  go_upto_region 1 with fail
  obtain ⟨W0, hW0⟩ : ∃ W0, w.alloc (.cells (smA x) 59) = W0 := ⟨_, rfl⟩
  obtain ⟨g0, hg0⟩ : ∃ g, w.heap.size = g := ⟨_, rfl⟩
  have K0 := Lib.hid (show W0.heap[g0]? = some (.cells (smA x) 59) by rw [← hW0]; exact blk_new _ hg0.symm)
  have hB0 : Below w.heap.size w W0 := by rw [← hW0]; exact (by repeat (first | exact Below.refl _ _ | assumption | refine Below.drew ?_ | refine below_drewN ?_ _ | refine Below.alloc ?_ (by first | omega | (simp; done) | (simp; omega)) _ | refine Below.setCell ?_ (by first | omega | (simp; done) | (simp; omega)) _))
  rw [hW0, hg0]
  clear hW0 hg0
  go_wp2_with (refine wpList_load_row rfl 59 (.tmp 2) rfl g0 rfl 59 (smA x) _ _ K0.out Tryd.underlying59 rfl small_info ?_)
  refine (HM.out _).mono ?_
  rintro ee w1 ⟨rfl, hb1⟩
  have hB1 := below_via hB0 hb1
  clear hb1 hB0 HM K0
  go_upto_region 2 with (refine wpList_store_new rfl 29 _ _ rfl (enCells k f o b0 b1) _ _ rfl rfl (HZ.out _ _ _ _ _) rfl (enCells_one _ _ _ _ _) ?_)
  obtain ⟨W1, hW1⟩ : ∃ W0, w1.alloc (.cells (enCells k f o b0 b1) 29) = W0 := ⟨_, rfl⟩
  obtain ⟨g5, hg5⟩ : ∃ g, w1.heap.size = g := ⟨_, rfl⟩
  have K5 := Lib.hid (show W1.heap[g5]? = some (.cells (enCells k f o b0 b1) 29) by rw [← hW1]; exact blk_new _ hg5.symm)
  have hB2 : Below w.heap.size w W1 := by rw [← hW1]; exact hB1.alloc hB1.size _
  rw [hW1, hg5]
  clear hW1 hg5 hB1
  go_upto_region 3 with (first | (refine wpList_load_row rfl 29 (.tmp 5) rfl g5 rfl 29 (enCells k f o b0 b1) _ _ K5.out Tryd.underlying29 rfl (HZ.out _ _ _ _ _) ?_) | (refine wpList_store_new rfl 29 _ _ rfl (enCells k f o b0 b1) _ _ rfl rfl (HZ.out _ _ _ _ _) rfl (enCells_one _ _ _ _ _) ?_))
  obtain ⟨W2, hW2⟩ : ∃ W0, W1.alloc (.cells (enCells k f o b0 b1) 29) = W0 := ⟨_, rfl⟩
  obtain ⟨g6, hg6⟩ : ∃ g, W1.heap.size = g := ⟨_, rfl⟩
  have k6 : W2.heap[g6]? = some (.cells (enCells k f o b0 b1) 29) := by rw [← hW2]; exact blk_new _ hg6.symm
  have k5 : W2.heap[g5]? = some (.cells (enCells k f o b0 b1) 29) := by rw [← hW2]; exact blk_alloc K5.out _
  have hg56 : g5 ≠ g6 := by have := blk_lt K5.out; omega
  have hgw : w.heap.size ≤ g6 := by rw [← hg6]; exact hB2.size
  have hB3 : Below w.heap.size w W2 := by rw [← hW2]; exact hB2.alloc hB2.size _
  rw [hW2, hg6]
  clear hW2 hg6 hB2 K5
  have KX := six_set k6 2 (by decide) ⟨1, 0, 0, 0, M, 0⟩
  have KY := six_far k5 hg56 (7 + 2 * 6) ⟨1, 0, 0, 0, M, 0⟩
  have hBX := six_below hB3 g6 (7 + 2 * 6) hgw ⟨1, 0, 0, 0, M, 0⟩
  obtain ⟨u0, u1, u2, u3, u4, u5⟩ := (enCells_ok k f o b0 b1).cells k6 2 (by decide)
  have u0 : W2.cell? ⟨g6, 19, none⟩ = some (.int .u8 (o 2).l) := u0
  have u1 : W2.cell? ⟨g6, 20, none⟩ = some (.int .u8 (o 2).d) := u1
  have u2 : W2.cell? ⟨g6, 21, none⟩ = some (.int .u8 (o 2).r) := u2
  have u3 : W2.cell? ⟨g6, 22, none⟩ = some (.int .u8 (o 2).s) := u3
  have u4 : W2.cell? ⟨g6, 23, none⟩ = some (.int .i64 (o 2).t) := u4
  have u5 : W2.cell? ⟨g6, 24, none⟩ = some (.int .i64 (o 2).w) := u5
  have f0 := blk_free k6 19
  have f1 := blk_free k6 20
  have f2 := blk_free k6 21
  have f3 := blk_free k6 22
  have f4 := blk_free k6 23
  have f5 := blk_free k6 24
  simp only [six, Nat.reduceMul, Nat.reduceAdd] at KX KY hBX
  have KX := Lib.hid KX
  have KY := Lib.hid KY
  have HBX := Lib.hid hBX
  clear hBX k5 k6 hB3
  go_upto_region 4 with fail
  obtain ⟨W3, hW3⟩ : ∃ W3, (((((W2.setCell ⟨g6, 19, none⟩ (.int .u8 1)).setCell ⟨g6, 20, none⟩ (.int .u8 0)).setCell ⟨g6, 21, none⟩ (.int .u8 0)).setCell ⟨g6, 22, none⟩ (.int .u8 0)).setCell ⟨g6, 23, none⟩ (.int .i64 M)).setCell ⟨g6, 24, none⟩ (.int .i64 0) = W3 := ⟨_, rfl⟩
  rw [hW3] at KX KY HBX ⊢
  have K6 := KX
  have K5 := KY
  have hB := HBX.out
  clear hW3 u0 u1 u2 u3 u4 u5 f0 f1 f2 f3 f4 f5 KX KY HBX
  go_wp2_with (refine wpList_load_row rfl 29 (.tmp 6) rfl g6 rfl 29 (enCells k f (upd o 2 ⟨1, 0, 0, 0, M, 0⟩) b0 b1) _ _ K6.out Tryd.underlying29 rfl (HZ.out _ _ _ _ _) ?_)
  refine (HSb.out _ (HL.out.go hB)).mono ?_
  rintro ee v0 ⟨rfl, hb⟩
  have hB101 := below_via hB hb
  have K5 := Lib.hid (blk_below K5.out hb (blk_lt K5.out))
  have K6 := Lib.hid (blk_below K6.out hb (blk_lt K6.out))
  clear hb hB
  go_wp2_with (refine wpList_load_row rfl 29 (.tmp 6) rfl g6 rfl 29 (enCells k f (upd o 2 ⟨1, 0, 0, 0, M, 0⟩) b0 b1) _ _ K6.out Tryd.underlying29 rfl (HZ.out _ _ _ _ _) ?_)
  refine (HMb.out _ (HL.out.go hB101)).mono ?_
  rintro ee v1 ⟨rfl, hb⟩
  have hB102 := below_via hB101 hb
  have K5 := Lib.hid (blk_below K5.out hb (blk_lt K5.out))
  have K6 := Lib.hid (blk_below K6.out hb (blk_lt K6.out))
  clear hb hB101
  go_upto_region 6 with fail
  obtain ⟨V3, hV3⟩ : ∃ V, (v1.alloc (.cells #[.int .i64 0, .int .i64 0] 40)).alloc (.cells #[.int .i64 0, .int .i64 0] 40) = V := ⟨_, rfl⟩
  have hb : Below v1.heap.size v1 V3 := by rw [← hV3]; exact (by repeat (first | exact Below.refl _ _ | assumption | refine Below.drew ?_ | refine below_drewN ?_ _ | refine Below.alloc ?_ (by first | omega | (simp; done) | (simp; omega)) _ | refine Below.setCell ?_ (by first | omega | (simp; done) | (simp; omega)) _))
  rw [hV3]
  have hB103 := below_via hB102 hb
  have K5 := Lib.hid (blk_below K5.out hb (blk_lt K5.out))
  have K6 := Lib.hid (blk_below K6.out hb (blk_lt K6.out))
  clear hb hB102 hV3
  go_wp2_with (refine wpList_load_row rfl 29 (.tmp 6) rfl g6 rfl 29 (enCells k f (upd o 2 ⟨1, 0, 0, 0, M, 0⟩) b0 b1) _ _ K6.out Tryd.underlying29 rfl (HZ.out _ _ _ _ _) ?_)
  refine (HAb.out _ (HL.out.go hB103)).mono ?_
  rintro ee v3 ⟨rfl, hb⟩
  have hB104 := below_via hB103 hb
  have K5 := Lib.hid (blk_below K5.out hb (blk_lt K5.out))
  have K6 := Lib.hid (blk_below K6.out hb (blk_lt K6.out))
  clear hb hB103
  go_upto_region 7 with fail
  obtain ⟨V5, hV5⟩ : ∃ V, (v3.alloc (.cells #[.int .i64 0, .int .i64 0] 40)).alloc (.cells #[.int .i64 0, .int .i64 0] 40) = V := ⟨_, rfl⟩
  have hb : Below v3.heap.size v3 V5 := by rw [← hV5]; exact (by repeat (first | exact Below.refl _ _ | assumption | refine Below.drew ?_ | refine below_drewN ?_ _ | refine Below.alloc ?_ (by first | omega | (simp; done) | (simp; omega)) _ | refine Below.setCell ?_ (by first | omega | (simp; done) | (simp; omega)) _))
  rw [hV5]
  have hB105 := below_via hB104 hb
  have K5 := Lib.hid (blk_below K5.out hb (blk_lt K5.out))
  have K6 := Lib.hid (blk_below K6.out hb (blk_lt K6.out))
  clear hb hB104 hV5
  go_wp2_with (refine wpList_load_row rfl 29 (.tmp 5) rfl g5 rfl 29 (enCells k f o b0 b1) _ _ K5.out Tryd.underlying29 rfl (HZ.out _ _ _ _ _) ?_)
  refine (HSv.out _ (HL.out.go hB105)).mono ?_
  rintro ee v5 ⟨rfl, hb⟩
  have hB106 := below_via hB105 hb
  have K5 := Lib.hid (blk_below K5.out hb (blk_lt K5.out))
  have K6 := Lib.hid (blk_below K6.out hb (blk_lt K6.out))
  clear hb hB105
  go_wp2_with fail
  refine (HSp.out _ _ _ _).mono ?_
  rintro ee p6 ⟨rfl, hb⟩
  have hB206 := below_via hB106 hb
  have K5 := Lib.hid (blk_below K5.out hb (blk_lt K5.out))
  have K6 := Lib.hid (blk_below K6.out hb (blk_lt K6.out))
  clear hb hB106
  go_wp2_with fail
  have hb : Below p6.heap.size p6 (p6.alloc (.cells #[.int .u8 4, .int .u8 3, .int .u8 0, .int .u8 0, .int .i64 10, .int .i64 100] 25)) := (Below.refl _ _).alloc (Nat.le_refl _) _
  have hrd := Lib.hid (rd_blk_o (n := 1) (sz := 6) (xs := ocC [⟨4, 3, 0, 0, 10, 100⟩]) (blk_new (w := p6) (.cells #[.int .u8 4, .int .u8 3, .int .u8 0, .int .u8 0, .int .i64 10, .int .i64 100] 25) rfl) 0 rfl (fun j hj => by rw [Nat.zero_add]; simp [ocC]))
  refine (HWl.out [⟨4, 3, 0, 0, 10, 100⟩] 4 _ 1 _ rfl (by decide) (by decide) (fun y hy => by rw [List.mem_singleton.1 hy]; unfold OcOk; decide) hrd.out (HL.out.go (below_via hB206 hb)) (by decide)).mono ?_
  rintro ee v7 ⟨rfl, hb2⟩
  have hb3 := hb.trans (hb2.mono hb.size)
  have hB207 := below_via hB206 hb3
  have K5 := Lib.hid (blk_below K5.out hb3 (blk_lt K5.out))
  have K6 := Lib.hid (blk_below K6.out hb3 (blk_lt K6.out))
  clear hb hb2 hb3 hB206 hrd
  go_wp2_with fail
  refine (HSp.out _ _ _ _).mono ?_
  rintro ee p8 ⟨rfl, hb⟩
  have hB208 := below_via hB207 hb
  have K5 := Lib.hid (blk_below K5.out hb (blk_lt K5.out))
  have K6 := Lib.hid (blk_below K6.out hb (blk_lt K6.out))
  clear hb hB207
  go_wp2_with fail
  have hb : Below p8.heap.size p8 (p8.alloc (.cells #[.int .u8 4, .int .u8 3, .int .u8 0, .int .u8 0, .int .i64 14, .int .i64 100] 25)) := (Below.refl _ _).alloc (Nat.le_refl _) _
  have hrd := Lib.hid (rd_blk_o (n := 1) (sz := 6) (xs := ocC [⟨4, 3, 0, 0, 14, 100⟩]) (blk_new (w := p8) (.cells #[.int .u8 4, .int .u8 3, .int .u8 0, .int .u8 0, .int .i64 14, .int .i64 100] 25) rfl) 0 rfl (fun j hj => by rw [Nat.zero_add]; simp [ocC]))
  refine (HWl.out [⟨4, 3, 0, 0, 14, 100⟩] 0 _ 1 _ rfl (by decide) (by decide) (fun y hy => by rw [List.mem_singleton.1 hy]; unfold OcOk; decide) hrd.out (HL.out.go (below_via hB208 hb)) (by decide)).mono ?_
  rintro ee v9 ⟨rfl, hb2⟩
  have hb3 := hb.trans (hb2.mono hb.size)
  have hB209 := below_via hB208 hb3
  have K5 := Lib.hid (blk_below K5.out hb3 (blk_lt K5.out))
  have K6 := Lib.hid (blk_below K6.out hb3 (blk_lt K6.out))
  clear hb hb2 hb3 hB208 hrd
  go_wp2_with fail
  refine (HSp.out _ _ _ _).mono ?_
  rintro ee p10 ⟨rfl, hb⟩
  have hB210 := below_via hB209 hb
  have K5 := Lib.hid (blk_below K5.out hb (blk_lt K5.out))
  have K6 := Lib.hid (blk_below K6.out hb (blk_lt K6.out))
  clear hb hB209
  go_wp2_with fail
  have hb : Below p10.heap.size p10 (p10.alloc (.cells #[.int .u8 4, .int .u8 3, .int .u8 0, .int .u8 0, .int .i64 10, .int .i64 99] 25)) := (Below.refl _ _).alloc (Nat.le_refl _) _
  have hrd := Lib.hid (rd_blk_o (n := 1) (sz := 6) (xs := ocC [⟨4, 3, 0, 0, 10, 99⟩]) (blk_new (w := p10) (.cells #[.int .u8 4, .int .u8 3, .int .u8 0, .int .u8 0, .int .i64 10, .int .i64 99] 25) rfl) 0 rfl (fun j hj => by rw [Nat.zero_add]; simp [ocC]))
  refine (HWl.out [⟨4, 3, 0, 0, 10, 99⟩] 0 _ 1 _ rfl (by decide) (by decide) (fun y hy => by rw [List.mem_singleton.1 hy]; unfold OcOk; decide) hrd.out (HL.out.go (below_via hB210 hb)) (by decide)).mono ?_
  rintro ee v11 ⟨rfl, hb2⟩
  have hb3 := hb.trans (hb2.mono hb.size)
  have hB211 := below_via hB210 hb3
  have K5 := Lib.hid (blk_below K5.out hb3 (blk_lt K5.out))
  have K6 := Lib.hid (blk_below K6.out hb3 (blk_lt K6.out))
  clear hb hb2 hb3 hB210 hrd
  go_wp2_with fail
  refine (HWl.out [] 0 none 0 _ rfl (by decide) (by decide) (fun y hy => by cases hy) Rd.nil_ (HL.out.go hB211) (by decide)).mono ?_
  rintro ee vn ⟨rfl, hb⟩
  have hB300 := below_via hB211 hb
  have K5 := Lib.hid (blk_below K5.out hb (blk_lt K5.out))
  have K6 := Lib.hid (blk_below K6.out hb (blk_lt K6.out))
  clear hb hB211
  go_wp2_with (refine wpList_load_row rfl 29 (.tmp 5) rfl g5 rfl 29 (enCells k f o b0 b1) _ _ K5.out Tryd.underlying29 rfl (HZ.out _ _ _ _ _) ?_)
  refine (HAx.out _ (HL.out.go hB300)).mono ?_
  rintro ee v12 ⟨rfl, hb⟩
  have hB113 := below_via hB300 hb
  have K5 := Lib.hid (blk_below K5.out hb (blk_lt K5.out))
  have K6 := Lib.hid (blk_below K6.out hb (blk_lt K6.out))
  clear hb hB300
  go_upto_region 13 with fail
  obtain ⟨V14, hV14⟩ : ∃ V, (v12.alloc (.cells #[.int .i64 0, .int .i64 0] 40)).alloc (.cells #[.int .i64 0, .int .i64 0] 40) = V := ⟨_, rfl⟩
  have hb : Below v12.heap.size v12 V14 := by rw [← hV14]; exact (by repeat (first | exact Below.refl _ _ | assumption | refine Below.drew ?_ | refine below_drewN ?_ _ | refine Below.alloc ?_ (by first | omega | (simp; done) | (simp; omega)) _ | refine Below.setCell ?_ (by first | omega | (simp; done) | (simp; omega)) _))
  rw [hV14]
  have hB114 := below_via hB113 hb
  have K5 := Lib.hid (blk_below K5.out hb (blk_lt K5.out))
  have K6 := Lib.hid (blk_below K6.out hb (blk_lt K6.out))
  clear hb hB113 hV14
  go_wp2_with (refine wpList_load_row rfl 29 (.tmp 5) rfl g5 rfl 29 (enCells k f o b0 b1) _ _ K5.out Tryd.underlying29 rfl (HZ.out _ _ _ _ _) ?_)
  refine (HAy.out _ (HL.out.go hB114)).mono ?_
  rintro ee v14 ⟨rfl, hb⟩
  have hB115 := below_via hB114 hb
  have K5 := Lib.hid (blk_below K5.out hb (blk_lt K5.out))
  have K6 := Lib.hid (blk_below K6.out hb (blk_lt K6.out))
  clear hb hB114
  go_upto_region 14 with fail
  obtain ⟨V16, hV16⟩ : ∃ V, (v14.alloc (.cells #[.int .i64 0, .int .i64 0] 40)).alloc (.cells #[.int .i64 0, .int .i64 0] 40) = V := ⟨_, rfl⟩
  have hb : Below v14.heap.size v14 V16 := by rw [← hV16]; exact (by repeat (first | exact Below.refl _ _ | assumption | refine Below.drew ?_ | refine below_drewN ?_ _ | refine Below.alloc ?_ (by first | omega | (simp; done) | (simp; omega)) _ | refine Below.setCell ?_ (by first | omega | (simp; done) | (simp; omega)) _))
  rw [hV16]
  have hB116 := below_via hB115 hb
  have K5 := Lib.hid (blk_below K5.out hb (blk_lt K5.out))
  have K6 := Lib.hid (blk_below K6.out hb (blk_lt K6.out))
  clear hb hB115 hV16
  go_wp2_with fail
  refine (awake22 _ (HL.out.go hB116)).mono ?_
  rintro ee wz ⟨rfl, hbz⟩
  go_wp2
  go_ret
  exact ⟨rfl, below_via hB116 hbz⟩

end Go.Proofs.YtgfnggdjjigomaaDoor
