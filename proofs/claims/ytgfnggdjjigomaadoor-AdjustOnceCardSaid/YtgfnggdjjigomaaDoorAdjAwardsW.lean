/- The walk of the statement AdjustAwards. (Written by genawards.py.) -/
import Derived.Test.YtgfnggdjjigomaaDoorAdjMadeW2
namespace Go.Proofs.YtgfnggdjjigomaaDoor
open Go.RowKit

theorem award_fr (p n : Int) : awardF p n = fr (p * (2 * (n - 1))) 100 := by
  unfold awardF
  have h : fr p 1 = (p, 1) := by unfold fr; simp
  rw [← h, mul_fr p _ 1 100 (by decide) (by decide)]
  rfl
theorem award_both (p n : Int) : addF (awardF p n) (awardF (100 - p) n) = (2 * (n - 1), 1) := by
  rw [award_fr, award_fr, add_frD _ _ _ (by decide), ← Int.add_mul, show p + (100 - p) = 100 by omega, Int.mul_comm]
  exact whole_frD _ 100 (by decide)
theorem award_half (n : Int) : awardF 50 n = (n - 1, 1) := by
  rw [award_fr, show 50 * (2 * (n - 1)) = (n - 1) * 100 by omega]
  exact whole_frD _ 100 (by decide)
theorem award_bd (p n : Int) (hp : 0 ≤ p ∧ p ≤ 100) (hn : 1 ≤ n ∧ n ≤ 24) : 0 ≤ p * (2 * (n - 1)) ∧ p * (2 * (n - 1)) ≤ (2 * (n - 1)) * 100 := by
  have h1 := Int.mul_nonneg hp.1 (show 0 ≤ 2 * (n - 1) by omega)
  have h2 : p * (2 * (n - 1)) ≤ 100 * (2 * (n - 1)) := Int.mul_le_mul_of_nonneg_right hp.2 (by omega)
  omega
theorem award_sm (p n : Int) (hp : 0 ≤ p ∧ p ≤ 100) (hn : 1 ≤ n ∧ n ≤ 24) : smF (awardF p n) := by
  rw [award_fr]
  have := award_bd p n hp hn
  exact sm_frD _ _ (by decide) (by omega)
theorem award_num (p n : Int) (hp : 0 ≤ p ∧ p ≤ 100) (hn : 1 ≤ n ∧ n ≤ 24) : 0 ≤ (awardF p n).1 := by
  rw [award_fr]
  unfold fr
  exact Int.ediv_nonneg (award_bd p n hp hn).1 (Int.natCast_nonneg _)
theorem award_top (p n : Int) (hp : 0 ≤ p ∧ p ≤ 100) (hn : 1 ≤ n ∧ n ≤ 24) : cmpF (awardF p n) (2 * (n - 1), 1) ≤ 0 := by
  rw [award_fr, ← whole_frD (2 * (n - 1)) 100 (by decide), cmp_frD _ _ _ (by decide)]
  have := award_bd p n hp hn
  unfold cmpI
  split
  · decide
  · rw [if_neg (by omega)]; decide
theorem awT_share (i : Int) : shareB (awT i) = true := by unfold awT; (repeat' split) <;> decide
theorem right_award (p q : Int) (hp : shareB p = true) (hq : shareB q = true) : rightE 4 0 ex0 p q = true := by
  have h : restB ex0 0 = true := by decide
  unfold rightE
  rw [if_neg (by decide), if_neg (by decide), if_neg (by decide), if_neg (by decide), if_pos rfl]
  unfold awardB
  rw [hp, hq, h]; rfl
theorem ex0_ok : ∀ i, i < 4 → OcOk (ex0 i) := oo_ok (by unfold OcOk zO; decide) (by unfold OcOk zO; decide)
theorem fshare (p q n : Int) (hp : shareB p = true) (hq : shareB q = true) (hn : 1 ≤ n ∧ n ≤ 24) (w : World) (hL : LaidS w) :
    Calls Tryd.prog 14 #[.agg (enCells 4 0 ex0 p q), .int .i64 n] w fun e w' => e = .returned (.tuple #[fV (awardF p n), fV (awardF q n), .int .i64 0]) ∧ Below w.heap.size w w' :=
  award_some _ 0 p q n ex0 (enCells_ok _ _ _ _ _) ex0_ok (by decide) hn (right_award p q hp hq) w hL
/-- The small numbers of an award. -/
def smAw (a : Int) : SmE := ⟨4, 0, a, fun _ => 0, fun _ => 0, fun _ => 0⟩
theorem smAw_ok (a : Int) (h : 0 ≤ a ∧ a ≤ 255) : (smAw a).Ok := ⟨by show (0 : Int) ≤ 4 ∧ (4 : Int) ≤ 255; decide, by show (0 : Int) ≤ 0 ∧ (0 : Int) ≤ 255; decide, h, fun _ => by show (0 : Int) ≤ 0 ∧ (0 : Int) ≤ 255; decide, fun _ => by show (0 : Int) ≤ 0 ∧ (0 : Int) ≤ 255; decide, fun _ => by show (0 : Int) ≤ 0 ∧ (0 : Int) ≤ 255; decide⟩
def pT (j : Nat) : Int := if j = 0 then 0 else if j = 1 then 30 else if j = 2 then 40 else 50
theorem pT_share (j : Nat) : shareB (pT j) = true ∧ shareB (100 - pT j) = true := by unfold pT; (repeat' split) <;> decide

set_option maxRecDepth 100000 in
set_option maxHeartbeats 4000000 in
theorem adjAwards_walk (a all : Int) (ha : 0 ≤ a ∧ a ≤ 255) (hall : 0 ≤ all ∧ all ≤ 255) (w : World) (hL : LaidS w) :
    Calls Tryd.prog 8 #[.int .u8 a, .int .u8 all] w fun e w' => e = .returned (.bool true) ∧ Below w.heap.size w w' := by
  obtain ⟨n, hn⟩ : ∃ n, 1 + all % 24 = n := ⟨_, rfl⟩
  have hnb : 1 ≤ n ∧ n ≤ 24 := by omega
  have a1 : IntKind.i64.wrap (1 + all % 24) = n := by rw [hn]; exact IntWalk.i64_in _ (by omega)
  obtain ⟨T, hT⟩ : ∃ T, 2 * (n - 1) = T := ⟨_, rfl⟩
  have hTb : 0 ≤ T ∧ T ≤ 46 := by omega
  have a3 : IntKind.i64.wrap (n - 1) = n - 1 := IntWalk.i64_in _ (by omega)
  have a4 : IntKind.i64.wrap (2 * (n - 1)) = T := by rw [hT]; exact IntWalk.i64_in _ (by omega)
  have HL := Lib.hid hL
  have HZ := Lib.hid enC_size
  have HM := Lib.hid (fun W => made_k4 (smAw a) (smAw_ok a ha) rfl W)
  have hmc : madeC (smAw a) = enCells 4 0 ex0 (awT (a % 7)) (awT (a / 7 % 7)) := rfl
  rw [hmc] at HM
  have h0 := awT_share (a % 7)
  have h1 := awT_share (a / 7 % 7)
  generalize awT (a % 7) = p0 at HM h0
  generalize awT (a / 7 % 7) = p1 at HM h1
  have HA0 := Lib.hid (fun W hW => fshare p0 p1 n h0 h1 hnb W hW)
  have HC0 := Lib.hid (fun W => fcmp_sm _ _ (award_sm p0 n (share_bd h0) hnb) (sm_whole T (by omega)) W)
  have HC1 := Lib.hid (fun W => fcmp_sm _ _ (award_sm p1 n (share_bd h1) hnb) (sm_whole T (by omega)) W)
  have hc0 := award_top p0 n (share_bd h0) hnb
  have hc1 := award_top p1 n (share_bd h1) hnb
  have hm0 := award_num p0 n (share_bd h0) hnb
  have hm1 := award_num p1 n (share_bd h1) hnb
  rw [hT] at hc0 hc1
  generalize cmpF (awardF p0 n) (T, 1) = u0 at HC0 hc0
  generalize cmpF (awardF p1 n) (T, 1) = u1 at HC1 hc1
  generalize awardF p0 n = r0 at HA0 HC0 hm0
  generalize awardF p1 n = r1 at HA0 HC1 hm1
  obtain ⟨x0, y0⟩ := r0
  obtain ⟨x1, y1⟩ := r1
  unfold fV at HA0 HC0 HC1
  dsimp only at HA0 HC0 HC1 hm0 hm1
  have A1 := Lib.hid a1
  have A3 := Lib.hid a3
  have A4 := Lib.hid a4
  have HTn := Lib.hid hT
  have HW := Lib.hid (fun W => q22_any T 1 W)
  clear hL hT a1 a3 a4 hmc h0 h1
  go_enter Tryd.func8, Tryd.ntmps8
  have a1 := A1.out
  go_upto_region 2 with fail
  clear a1
  have a3 := A3.out
  have a4 := A4.out
  go_upto_region 3 with fail
  clear a3 a4
  go_wp2_with (refine wpList_build_to rfl 59 _ rfl (smA (smAw a)) (by kernel_rfl) ?_)
  refine (HM.out _).mono ?_
  rintro ee w1 ⟨rfl, hb1⟩
  go_wp2_with fail
  refine (HA0.out _ (HL.out.go hb1)).mono ?_
  rintro ee w2 ⟨rfl, hb2⟩
  have hB2 := below_via hb1 hb2
  go_upto_region 4 with fail
  obtain ⟨W2, hW2⟩ : ∃ W1, (w2.alloc (.cells #[.int .i64 x0, .int .i64 y0] 40)).alloc (.cells #[.int .i64 x1, .int .i64 y1] 40) = W1 := ⟨_, rfl⟩
  obtain ⟨g7, hg7⟩ : ∃ g, w2.heap.size = g := ⟨_, rfl⟩
  have hB3 : Below w.heap.size w W2 := by rw [← hW2]; exact (hB2.alloc hB2.size _).alloc (by have := hB2.size; simp; omega) _
  have N7 := Lib.hid (show W2.heap[g7]? = some (.cells #[.int .i64 x0, .int .i64 y0] 40) by rw [← hW2]; exact blk_alloc (blk_new _ hg7.symm) _)
  have N8 := Lib.hid (show W2.heap[g7 + 1]? = some (.cells #[.int .i64 x1, .int .i64 y1] 40) by rw [← hW2]; exact blk_new _ (by simp; omega))
  rw [hW2, hg7]
  clear hW2 hg7 hb1 hb2 hB2 HM HA0
  go_wp2_with fail
  obtain ⟨W3, hW3⟩ : ∃ W1, W2.alloc (.cells #[.int .i64 0, .int .i64 30, .int .i64 40, .int .i64 50] 3) = W1 := ⟨_, rfl⟩
  obtain ⟨gs, hgs⟩ : ∃ g, W2.heap.size = g := ⟨_, rfl⟩
  have NS := Lib.hid (show W3.heap[gs]? = some (.cells #[.int .i64 0, .int .i64 30, .int .i64 40, .int .i64 50] 3) by rw [← hW3]; exact blk_new _ hgs.symm)
  have N7 := Lib.hid (show W3.heap[g7]? = some (.cells #[.int .i64 x0, .int .i64 y0] 40) by rw [← hW3]; exact blk_alloc N7.out _)
  have N8 := Lib.hid (show W3.heap[g7 + 1]? = some (.cells #[.int .i64 x1, .int .i64 y1] 40) by rw [← hW3]; exact blk_alloc N8.out _)
  have hB4 : Below w.heap.size w W3 := by rw [← hW3]; exact hB3.alloc hB3.size _
  rw [hW3, hgs]
  clear hW3 hgs hB3
  go_loopw [39] (fun i wx => ∃ j : Nat, j ≤ 4 ∧ i = .int .i64 (j : Int) ∧ Below W3.heap.size W3 wx) (fun i _ => 4 - (intOf i).toNat)
  case atStart => exact ⟨0, by omega, rfl, Below.refl _ _⟩
  case round =>
    obtain ⟨j, hj, rfl, hbel⟩ := hrel
    rename World => wx
    have hBx := below_via hB4 hbel
    have sx := hbel.size
    by_cases hlt : j < 4
    · have hcj : wx.cell? ⟨gs, j, none⟩ = some (.int .i64 (pT j)) := by
        rw [blk_cell (blk_below NS.out hbel (blk_lt NS.out))]
        obtain rfl | rfl | rfl | rfl : j = 0 ∨ j = 1 ∨ j = 2 ∨ j = 3 := by omega
        all_goals rfl
      have hps := pT_share j
      generalize pT j = p at hcj hps
      have hpb := share_bd hps.1
      have b1 : IntKind.i64.wrap (100 - p) = 100 - p := IntWalk.i64_in _ (by omega)
      have HA := Lib.hid (fun W hW => fshare p (100 - p) n hps.1 hps.2 hnb W hW)
      have HAd := Lib.hid (fun W => fadd_sm _ _ (award_sm p n hpb hnb) (award_sm (100 - p) n (share_bd hps.2) hnb) W)
      rw [award_both, HTn.out] at HAd
      have Hhalf := Lib.hid (show p = 50 → awardF p n = (n - 1, 1) from fun h => by rw [h]; exact award_half n)
      generalize awardF p n = f at HA HAd Hhalf
      generalize awardF (100 - p) n = g at HA HAd
      obtain ⟨f1, f2⟩ := f
      obtain ⟨g1, g2⟩ := g
      unfold fV at HA HAd
      dsimp only at HA HAd
      have c1 : (0 : Int) ≤ (j : Int) := by omega
      have c2 : (j : Int) < 4 := by omega
      have hLx := Lib.hid (HL.out.go hBx)
      clear hps
      go_wp2_with (first | (refine wpList_build_to rfl 27 _ rfl #[.int .i64 p, .int .i64 (100 - p)] (by kernel_rfl) ?_) | (refine wpList_build_to rfl 29 _ rfl (enCells 4 0 ex0 p (100 - p)) (by kernel_rfl) ?_))
      refine (HA.out _ hLx.out).mono ?_
      rintro ee w4 ⟨rfl, hb4⟩
      go_upto_region 8 with fail
      obtain ⟨W4, hW4⟩ : ∃ W1, (w4.alloc (.cells #[.int .i64 f1, .int .i64 f2] 40)).alloc (.cells #[.int .i64 g1, .int .i64 g2] 40) = W1 := ⟨_, rfl⟩
      obtain ⟨ga, hga⟩ : ∃ g, w4.heap.size = g := ⟨_, rfl⟩
      have hb5 : Below wx.heap.size wx W4 := by rw [← hW4]; exact (hb4.alloc hb4.size _).alloc (by have := hb4.size; simp; omega) _
      have NA := Lib.hid (show W4.heap[ga]? = some (.cells #[.int .i64 f1, .int .i64 f2] 40) by rw [← hW4]; exact blk_alloc (blk_new _ hga.symm) _)
      have NB := Lib.hid (show W4.heap[ga + 1]? = some (.cells #[.int .i64 g1, .int .i64 g2] 40) by rw [← hW4]; exact blk_new _ (by simp; omega))
      rw [hW4, hga]
      clear hW4 hga hb4 hcj b1
      have q0 := blk_cell NA.out 0
      have q1 := blk_cell NA.out 1
      have q2 := blk_cell NB.out 0
      have q3 := blk_cell NB.out 1
      go_wp2_with fail
      refine (HAd.out _).mono ?_
      rintro ee w5 ⟨rfl, hb6⟩
      go_upto_region 9 with fail
      obtain ⟨W5, hW5⟩ : ∃ W1, w5.alloc (.cells #[.int .i64 T, .int .i64 1] 40) = W1 := ⟨_, rfl⟩
      obtain ⟨gc, hgc⟩ : ∃ g, w5.heap.size = g := ⟨_, rfl⟩
      have hb7 : Below W4.heap.size W4 W5 := by rw [← hW5]; exact hb6.alloc hb6.size _
      have NC := Lib.hid (show W5.heap[gc]? = some (.cells #[.int .i64 T, .int .i64 1] 40) by rw [← hW5]; exact blk_new _ hgc.symm)
      have NA := Lib.hid (blk_below NA.out hb7 (blk_lt NA.out))
      rw [hW5, hgc]
      have hb8 : Below W3.heap.size W3 W5 := (hbel.trans (hb5.mono sx)).trans (hb7.mono (by have := hb5.size; omega))
      clear hW5 hgc hb6 hb7 hb5 q0 q1 q2 q3 NB
      have q0 := blk_cell NA.out 0
      have q1 := blk_cell NA.out 1
      have q2 := blk_cell NC.out 0
      have q3 := blk_cell NC.out 1
      have lA := blk_lt NA.out
      have lC := blk_lt NC.out
      have a3 := A3.out
      have hd : Below W5.heap.size W5 W5.drew := (Below.refl _ _).drew
      have HWh := Lib.hid (fun W => q22_any (n - 1) 1 W)
      have HSS := Lib.hid (fun (W : World) (hb : Below W5.heap.size W5 W) => (show W.cell? ⟨gc, 0, none⟩ = some (.int .i64 T) ∧ W.cell? ⟨gc, 1, none⟩ = some (.int .i64 1) ∧ W.cell? ⟨ga, 0, none⟩ = some (.int .i64 f1) ∧ W.cell? ⟨ga, 1, none⟩ = some (.int .i64 f2) from ⟨keepB0 hb lC q2, keepB0 hb lC q3, keepB0 hb lA q0, keepB0 hb lA q1⟩))
      by_cases h50 : p = 50
      · obtain ⟨rfl, rfl⟩ : f1 = n - 1 ∧ f2 = 1 := by have := Hhalf.out h50; injection this with h1 h2; exact ⟨h1, h2⟩
        have t50 : (p == 50) = true := by rw [h50]; rfl
        clear h50
        refine wp_region_held_drew (S := (fun w' => w'.cell? ⟨gc, 0, none⟩ = some (.int .i64 T) ∧ w'.cell? ⟨gc, 1, none⟩ = some (.int .i64 1) ∧ w'.cell? ⟨ga, 0, none⟩ = some (.int .i64 (n - 1)) ∧ w'.cell? ⟨ga, 1, none⟩ = some (.int .i64 1))) (by kernel_rfl) (HSS.out _ hd) (fun hHeld => ?_)
        refine take_named (i := 0) (d := 60) (v := ?va0) rfl (by kernel_rfl) (by kernel_rfl) (by kernel_rfl) (by kernel_rfl) (fun _ _ _ h => h) (Or.inl ⟨by kernel_rfl, ?ya0⟩) (by assumption) ?_
        case ya0 => intro wq hSw; (try dsimp only at hSw); go_simp; (try with_reducible rfl)
        (try simp only [Act.put, List.setIfInBounds_toArray, List.set_cons_zero, List.set_cons_succ])
        refine take_named (i := 1) (d := 61) (v := ?va1) rfl (by kernel_rfl) (by kernel_rfl) (by kernel_rfl) (by kernel_rfl) (fun _ _ _ h => h) (Or.inl ⟨by kernel_rfl, ?ya1⟩) (by assumption) ?_
        case ya1 => intro wq hSw; (try dsimp only at hSw); go_simp; (try with_reducible rfl)
        (try simp only [Act.put, List.setIfInBounds_toArray, List.set_cons_zero, List.set_cons_succ])
        refine take_named (i := 2) (d := 62) (v := ?va2) rfl (by kernel_rfl) (by kernel_rfl) (by kernel_rfl) (by kernel_rfl) (fun _ _ _ h => h) (Or.inl ⟨by kernel_rfl, ?ya2⟩) (by assumption) ?_
        case ya2 => intro wq hSw; (try dsimp only at hSw); go_simp; (try with_reducible rfl)
        (try simp only [Act.put, List.setIfInBounds_toArray, List.set_cons_zero, List.set_cons_succ])
        refine take_named (i := 3) (d := 63) (v := ?va3) rfl (by kernel_rfl) (by kernel_rfl) (by kernel_rfl) (by kernel_rfl) (fun _ _ _ h => h) (Or.inl ⟨by kernel_rfl, ?ya3⟩) (by assumption) ?_
        case ya3 => intro wq hSw; (try dsimp only at hSw); go_simp; (try with_reducible rfl)
        (try simp only [Act.put, List.setIfInBounds_toArray, List.set_cons_zero, List.set_cons_succ])
        refine take_named (i := 4) (d := 64) (v := ?va4) rfl (by kernel_rfl) (by kernel_rfl) (by kernel_rfl) (by kernel_rfl) (fun _ _ _ h => h) (Or.inl ⟨by kernel_rfl, ?ya4⟩) (by assumption) ?_
        case ya4 => intro wq hSw; (try dsimp only at hSw); go_simp; (try with_reducible rfl)
        (try simp only [Act.put, List.setIfInBounds_toArray, List.set_cons_zero, List.set_cons_succ])
        refine take_named (i := 5) (d := 65) (v := ?va5) rfl (by kernel_rfl) (by kernel_rfl) (by kernel_rfl) (by kernel_rfl) (fun _ _ _ h => h) (Or.inl ⟨by kernel_rfl, ?ya5⟩) (by assumption) ?_
        case ya5 => intro wq hSw; (try dsimp only at hSw); go_simp; (try with_reducible rfl)
        (try simp only [Act.put, List.setIfInBounds_toArray, List.set_cons_zero, List.set_cons_succ])
        refine take_named (i := 6) (d := 66) (v := ?va6) rfl (by kernel_rfl) (by kernel_rfl) (by kernel_rfl) (by kernel_rfl) (fun _ _ _ h => h) (Or.inl ⟨by kernel_rfl, ?ya6⟩) (by assumption) ?_
        case ya6 => intro wq hSw; (try dsimp only at hSw); go_simp; (try with_reducible rfl)
        (try simp only [Act.put, List.setIfInBounds_toArray, List.set_cons_zero, List.set_cons_succ])
        refine wpAnyH_ready (rs := [7]) (by kernel_rfl) (by simp) ?_
        refine AllReadyH.cons rfl (fun K hK => ?_) AllReadyH.nil
        go_simp
        refine (HW.out _).mono ?_
        rintro ee wq1 ⟨rfl, hq1⟩
        have hba := hd.trans (hq1.mono hd.size)
        refine hK.out _ _ (HSS.out _ hba) (fun hHeld1 => ?_)
        clear hK K hHeld
        (try simp only [Act.put, List.setIfInBounds_toArray, List.set_cons_zero, List.set_cons_succ])
        refine take_named (i := 8) (d := 68) (v := ?va8) rfl (by kernel_rfl) (by kernel_rfl) (by kernel_rfl) (by kernel_rfl) (fun _ _ _ h => h) (Or.inl ⟨by kernel_rfl, ?ya8⟩) (by assumption) ?_
        case ya8 => intro wq hSw; (try dsimp only at hSw); go_simp; (try with_reducible rfl)
        (try simp only [Act.put, List.setIfInBounds_toArray, List.set_cons_zero, List.set_cons_succ])
        refine take_named (i := 9) (d := 69) (v := ?va9) rfl (by kernel_rfl) (by kernel_rfl) (by kernel_rfl) (by kernel_rfl) (fun _ _ _ h => h) (Or.inl ⟨by kernel_rfl, ?ya9⟩) (by assumption) ?_
        case ya9 => intro wq hSw; (try dsimp only at hSw); go_simp; (try with_reducible rfl)
        (try simp only [Act.put, List.setIfInBounds_toArray, List.set_cons_zero, List.set_cons_succ])
        refine take_named (i := 10) (d := 70) (v := ?va10) rfl (by kernel_rfl) (by kernel_rfl) (by kernel_rfl) (by kernel_rfl) (fun _ _ _ h => h) (Or.inl ⟨by kernel_rfl, ?ya10⟩) (by assumption) ?_
        case ya10 => intro wq hSw; (try dsimp only at hSw); go_simp; (try with_reducible rfl)
        (try simp only [Act.put, List.setIfInBounds_toArray, List.set_cons_zero, List.set_cons_succ])
        refine take_named (i := 11) (d := 71) (v := ?va11) rfl (by kernel_rfl) (by kernel_rfl) (by kernel_rfl) (by kernel_rfl) (fun _ _ _ h => h) (Or.inl ⟨by kernel_rfl, ?ya11⟩) (by assumption) ?_
        case ya11 => intro wq hSw; (try dsimp only at hSw); go_simp; (try with_reducible rfl)
        (try simp only [Act.put, List.setIfInBounds_toArray, List.set_cons_zero, List.set_cons_succ])
        refine take_named (i := 12) (d := 72) (v := ?va12) rfl (by kernel_rfl) (by kernel_rfl) (by kernel_rfl) (by kernel_rfl) (fun _ _ _ h => h) (Or.inl ⟨by kernel_rfl, ?ya12⟩) (by assumption) ?_
        case ya12 => intro wq hSw; (try dsimp only at hSw); go_simp; (try with_reducible rfl)
        (try simp only [Act.put, List.setIfInBounds_toArray, List.set_cons_zero, List.set_cons_succ])
        refine take_named (i := 13) (d := 73) (v := ?va13) rfl (by kernel_rfl) (by kernel_rfl) (by kernel_rfl) (by kernel_rfl) (fun _ _ _ h => h) (Or.inl ⟨by kernel_rfl, ?ya13⟩) (by assumption) ?_
        case ya13 => intro wq hSw; (try dsimp only at hSw); go_simp; (try with_reducible rfl)
        (try simp only [Act.put, List.setIfInBounds_toArray, List.set_cons_zero, List.set_cons_succ])
        refine take_named (i := 14) (d := 74) (v := ?va14) rfl (by kernel_rfl) (by kernel_rfl) (by kernel_rfl) (by kernel_rfl) (fun _ _ _ h => h) (Or.inl ⟨by kernel_rfl, ?ya14⟩) (by assumption) ?_
        case ya14 => intro wq hSw; (try dsimp only at hSw); go_simp; (try with_reducible rfl)
        (try simp only [Act.put, List.setIfInBounds_toArray, List.set_cons_zero, List.set_cons_succ])
        refine take_named (i := 15) (d := 75) (v := ?va15) rfl (by kernel_rfl) (by kernel_rfl) (by kernel_rfl) (by kernel_rfl) (fun _ _ _ h => h) (Or.inl ⟨by kernel_rfl, ?ya15⟩) (by assumption) ?_
        case ya15 => intro wq hSw; (try dsimp only at hSw); go_simp; (try with_reducible rfl)
        (try simp only [Act.put, List.setIfInBounds_toArray, List.set_cons_zero, List.set_cons_succ])
        refine take_named (i := 16) (d := 76) (v := ?va16) rfl (by kernel_rfl) (by kernel_rfl) (by kernel_rfl) (by kernel_rfl) (fun _ _ _ h => h) (Or.inl ⟨by kernel_rfl, ?ya16⟩) (by assumption) ?_
        case ya16 => intro wq hSw; (try dsimp only at hSw); go_simp; (try with_reducible rfl)
        (try simp only [Act.put, List.setIfInBounds_toArray, List.set_cons_zero, List.set_cons_succ])
        refine wpAnyH_ready (rs := [17]) (by kernel_rfl) (by simp) ?_
        refine AllReadyH.cons rfl (fun K hK => ?_) AllReadyH.nil
        go_simp
        refine (HWh.out _).mono ?_
        rintro ee wq2 ⟨rfl, hq2⟩
        have hbb := hba.trans (hq2.mono hba.size)
        refine hK.out _ _ (HSS.out _ hbb) (fun hHeld2 => ?_)
        clear hK K hHeld1
        (try simp only [Act.put, List.setIfInBounds_toArray, List.set_cons_zero, List.set_cons_succ])
        refine take_named (i := 18) (d := 78) (v := ?va18) rfl (by kernel_rfl) (by kernel_rfl) (by kernel_rfl) (by kernel_rfl) (fun _ _ _ h => h) (Or.inl ⟨by kernel_rfl, ?ya18⟩) (by assumption) ?_
        case ya18 => intro wq hSw; (try dsimp only at hSw); go_simp; (try with_reducible rfl)
        (try simp only [Act.put, List.setIfInBounds_toArray, List.set_cons_zero, List.set_cons_succ])
        refine take_named (i := 19) (d := 79) (v := ?va19) rfl (by kernel_rfl) (by kernel_rfl) (by kernel_rfl) (by kernel_rfl) (fun _ _ _ h => h) (Or.inl ⟨by kernel_rfl, ?ya19⟩) (by assumption) ?_
        case ya19 => intro wq hSw; (try dsimp only at hSw); go_simp; (try with_reducible rfl)
        (try simp only [Act.put, List.setIfInBounds_toArray, List.set_cons_zero, List.set_cons_succ])
        refine take_named (i := 20) (d := 80) (v := ?va20) rfl (by kernel_rfl) (by kernel_rfl) (by kernel_rfl) (by kernel_rfl) (fun _ _ _ h => h) (Or.inl ⟨by kernel_rfl, ?ya20⟩) (by assumption) ?_
        case ya20 => intro wq hSw; (try dsimp only at hSw); go_simp; (try with_reducible rfl)
        (try simp only [Act.put, List.setIfInBounds_toArray, List.set_cons_zero, List.set_cons_succ])
        refine wpAnyH_done (by kernel_rfl) ?_ _
        go_wp2
        go_roundw
        case rel => exact ⟨j + 1, by omega, by go_num, hb8.trans (hbb.mono (by have := hb8.size; omega))⟩
        case measure => simp [intOf]; omega
      · have t50 : (p == 50) = false := beq_eq_false_iff_ne.2 h50
        clear h50
        refine wp_region_held_drew (S := (fun w' => w'.cell? ⟨gc, 0, none⟩ = some (.int .i64 T) ∧ w'.cell? ⟨gc, 1, none⟩ = some (.int .i64 1) ∧ w'.cell? ⟨ga, 0, none⟩ = some (.int .i64 f1) ∧ w'.cell? ⟨ga, 1, none⟩ = some (.int .i64 f2))) (by kernel_rfl) (HSS.out _ hd) (fun hHeld => ?_)
        refine take_named (i := 0) (d := 60) (v := ?vb0) rfl (by kernel_rfl) (by kernel_rfl) (by kernel_rfl) (by kernel_rfl) (fun _ _ _ h => h) (Or.inl ⟨by kernel_rfl, ?yb0⟩) (by assumption) ?_
        case yb0 => intro wq hSw; (try dsimp only at hSw); go_simp; (try with_reducible rfl)
        (try simp only [Act.put, List.setIfInBounds_toArray, List.set_cons_zero, List.set_cons_succ])
        refine take_named (i := 1) (d := 61) (v := ?vb1) rfl (by kernel_rfl) (by kernel_rfl) (by kernel_rfl) (by kernel_rfl) (fun _ _ _ h => h) (Or.inl ⟨by kernel_rfl, ?yb1⟩) (by assumption) ?_
        case yb1 => intro wq hSw; (try dsimp only at hSw); go_simp; (try with_reducible rfl)
        (try simp only [Act.put, List.setIfInBounds_toArray, List.set_cons_zero, List.set_cons_succ])
        refine take_named (i := 2) (d := 62) (v := ?vb2) rfl (by kernel_rfl) (by kernel_rfl) (by kernel_rfl) (by kernel_rfl) (fun _ _ _ h => h) (Or.inl ⟨by kernel_rfl, ?yb2⟩) (by assumption) ?_
        case yb2 => intro wq hSw; (try dsimp only at hSw); go_simp; (try with_reducible rfl)
        (try simp only [Act.put, List.setIfInBounds_toArray, List.set_cons_zero, List.set_cons_succ])
        refine take_named (i := 3) (d := 63) (v := ?vb3) rfl (by kernel_rfl) (by kernel_rfl) (by kernel_rfl) (by kernel_rfl) (fun _ _ _ h => h) (Or.inl ⟨by kernel_rfl, ?yb3⟩) (by assumption) ?_
        case yb3 => intro wq hSw; (try dsimp only at hSw); go_simp; (try with_reducible rfl)
        (try simp only [Act.put, List.setIfInBounds_toArray, List.set_cons_zero, List.set_cons_succ])
        refine take_named (i := 4) (d := 64) (v := ?vb4) rfl (by kernel_rfl) (by kernel_rfl) (by kernel_rfl) (by kernel_rfl) (fun _ _ _ h => h) (Or.inl ⟨by kernel_rfl, ?yb4⟩) (by assumption) ?_
        case yb4 => intro wq hSw; (try dsimp only at hSw); go_simp; (try with_reducible rfl)
        (try simp only [Act.put, List.setIfInBounds_toArray, List.set_cons_zero, List.set_cons_succ])
        refine take_named (i := 5) (d := 65) (v := ?vb5) rfl (by kernel_rfl) (by kernel_rfl) (by kernel_rfl) (by kernel_rfl) (fun _ _ _ h => h) (Or.inl ⟨by kernel_rfl, ?yb5⟩) (by assumption) ?_
        case yb5 => intro wq hSw; (try dsimp only at hSw); go_simp; (try with_reducible rfl)
        (try simp only [Act.put, List.setIfInBounds_toArray, List.set_cons_zero, List.set_cons_succ])
        refine take_named (i := 6) (d := 66) (v := ?vb6) rfl (by kernel_rfl) (by kernel_rfl) (by kernel_rfl) (by kernel_rfl) (fun _ _ _ h => h) (Or.inl ⟨by kernel_rfl, ?yb6⟩) (by assumption) ?_
        case yb6 => intro wq hSw; (try dsimp only at hSw); go_simp; (try with_reducible rfl)
        (try simp only [Act.put, List.setIfInBounds_toArray, List.set_cons_zero, List.set_cons_succ])
        refine wpAnyH_ready (rs := [7]) (by kernel_rfl) (by simp) ?_
        refine AllReadyH.cons rfl (fun K hK => ?_) AllReadyH.nil
        go_simp
        refine (HW.out _).mono ?_
        rintro ee wq1 ⟨rfl, hq1⟩
        have hba := hd.trans (hq1.mono hd.size)
        refine hK.out _ _ (HSS.out _ hba) (fun hHeld1 => ?_)
        clear hK K hHeld
        (try simp only [Act.put, List.setIfInBounds_toArray, List.set_cons_zero, List.set_cons_succ])
        refine take_named (i := 8) (d := 68) (v := ?vb8) rfl (by kernel_rfl) (by kernel_rfl) (by kernel_rfl) (by kernel_rfl) (fun _ _ _ h => h) (Or.inl ⟨by kernel_rfl, ?yb8⟩) (by assumption) ?_
        case yb8 => intro wq hSw; (try dsimp only at hSw); go_simp; (try with_reducible rfl)
        (try simp only [Act.put, List.setIfInBounds_toArray, List.set_cons_zero, List.set_cons_succ])
        refine take_named (i := 9) (d := 69) (v := ?vb9) rfl (by kernel_rfl) (by kernel_rfl) (by kernel_rfl) (by kernel_rfl) (fun _ _ _ h => h) (Or.inl ⟨by kernel_rfl, ?yb9⟩) (by assumption) ?_
        case yb9 => intro wq hSw; (try dsimp only at hSw); go_simp; (try with_reducible rfl)
        (try simp only [Act.put, List.setIfInBounds_toArray, List.set_cons_zero, List.set_cons_succ])
        refine take_named (i := 10) (d := 70) (v := ?vb10) rfl (by kernel_rfl) (by kernel_rfl) (by kernel_rfl) (by kernel_rfl) (fun _ _ _ h => h) (Or.inl ⟨by kernel_rfl, ?yb10⟩) (by assumption) ?_
        case yb10 => intro wq hSw; (try dsimp only at hSw); go_simp; (try with_reducible rfl)
        (try simp only [Act.put, List.setIfInBounds_toArray, List.set_cons_zero, List.set_cons_succ])
        refine take_named (i := 11) (d := 71) (v := ?vb11) rfl (by kernel_rfl) (by kernel_rfl) (by kernel_rfl) (by kernel_rfl) (fun _ _ _ h => h) (Or.inl ⟨by kernel_rfl, ?yb11⟩) (by assumption) ?_
        case yb11 => intro wq hSw; (try dsimp only at hSw); go_simp; (try with_reducible rfl)
        (try simp only [Act.put, List.setIfInBounds_toArray, List.set_cons_zero, List.set_cons_succ])
        refine take_named (i := 12) (d := 72) (v := ?vb12) rfl (by kernel_rfl) (by kernel_rfl) (by kernel_rfl) (by kernel_rfl) (fun _ _ _ h => h) (Or.inl ⟨by kernel_rfl, ?yb12⟩) (by assumption) ?_
        case yb12 => intro wq hSw; (try dsimp only at hSw); go_simp; (try with_reducible rfl)
        (try simp only [Act.put, List.setIfInBounds_toArray, List.set_cons_zero, List.set_cons_succ])
        refine take_named (i := 13) (d := 73) (v := ?vb13) rfl (by kernel_rfl) (by kernel_rfl) (by kernel_rfl) (by kernel_rfl) (fun _ _ _ h => h) (Or.inl ⟨by kernel_rfl, ?yb13⟩) (by assumption) ?_
        case yb13 => intro wq hSw; (try dsimp only at hSw); go_simp; (try with_reducible rfl)
        (try simp only [Act.put, List.setIfInBounds_toArray, List.set_cons_zero, List.set_cons_succ])
        refine take_named (i := 14) (d := 74) (v := undef) rfl (by kernel_rfl) (by kernel_rfl) (by kernel_rfl) (by kernel_rfl) (fun _ _ _ h => h) (Or.inr ⟨by kernel_rfl, rfl⟩) (by assumption) ?_
        (try simp only [Act.put, List.setIfInBounds_toArray, List.set_cons_zero, List.set_cons_succ])
        refine take_named (i := 15) (d := 75) (v := undef) rfl (by kernel_rfl) (by kernel_rfl) (by kernel_rfl) (by kernel_rfl) (fun _ _ _ h => h) (Or.inr ⟨by kernel_rfl, rfl⟩) (by assumption) ?_
        (try simp only [Act.put, List.setIfInBounds_toArray, List.set_cons_zero, List.set_cons_succ])
        refine take_named (i := 16) (d := 76) (v := undef) rfl (by kernel_rfl) (by kernel_rfl) (by kernel_rfl) (by kernel_rfl) (fun _ _ _ h => h) (Or.inr ⟨by kernel_rfl, rfl⟩) (by assumption) ?_
        (try simp only [Act.put, List.setIfInBounds_toArray, List.set_cons_zero, List.set_cons_succ])
        refine take_named (i := 17) (d := 77) (v := undef) rfl (by kernel_rfl) (by kernel_rfl) (by kernel_rfl) (by kernel_rfl) (fun _ _ _ h => h) (Or.inr ⟨by kernel_rfl, rfl⟩) (by assumption) ?_
        (try simp only [Act.put, List.setIfInBounds_toArray, List.set_cons_zero, List.set_cons_succ])
        refine take_named (i := 18) (d := 78) (v := undef) rfl (by kernel_rfl) (by kernel_rfl) (by kernel_rfl) (by kernel_rfl) (fun _ _ _ h => h) (Or.inr ⟨by kernel_rfl, rfl⟩) (by assumption) ?_
        (try simp only [Act.put, List.setIfInBounds_toArray, List.set_cons_zero, List.set_cons_succ])
        refine take_named (i := 19) (d := 79) (v := ?vb19) rfl (by kernel_rfl) (by kernel_rfl) (by kernel_rfl) (by kernel_rfl) (fun _ _ _ h => h) (Or.inl ⟨by kernel_rfl, ?yb19⟩) (by assumption) ?_
        case yb19 => intro wq hSw; (try dsimp only at hSw); go_simp; (try with_reducible rfl)
        (try simp only [Act.put, List.setIfInBounds_toArray, List.set_cons_zero, List.set_cons_succ])
        refine take_named (i := 20) (d := 80) (v := ?vb20) rfl (by kernel_rfl) (by kernel_rfl) (by kernel_rfl) (by kernel_rfl) (fun _ _ _ h => h) (Or.inl ⟨by kernel_rfl, ?yb20⟩) (by assumption) ?_
        case yb20 => intro wq hSw; (try dsimp only at hSw); go_simp; (try with_reducible rfl)
        (try simp only [Act.put, List.setIfInBounds_toArray, List.set_cons_zero, List.set_cons_succ])
        refine wpAnyH_done (by kernel_rfl) ?_ _
        go_wp2
        go_roundw
        case rel => exact ⟨j + 1, by omega, by go_num, hb8.trans (hba.mono (by have := hb8.size; omega))⟩
        case measure => simp [intOf]; omega
    · obtain rfl : j = 4 := by omega
      have t0 : decide (((4 : Nat) : Int) < 4) = false := rfl
      have t2 : ¬ (((4 : Nat) : Int) < 4) := by omega
      have N7 := blk_below N7.out hbel (blk_lt N7.out)
      have N8 := blk_below N8.out hbel (blk_lt N8.out)
      have l7 := blk_lt N7
      have l8 := blk_lt N8
      have q0 := blk_cell N7 0
      have q1 := blk_cell N7 1
      have q2 := blk_cell N8 0
      have q3 := blk_cell N8 1
      have hd : Below wx.heap.size wx wx.drew := (Below.refl _ _).drew
      clear NS N7 N8
      go_upto_region 12 with fail
      go_region_held3 (fun w' => w'.cell? ⟨g7, 0, none⟩ = some (.int .i64 x0) ∧ w'.cell? ⟨g7, 1, none⟩ = some (.int .i64 y0)) (first | exact ⟨q0, q1⟩ | exact ⟨keepB0 hbm l7 q0, keepB0 hbm l7 q1⟩ | exact ⟨keepB0 hbn l7 q0, keepB0 hbn l7 q1⟩)
        ((first | (go_at_call 26; (with_reducible refine (HW.out _).mono ?_); rintro ee wm ⟨rfl, hbm0⟩; have hbm := hd.trans (hbm0.mono hd.size)) | (go_at_call 25; (with_reducible refine (HC0.out _).mono ?_); rintro ee wn ⟨rfl, hbn0⟩; have hbn := hbm.trans (hbn0.mono hbm.size))))
      have q0 := keepB0 hbn l7 q0
      have q1 := keepB0 hbn l7 q1
      have q2 := keepB0 hbn l8 q2
      have q3 := keepB0 hbn l8 q3
      have hBn := below_via hBx hbn
      have sn := hbn.size
      have l7 : g7 < wn.heap.size := by omega
      have l8 : g7 + 1 < wn.heap.size := by omega
      have hd2 : Below wn.heap.size wn wn.drew := (Below.refl _ _).drew
      clear hbn hbm hbm0 hbn0 hd
      go_upto_region 13 with fail
      go_region_held3 (fun w' => w'.cell? ⟨g7 + 1, 0, none⟩ = some (.int .i64 x1) ∧ w'.cell? ⟨g7 + 1, 1, none⟩ = some (.int .i64 y1)) (first | exact ⟨q2, q3⟩ | exact ⟨keepB0 hbo l8 q2, keepB0 hbo l8 q3⟩ | exact ⟨keepB0 hbp l8 q2, keepB0 hbp l8 q3⟩)
        ((first | (go_at_call 26; (with_reducible refine (HW.out _).mono ?_); rintro ee wo ⟨rfl, hbo0⟩; have hbo := hd2.trans (hbo0.mono hd2.size)) | (go_at_call 25; (with_reducible refine (HC1.out _).mono ?_); rintro ee wp ⟨rfl, hbp0⟩; have hbp := hbo.trans (hbp0.mono hbo.size))))
      have q0 := keepB0 hbp l7 q0
      have q2 := keepB0 hbp l8 q2
      have hBp := below_via hBn hbp
      have d0 : decide (x0 ≥ 0) = true := decide_eq_true hm0
      have d1 : decide (x1 ≥ 0) = true := decide_eq_true hm1
      have d2 : decide (u0 ≤ 0) = true := decide_eq_true hc0
      have d3 : decide (u1 ≤ 0) = true := decide_eq_true hc1
      clear hbp hbo hbo0 hbp0 hd2
      go_wp2_with fail
      refine (awake22 _ (HL.out.go hBp)).mono ?_
      rintro ee wz ⟨rfl, hbz⟩
      go_wp2
      go_ret
      exact ⟨rfl, below_via hBp hbz⟩

end Go.Proofs.YtgfnggdjjigomaaDoor
