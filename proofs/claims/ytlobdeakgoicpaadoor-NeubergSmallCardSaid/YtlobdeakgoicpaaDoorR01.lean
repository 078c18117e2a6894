/- The walks of finesseref01: Right, Make, Add, Sub, Mul, Div, Cmp. (Written by genr01.py.) -/
import Derived.Test.YtlobdeakgoicpaaDoorDigK
import Derived.Test.YtlobdeakgoicpaaDoorFracRight
namespace Go.Proofs.YtlobdeakgoicpaaDoor
open Go.RowKit

theorem one_iff (G : Nat) : (ln G = 1 ∧ dg G 0 = 1) ↔ G = 1 := by
  constructor
  · rintro ⟨h1, h2⟩
    have h3 := ln_lt G
    rw [h1, Nat.pow_one] at h3
    unfold dg at h2
    rw [Nat.pow_zero, Nat.div_one] at h2
    have h3 : G < 65536 := h3
    omega
  · rintro rfl
    exact ⟨ln_eq (by show 1 < 65536 ^ 1; decide) (.inr (by show 65536 ^ 0 ≤ 1; decide)), rfl⟩
theorem ln_i64 {n : Int} (h : -9223372036854775808 ≤ n ∧ n ≤ 9223372036854775807) : ln n.natAbs ≤ 4 := ln_min _ _ (by show n.natAbs < 65536 ^ 4; omega)

set_option maxRecDepth 100000 in
set_option maxHeartbeats 2000000 in
theorem r01right (n d : Int) (w : World) (hn : -9223372036854775808 ≤ n ∧ n ≤ 9223372036854775807) (hd : -9223372036854775808 ≤ d ∧ d ≤ 9223372036854775807) :
    Calls Tryd.prog 40 #[.agg #[.int .i64 n, .int .i64 d]] w fun e w' => e = .returned (.bool (rightF (n, d))) ∧ Below w.heap.size w w' := by
  obtain ⟨r, hr⟩ : ∃ r, rightF (n, d) = r := ⟨_, rfl⟩
  rw [hr]
  have Hr := Lib.hid hr
  clear hr
  by_cases h0 : d < 1
  · have e1 : false = r := by rw [← Hr.out]; unfold rightF; rw [decide_eq_false (show ¬ 0 < d by omega)]; rfl
    have E1 := Lib.hid e1
    clear e1
    go_enter Tryd.func40, Tryd.ntmps40
    go_wp2
    go_ret
    exact ⟨by rw [← E1.out]; rfl, (Below.refl _ _).alloc (Nat.le_refl _) _⟩
  · have HWn := Lib.hid (fun W => r01whole n W hn)
    have HWd := Lib.hid (fun W => r01whole d W hd)
    have hln := ln_i64 hn
    have hld := ln_i64 hd
    have HCm := Lib.hid (fun A B ca cb W h1 h2 => r01common n.natAbs d.natAbs A B ca cb W h1 h2 (by omega) (by omega))
    have h1 : ¬ d < 1 := h0
    obtain ⟨g, hg⟩ : ∃ g, w.heap.size = g := ⟨_, rfl⟩
    obtain ⟨W1, hW1⟩ : ∃ V, w.alloc (.cells #[.int .i64 n, .int .i64 d] 23) = V := ⟨_, rfl⟩
    have hb1 : Below w.heap.size w W1 := by rw [← hW1]; exact (Below.refl _ _).alloc (Nat.le_refl _) _
    have k1 : W1.heap[g]? = some (.cells #[.int .i64 n, .int .i64 d] 23 (0, 0)) := by rw [← hW1]; exact blk_new _ hg.symm
    have c0 := blk_cell k1 0
    have c1 := blk_cell k1 1
    have HKs := Lib.hid (fun (W : World) (hb : Below W1.heap.size W1 W) => (show W.cell? ⟨g, 0, none⟩ = some (.int .i64 n) ∧ W.cell? ⟨g, 1, none⟩ = some (.int .i64 d) from ⟨keepD hb (blk_lt k1) c0, keepD hb (blk_lt k1) c1⟩))
    have HB1 := Lib.hid hb1
    clear hn hd hb1 k1 hln hld h0
    go_enter Tryd.func40, Tryd.ntmps40
    go_upto_region 3 with fail
    (try rw [hW1])
    (try rw [hg])
    clear hW1 hg
    have hS0 : (fun wq : World => wq.cell? ⟨g, 0, none⟩ = some (.int .i64 n) ∧ wq.cell? ⟨g, 1, none⟩ = some (.int .i64 d)) W1 := ⟨c0, c1⟩
    have hB0 : Below W1.heap.size W1 W1.drew := (Below.refl _ _).drew
    refine wp_region_held_drew (S := (fun wq => wq.cell? ⟨g, 0, none⟩ = some (.int .i64 n) ∧ wq.cell? ⟨g, 1, none⟩ = some (.int .i64 d))) (by kernel_rfl) hS0 (fun hHeldR => ?_)
    refine take_named (i := 0) (d := 7) (v := ?vR0) rfl (by kernel_rfl) (by kernel_rfl) (by kernel_rfl) (by kernel_rfl) (fun _ _ _ h => h) (Or.inl ⟨by kernel_rfl, ?yR0⟩) (by assumption) ?_
    case yR0 => intro wq hSw; (try dsimp only at hSw); go_simp; (try with_reducible rfl)
    (try simp only [Act.put, List.setIfInBounds_toArray, List.set_cons_zero, List.set_cons_succ])
    refine take_named (i := 1) (d := 8) (v := ?vR1) rfl (by kernel_rfl) (by kernel_rfl) (by kernel_rfl) (by kernel_rfl) (fun _ _ _ h => h) (Or.inl ⟨by kernel_rfl, ?yR1⟩) (by assumption) ?_
    case yR1 => intro wq hSw; (try dsimp only at hSw); go_simp; (try with_reducible rfl)
    (try simp only [Act.put, List.setIfInBounds_toArray, List.set_cons_zero, List.set_cons_succ])
    refine take_named (i := 3) (d := 10) (v := ?vR3) rfl (by kernel_rfl) (by kernel_rfl) (by kernel_rfl) (by kernel_rfl) (fun _ _ _ h => h) (Or.inl ⟨by kernel_rfl, ?yR3⟩) (by assumption) ?_
    case yR3 => intro wq hSw; (try dsimp only at hSw); go_simp; (try with_reducible rfl)
    (try simp only [Act.put, List.setIfInBounds_toArray, List.set_cons_zero, List.set_cons_succ])
    refine take_named (i := 4) (d := 11) (v := ?vR4) rfl (by kernel_rfl) (by kernel_rfl) (by kernel_rfl) (by kernel_rfl) (fun _ _ _ h => h) (Or.inl ⟨by kernel_rfl, ?yR4⟩) (by assumption) ?_
    case yR4 => intro wq hSw; (try dsimp only at hSw); go_simp; (try with_reducible rfl)
    (try simp only [Act.put, List.setIfInBounds_toArray, List.set_cons_zero, List.set_cons_succ])
    refine wpAnyH_ready (rs := [2]) (by kernel_rfl) (by simp) ?_
    refine AllReadyH.cons rfl (fun K hK => ?_) AllReadyH.nil
    go_simp
    refine (HWn.out _).mono ?_
    rintro ee v1 ⟨An, cn, rfl, hdn, -, hbn⟩
    have bv1 := below_viaD hB0 hbn
    have Dn := Lib.hid hdn
    refine hK.out _ _ (HKs.out _ bv1) (fun hHeldR2 => ?_)
    clear hK K hHeldR
    (try simp only [Act.put, List.setIfInBounds_toArray, List.set_cons_zero, List.set_cons_succ])
    refine wpAnyH_ready (rs := [5]) (by kernel_rfl) (by simp) ?_
    refine AllReadyH.cons rfl (fun K hK => ?_) AllReadyH.nil
    go_simp
    refine (HWd.out _).mono ?_
    rintro ee v2 ⟨Ad, cd, rfl, hdd, -, hbd⟩
    have bv2 := below_viaD bv1 hbd
    have Dn_v2 := Lib.hid (DS.go Dn.out hbd)
    have Dd := Lib.hid hdd
    refine hK.out _ _ (HKs.out _ bv2) (fun hHeldR5 => ?_)
    clear hK K hHeldR2
    (try simp only [Act.put, List.setIfInBounds_toArray, List.set_cons_zero, List.set_cons_succ])
    refine wpAnyH_ready (rs := [6]) (by kernel_rfl) (by simp) ?_
    refine AllReadyH.cons rfl (fun K hK => ?_) AllReadyH.nil
    go_simp
    refine (HCm.out _ _ _ _ _ Dn_v2.out Dd.out).mono ?_
    rintro ee v3 ⟨Ag, cg, rfl, hdg, hbg⟩
    have bv3 := below_viaD bv2 hbg
    have Dn_v3 := Lib.hid (DS.go Dn_v2.out hbg)
    have Dd_v3 := Lib.hid (DS.go Dd.out hbg)
    have Dg := Lib.hid hdg
    refine hK.out _ _ (HKs.out _ bv3) (fun hHeldR6 => ?_)
    clear hK K hHeldR5
    (try simp only [Act.put, List.setIfInBounds_toArray, List.set_cons_zero, List.set_cons_succ])
    refine take_named (i := 7) (d := 3) (v := ?vR7) rfl (by kernel_rfl) (by kernel_rfl) (by kernel_rfl) (by kernel_rfl) (fun _ _ _ h => h) (Or.inl ⟨by kernel_rfl, ?yR7⟩) (by assumption) ?_
    case yR7 => intro wq hSw; (try dsimp only at hSw); go_simp; (try with_reducible rfl)
    (try simp only [Act.put, List.setIfInBounds_toArray, List.set_cons_zero, List.set_cons_succ])
    refine wpAnyH_done (by kernel_rfl) ?_ _
    clear hHeldR6
    have hbz := below_viaD HB1.out bv3
    have HG := Lib.hid (one_iff (Nat.gcd n.natAbs d.natAbs))
    have HR := Lib.hid (show (Nat.gcd n.natAbs d.natAbs == 1) = r by rw [← Hr.out]; unfold rightF; rw [decide_eq_true (show 0 < d by omega), Bool.true_and])
    generalize Nat.gcd n.natAbs d.natAbs = G at *
    by_cases hl : ln G = 1
    · obtain ⟨pg, og, rfl, lpg, qg⟩ := Dg.out.digit 0 (by omega)
      have qg2 : v3.cell? ⟨pg, og, none⟩ = some (.int .i64 ((dg G 0 : Nat) : Int)) := qg
      have hR : (((dg G 0 : Nat) : Int) == 1) = r := by
        rw [← HR.out]
        by_cases h2 : dg G 0 = 1
        · rw [h2, (HG.out).1 ⟨hl, h2⟩]; rfl
        · have h3 : G ≠ 1 := fun h => h2 ((HG.out).2 h).2
          rw [beq_eq_false_iff_ne.2 h3, beq_eq_false_iff_ne.2 (by omega)]
      clear qg
      generalize dg G 0 = dd at *
      rw [hl]
      have HR2 := Lib.hid hR
      clear hR
      go_wp2
      go_ret
      exact ⟨by rw [← HR2.out]; rfl, hbz⟩
    · have h3 : G ≠ 1 := fun h => hl ((HG.out).2 h).1
      have hR : false = r := by rw [← HR.out]; exact (beq_eq_false_iff_ne.2 h3).symm
      have HR2 := Lib.hid hR
      have t1 : (((ln G : Nat) : Int) == 1) = false := beq_eq_false_iff_ne.2 (by omega)
      clear hR h3 hl
      generalize ln G = lg at *
      go_wp2
      go_ret
      exact ⟨by rw [← HR2.out]; rfl, hbz⟩

/-- A numerator and a denominator of any signs. -/
def negM (a b : Int) : Bool := (decide (a < 0) && decide (0 < b)) || (decide (0 < a) && decide (b < 0))

set_option maxRecDepth 100000 in
set_option maxHeartbeats 2000000 in
theorem r01make (a b : Int) (w : World) (ha : 0 < a ∧ a ≤ 9223372036854775807) (hb : 0 < b ∧ b ≤ 9223372036854775807) :
    Calls Tryd.prog 47 #[.int .i64 a, .int .i64 b] w fun e w' => e = .returned (.tuple #[fV (mk0 false a.natAbs b.natAbs), .int .i64 (mkE false a.natAbs b.natAbs)]) ∧ Below w.heap.size w w' := by
  have HWn := Lib.hid (fun W => r01whole a W (by omega))
  have HWd := Lib.hid (fun W => r01whole b W (by omega))
  have hln := ln_i64 (n := a) (by omega)
  have hld := ln_i64 (n := b) (by omega)
  have HMk := Lib.hid (fun A B ca cb W h1 h2 => r01make0 false a.natAbs b.natAbs A B ca cb W h1 h2 (by omega) (by omega) (by omega))
  have t1 : ¬ a < 0 := by omega
  have t2 : 0 < a := ha.1
  have t3 : ¬ b < 0 := by omega
  have t4 : (b == 0) = false := beq_eq_false_iff_ne.2 (by omega)
  obtain ⟨F, hF⟩ : ∃ F, mk0 false a.natAbs b.natAbs = F := ⟨_, rfl⟩
  obtain ⟨E, hE⟩ : ∃ E, mkE false a.natAbs b.natAbs = E := ⟨_, rfl⟩
  rw [hF, hE] at HMk ⊢
  obtain ⟨x, y⟩ := F
  unfold fV at HMk ⊢
  dsimp only at HMk ⊢
  obtain ⟨g, hg⟩ : ∃ g, w.heap.size = g := ⟨_, rfl⟩
  obtain ⟨W1, hW1⟩ : ∃ V, w.alloc (.cells #[.int .i64 0, .int .i64 0] 23) = V := ⟨_, rfl⟩
  have hb1 : Below w.heap.size w W1 := by rw [← hW1]; exact (Below.refl _ _).alloc (Nat.le_refl _) _
  have K1 := Lib.hid (show W1.heap[g]? = some (.cells #[.int .i64 0, .int .i64 0] 23 (0, 0)) by rw [← hW1]; exact blk_new _ hg.symm)
  have Hgw := Lib.hid (show w.heap.size ≤ g from Nat.le_of_eq hg)
  have HB1 := Lib.hid hb1
  clear hF hE ha hb hb1 hln hld
  go_enter Tryd.func47, Tryd.ntmps47
  go_wp2_with fail
  (try rw [hW1])
  (try rw [hg])
  clear hW1 hg
  refine (HWn.out _).mono ?_
  rintro ee v1 ⟨An, cn, rfl, hdn, -, hbn⟩
  go_wp2_with fail
  refine (HWd.out _).mono ?_
  rintro ee v2 ⟨Ad, cd, rfl, hdd, -, hbd⟩
  go_wp2_with fail
  refine (HMk.out _ _ _ _ _ (DS.go hdn hbd) hdd).mono ?_
  rintro ee v3 ⟨rfl, hbm⟩
  have hb2 := below_viaD (below_viaD hbn hbd) hbm
  have K3 := Lib.hid (blk_below K1.out hb2 (blk_lt K1.out))
  have hbz := below_viaD HB1.out hb2
  have a0 := blk_cell K3.out 0
  have a1 := blk_cell K3.out 1
  have f0 := blk_free K3.out 0
  have f1 := blk_free K3.out 1
  clear hdn hdd hbn hbd hbm hb2
  go_wp2
  have z := blk_set (blk_set K3.out 0 (.int .i64 x)) 1 (.int .i64 y)
  have z0 := blk_cell z 0
  have z1 := blk_cell z 1
  exact bodyPost_ret (v := .tuple #[.agg #[.int .i64 x, .int .i64 y], .int .i64 E]) (by simp [results, Tryd.results47, go_sem, z0, z1]) rfl ⟨rfl, (hbz.setCell (p := ⟨g, 0, none⟩) Hgw.out _).setCell (p := ⟨g, 1, none⟩) Hgw.out _⟩

theorem mul_ln {a b : Nat} (ha : ln a ≤ 4) (hb : ln b ≤ 4) : ln (a * b) ≤ 80 := by
  refine Nat.le_trans (ln_min 8 _ ?_) (by decide)
  have h1 : a < Bs ^ 4 := Nat.lt_of_lt_of_le (ln_lt a) (bs_le ha)
  have h2 : b < Bs ^ 4 := Nat.lt_of_lt_of_le (ln_lt b) (bs_le hb)
  have e : Bs ^ 8 = Bs ^ 4 * Bs ^ 4 := by rw [← Nat.pow_add]
  rw [e]
  exact Nat.mul_lt_mul_of_le_of_lt (Nat.le_of_lt h1) h2 (bs_pos 4)

set_option maxRecDepth 100000 in
set_option maxHeartbeats 4000000 in
theorem r01mulF (fn fd gn gd : Int) (w : World) (hfn : -9223372036854775808 ≤ fn ∧ fn ≤ 9223372036854775807) (hfd : 0 < fd ∧ fd ≤ 9223372036854775807) (hgn : 0 ≤ gn ∧ gn ≤ 9223372036854775807) (hgd : 0 < gd ∧ gd ≤ 9223372036854775807) (hf : rightF (fn, fd) = true) (hg2 : rightF (gn, gd) = true) :
    Calls Tryd.prog 44 #[.agg #[.int .i64 fn, .int .i64 fd], .agg #[.int .i64 gn, .int .i64 gd]] w fun e w' => e = .returned (.tuple #[fV (mk0 (decide (fn < 0)) (fn.natAbs * gn.natAbs) (fd.natAbs * gd.natAbs)), .int .i64 (mkE (decide (fn < 0)) (fn.natAbs * gn.natAbs) (fd.natAbs * gd.natAbs))]) ∧ Below w.heap.size w w' := by
  have HR1 := Lib.hid (fun W => r01right fn fd W hfn (by omega))
  have HR2 := Lib.hid (fun W => r01right gn gd W (by omega) (by omega))
  rw [hf] at HR1
  rw [hg2] at HR2
  have HWa := Lib.hid (fun W => r01whole fn W hfn)
  have HWb := Lib.hid (fun W => r01whole gn W (by omega))
  have HWc := Lib.hid (fun W => r01whole fd W (by omega))
  have HWd := Lib.hid (fun W => r01whole gd W (by omega))
  have l1 := ln_i64 hfn
  have l2 := ln_i64 (n := gn) (by omega)
  have l3 := ln_i64 (n := fd) (by omega)
  have l4 := ln_i64 (n := gd) (by omega)
  have HMa := Lib.hid (fun A B ca cb W h1 h2 => r01mul fn.natAbs gn.natAbs A B ca cb W h1 h2 (by omega) (by omega))
  have HMb := Lib.hid (fun A B ca cb W h1 h2 => r01mul fd.natAbs gd.natAbs A B ca cb W h1 h2 (by omega) (by omega))
  have hN : ln (fn.natAbs * gn.natAbs) ≤ 80 := mul_ln l1 l2
  have hD : ln (fd.natAbs * gd.natAbs) ≤ 80 := mul_ln l3 l4
  have hDp : 0 < fd.natAbs * gd.natAbs := Nat.mul_pos (by omega) (by omega)
  have HMk := Lib.hid (fun A B ca cb W h1 h2 => r01make0 (decide (fn < 0)) (fn.natAbs * gn.natAbs) (fd.natAbs * gd.natAbs) A B ca cb W h1 h2 hN hD hDp)
  obtain ⟨F, hF⟩ : ∃ F, mk0 (decide (fn < 0)) (fn.natAbs * gn.natAbs) (fd.natAbs * gd.natAbs) = F := ⟨_, rfl⟩
  obtain ⟨E, hE⟩ : ∃ E, mkE (decide (fn < 0)) (fn.natAbs * gn.natAbs) (fd.natAbs * gd.natAbs) = E := ⟨_, rfl⟩
  rw [hF, hE] at HMk ⊢
  obtain ⟨x, y⟩ := F
  unfold fV at HMk ⊢
  dsimp only at HMk ⊢
  have t1 : ¬ gn < 0 := by omega
  have t2 : decide (gn < 0) = false := decide_eq_false t1
  skip
  obtain ⟨g, hg⟩ : ∃ g, w.heap.size = g := ⟨_, rfl⟩
  obtain ⟨W1, hW1⟩ : ∃ V, ((w.alloc (.cells #[.int .i64 fn, .int .i64 fd] 23)).alloc (.cells #[.int .i64 gn, .int .i64 gd] 23)).alloc (.cells #[.int .i64 0, .int .i64 0] 23) = V := ⟨_, rfl⟩
  have hb1 : Below w.heap.size w W1 := by rw [← hW1]; exact (by repeat (first | exact Below.refl _ _ | assumption | refine Below.drew ?_ | refine below_drewN ?_ _ | refine Below.alloc ?_ (by first | omega | (simp; done) | (simp; omega)) _ | refine Below.setCell ?_ (by first | omega | (simp; done) | (simp; omega)) _))
  have k0 : W1.heap[g]? = some (.cells #[.int .i64 fn, .int .i64 fd] 23 (0, 0)) := by rw [← hW1]; exact blk_alloc (blk_alloc (blk_new _ hg.symm) _) _
  have k1 : W1.heap[g + 1]? = some (.cells #[.int .i64 gn, .int .i64 gd] 23 (0, 0)) := by rw [← hW1]; exact blk_alloc (blk_new _ (by simp; omega)) _
  have k2 : W1.heap[g + 1 + 1]? = some (.cells #[.int .i64 0, .int .i64 0] 23 (0, 0)) := by rw [← hW1]; exact blk_new _ (by simp; omega)
  have HK := Lib.hid (fun (W : World) (hb : Below W1.heap.size W1 W) => (show W.heap[g]? = some (.cells #[.int .i64 fn, .int .i64 fd] 23 (0, 0)) ∧ W.heap[g + 1]? = some (.cells #[.int .i64 gn, .int .i64 gd] 23 (0, 0)) ∧ W.heap[g + 1 + 1]? = some (.cells #[.int .i64 0, .int .i64 0] 23 (0, 0)) from ⟨blk_below k0 hb (blk_lt k0), blk_below k1 hb (blk_lt k1), blk_below k2 hb (blk_lt k2)⟩))
  have Hgw := Lib.hid (show w.heap.size ≤ g from Nat.le_of_eq hg)
  have HB1 := Lib.hid hb1
  have c0 := blk_cell k0 0
  have c1 := blk_cell k0 1
  clear hF hE hfn hfd hgn hgd hf hg2 hb1 k0 k1 k2 l1 l2 l3 l4 hN hD hDp
  go_enter Tryd.func44, Tryd.ntmps44
  go_wp2_with fail
  (try rw [hW1])
  (try rw [hg])
  clear hW1 hg
  refine (HR1.out _).mono ?_
  rintro ee u1 ⟨rfl, hr1⟩
  obtain ⟨k0, k1, k2⟩ := HK.out _ hr1
  have c2 := blk_cell k1 0
  have c3 := blk_cell k1 1
  clear k0 k1 k2 c0 c1
  go_wp2_with fail
  refine (HR2.out _).mono ?_
  rintro ee u2 ⟨rfl, hr2⟩
  have hr12 := below_viaD hr1 hr2
  obtain ⟨k0, k1, k2⟩ := HK.out _ hr12
  have c0 := blk_cell k0 0
  have c1 := blk_cell k0 1
  have c2 := blk_cell k1 0
  have c3 := blk_cell k1 1
  have HKs := Lib.hid (fun (W : World) (hb : Below u2.heap.size u2 W) => (show W.cell? ⟨g, 0, none⟩ = some (.int .i64 fn) ∧ W.cell? ⟨g, 1, none⟩ = some (.int .i64 fd) ∧ W.cell? ⟨g + 1, 0, none⟩ = some (.int .i64 gn) ∧ W.cell? ⟨g + 1, 1, none⟩ = some (.int .i64 gd) from ⟨keepD hb (blk_lt k0) c0, keepD hb (blk_lt k0) c1, keepD hb (blk_lt k1) c2, keepD hb (blk_lt k1) c3⟩))
  have HK2 := Lib.hid (fun (W : World) (hb : Below u2.heap.size u2 W) => (show W.heap[g + 1 + 1]? = some (.cells #[.int .i64 0, .int .i64 0] 23 (0, 0)) from blk_below k2 hb (blk_lt k2)))
  have HB2 := Lib.hid (below_viaD HB1.out hr12)
  have hS0 : (fun wq : World => wq.cell? ⟨g, 0, none⟩ = some (.int .i64 fn) ∧ wq.cell? ⟨g, 1, none⟩ = some (.int .i64 fd) ∧ wq.cell? ⟨g + 1, 0, none⟩ = some (.int .i64 gn) ∧ wq.cell? ⟨g + 1, 1, none⟩ = some (.int .i64 gd)) u2 := ⟨c0, c1, c2, c3⟩
  have hB0 : Below u2.heap.size u2 u2.drew := (Below.refl _ _).drew
  clear hr1 hr2 hr12 k0 k1 k2 HB1 HK HR1 HR2
  go_upto_region 3 with fail
  refine wp_region_held_drew (S := (fun wq => wq.cell? ⟨g, 0, none⟩ = some (.int .i64 fn) ∧ wq.cell? ⟨g, 1, none⟩ = some (.int .i64 fd) ∧ wq.cell? ⟨g + 1, 0, none⟩ = some (.int .i64 gn) ∧ wq.cell? ⟨g + 1, 1, none⟩ = some (.int .i64 gd))) (by kernel_rfl) hS0 (fun hHeldMUL => ?_)
  refine take_named (i := 0) (d := 15) (v := ?vMUL0) rfl (by kernel_rfl) (by kernel_rfl) (by kernel_rfl) (by kernel_rfl) (fun _ _ _ h => h) (Or.inl ⟨by kernel_rfl, ?yMUL0⟩) (by assumption) ?_
  case yMUL0 => intro wq hSw; (try dsimp only at hSw); go_simp; (try with_reducible rfl)
  (try simp only [Act.put, List.setIfInBounds_toArray, List.set_cons_zero, List.set_cons_succ])
  refine take_named (i := 1) (d := 16) (v := ?vMUL1) rfl (by kernel_rfl) (by kernel_rfl) (by kernel_rfl) (by kernel_rfl) (fun _ _ _ h => h) (Or.inl ⟨by kernel_rfl, ?yMUL1⟩) (by assumption) ?_
  case yMUL1 => intro wq hSw; (try dsimp only at hSw); go_simp; (try with_reducible rfl)
  (try simp only [Act.put, List.setIfInBounds_toArray, List.set_cons_zero, List.set_cons_succ])
  refine take_named (i := 2) (d := 17) (v := ?vMUL2) rfl (by kernel_rfl) (by kernel_rfl) (by kernel_rfl) (by kernel_rfl) (fun _ _ _ h => h) (Or.inl ⟨by kernel_rfl, ?yMUL2⟩) (by assumption) ?_
  case yMUL2 => intro wq hSw; (try dsimp only at hSw); go_simp; (try with_reducible rfl)
  (try simp only [Act.put, List.setIfInBounds_toArray, List.set_cons_zero, List.set_cons_succ])
  refine take_named (i := 3) (d := 18) (v := ?vMUL3) rfl (by kernel_rfl) (by kernel_rfl) (by kernel_rfl) (by kernel_rfl) (fun _ _ _ h => h) (Or.inl ⟨by kernel_rfl, ?yMUL3⟩) (by assumption) ?_
  case yMUL3 => intro wq hSw; (try dsimp only at hSw); go_simp; (try with_reducible rfl)
  (try simp only [Act.put, List.setIfInBounds_toArray, List.set_cons_zero, List.set_cons_succ])
  refine take_named (i := 4) (d := 19) (v := ?vMUL4) rfl (by kernel_rfl) (by kernel_rfl) (by kernel_rfl) (by kernel_rfl) (fun _ _ _ h => h) (Or.inl ⟨by kernel_rfl, ?yMUL4⟩) (by assumption) ?_
  case yMUL4 => intro wq hSw; (try dsimp only at hSw); go_simp; (try with_reducible rfl)
  (try simp only [Act.put, List.setIfInBounds_toArray, List.set_cons_zero, List.set_cons_succ])
  refine take_named (i := 5) (d := 20) (v := ?vMUL5) rfl (by kernel_rfl) (by kernel_rfl) (by kernel_rfl) (by kernel_rfl) (fun _ _ _ h => h) (Or.inl ⟨by kernel_rfl, ?yMUL5⟩) (by assumption) ?_
  case yMUL5 => intro wq hSw; (try dsimp only at hSw); go_simp; (try with_reducible rfl)
  (try simp only [Act.put, List.setIfInBounds_toArray, List.set_cons_zero, List.set_cons_succ])
  refine take_named (i := 6) (d := 21) (v := ?vMUL6) rfl (by kernel_rfl) (by kernel_rfl) (by kernel_rfl) (by kernel_rfl) (fun _ _ _ h => h) (Or.inl ⟨by kernel_rfl, ?yMUL6⟩) (by assumption) ?_
  case yMUL6 => intro wq hSw; (try dsimp only at hSw); go_simp; (try with_reducible rfl)
  (try simp only [Act.put, List.setIfInBounds_toArray, List.set_cons_zero, List.set_cons_succ])
  refine take_named (i := 7) (d := 22) (v := ?vMUL7) rfl (by kernel_rfl) (by kernel_rfl) (by kernel_rfl) (by kernel_rfl) (fun _ _ _ h => h) (Or.inl ⟨by kernel_rfl, ?yMUL7⟩) (by assumption) ?_
  case yMUL7 => intro wq hSw; (try dsimp only at hSw); go_simp; (try with_reducible rfl)
  (try simp only [Act.put, List.setIfInBounds_toArray, List.set_cons_zero, List.set_cons_succ])
  refine take_named (i := 8) (d := 23) (v := ?vMUL8) rfl (by kernel_rfl) (by kernel_rfl) (by kernel_rfl) (by kernel_rfl) (fun _ _ _ h => h) (Or.inl ⟨by kernel_rfl, ?yMUL8⟩) (by assumption) ?_
  case yMUL8 => intro wq hSw; (try dsimp only at hSw); go_simp; (try with_reducible rfl)
  (try simp only [Act.put, List.setIfInBounds_toArray, List.set_cons_zero, List.set_cons_succ])
  refine take_named (i := 10) (d := 25) (v := ?vMUL10) rfl (by kernel_rfl) (by kernel_rfl) (by kernel_rfl) (by kernel_rfl) (fun _ _ _ h => h) (Or.inl ⟨by kernel_rfl, ?yMUL10⟩) (by assumption) ?_
  case yMUL10 => intro wq hSw; (try dsimp only at hSw); go_simp; (try with_reducible rfl)
  (try simp only [Act.put, List.setIfInBounds_toArray, List.set_cons_zero, List.set_cons_succ])
  refine take_named (i := 11) (d := 26) (v := ?vMUL11) rfl (by kernel_rfl) (by kernel_rfl) (by kernel_rfl) (by kernel_rfl) (fun _ _ _ h => h) (Or.inl ⟨by kernel_rfl, ?yMUL11⟩) (by assumption) ?_
  case yMUL11 => intro wq hSw; (try dsimp only at hSw); go_simp; (try with_reducible rfl)
  (try simp only [Act.put, List.setIfInBounds_toArray, List.set_cons_zero, List.set_cons_succ])
  refine take_named (i := 14) (d := 29) (v := ?vMUL14) rfl (by kernel_rfl) (by kernel_rfl) (by kernel_rfl) (by kernel_rfl) (fun _ _ _ h => h) (Or.inl ⟨by kernel_rfl, ?yMUL14⟩) (by assumption) ?_
  case yMUL14 => intro wq hSw; (try dsimp only at hSw); go_simp; (try with_reducible rfl)
  (try simp only [Act.put, List.setIfInBounds_toArray, List.set_cons_zero, List.set_cons_succ])
  refine take_named (i := 15) (d := 30) (v := ?vMUL15) rfl (by kernel_rfl) (by kernel_rfl) (by kernel_rfl) (by kernel_rfl) (fun _ _ _ h => h) (Or.inl ⟨by kernel_rfl, ?yMUL15⟩) (by assumption) ?_
  case yMUL15 => intro wq hSw; (try dsimp only at hSw); go_simp; (try with_reducible rfl)
  (try simp only [Act.put, List.setIfInBounds_toArray, List.set_cons_zero, List.set_cons_succ])
  refine take_named (i := 17) (d := 32) (v := ?vMUL17) rfl (by kernel_rfl) (by kernel_rfl) (by kernel_rfl) (by kernel_rfl) (fun _ _ _ h => h) (Or.inl ⟨by kernel_rfl, ?yMUL17⟩) (by assumption) ?_
  case yMUL17 => intro wq hSw; (try dsimp only at hSw); go_simp; (try with_reducible rfl)
  (try simp only [Act.put, List.setIfInBounds_toArray, List.set_cons_zero, List.set_cons_succ])
  refine take_named (i := 18) (d := 33) (v := ?vMUL18) rfl (by kernel_rfl) (by kernel_rfl) (by kernel_rfl) (by kernel_rfl) (fun _ _ _ h => h) (Or.inl ⟨by kernel_rfl, ?yMUL18⟩) (by assumption) ?_
  case yMUL18 => intro wq hSw; (try dsimp only at hSw); go_simp; (try with_reducible rfl)
  (try simp only [Act.put, List.setIfInBounds_toArray, List.set_cons_zero, List.set_cons_succ])
  refine wpAnyH_ready (rs := [9]) (by kernel_rfl) (by simp) ?_
  refine AllReadyH.cons rfl (fun K hK => ?_) AllReadyH.nil
  go_simp
  refine (HWa.out _).mono ?_
  rintro ee v1 ⟨Aa, ca, rfl, hda, -, hba⟩
  have bv1 := below_viaD hB0 hba
  have Da := Lib.hid hda
  refine hK.out _ _ (HKs.out _ bv1) (fun hHeldMUL9 => ?_)
  clear hK K hHeldMUL
  (try simp only [Act.put, List.setIfInBounds_toArray, List.set_cons_zero, List.set_cons_succ])
  refine wpAnyH_ready (rs := [12]) (by kernel_rfl) (by simp) ?_
  refine AllReadyH.cons rfl (fun K hK => ?_) AllReadyH.nil
  go_simp
  refine (HWb.out _).mono ?_
  rintro ee v2 ⟨Ab, cb, rfl, hdb, -, hbb⟩
  have bv2 := below_viaD bv1 hbb
  have Da_v2 := Lib.hid (DS.go Da.out hbb)
  have Db := Lib.hid hdb
  refine hK.out _ _ (HKs.out _ bv2) (fun hHeldMUL12 => ?_)
  clear hK K hHeldMUL9
  (try simp only [Act.put, List.setIfInBounds_toArray, List.set_cons_zero, List.set_cons_succ])
  refine wpAnyH_ready (rs := [13]) (by kernel_rfl) (by simp) ?_
  refine AllReadyH.cons rfl (fun K hK => ?_) AllReadyH.nil
  go_simp
  refine (HMa.out _ _ _ _ _ Da_v2.out Db.out).mono ?_
  rintro ee v3 ⟨Ac, cc, rfl, hdc, -, hbc⟩
  have bv3 := below_viaD bv2 hbc
  have Da_v3 := Lib.hid (DS.go Da_v2.out hbc)
  have Db_v3 := Lib.hid (DS.go Db.out hbc)
  have Dn := Lib.hid hdc
  refine hK.out _ _ (HKs.out _ bv3) (fun hHeldMUL13 => ?_)
  clear hK K hHeldMUL12
  (try simp only [Act.put, List.setIfInBounds_toArray, List.set_cons_zero, List.set_cons_succ])
  refine wpAnyH_ready (rs := [16]) (by kernel_rfl) (by simp) ?_
  refine AllReadyH.cons rfl (fun K hK => ?_) AllReadyH.nil
  go_simp
  refine (HWc.out _).mono ?_
  rintro ee v4 ⟨Ad, cd, rfl, hdd, -, hbd⟩
  have bv4 := below_viaD bv3 hbd
  have Da_v4 := Lib.hid (DS.go Da_v3.out hbd)
  have Db_v4 := Lib.hid (DS.go Db_v3.out hbd)
  have Dn_v4 := Lib.hid (DS.go Dn.out hbd)
  have Dd := Lib.hid hdd
  refine hK.out _ _ (HKs.out _ bv4) (fun hHeldMUL16 => ?_)
  clear hK K hHeldMUL13
  (try simp only [Act.put, List.setIfInBounds_toArray, List.set_cons_zero, List.set_cons_succ])
  refine wpAnyH_ready (rs := [19]) (by kernel_rfl) (by simp) ?_
  refine AllReadyH.cons rfl (fun K hK => ?_) AllReadyH.nil
  go_simp
  refine (HWd.out _).mono ?_
  rintro ee v5 ⟨Ae, ce, rfl, hde, -, hbe⟩
  have bv5 := below_viaD bv4 hbe
  have Da_v5 := Lib.hid (DS.go Da_v4.out hbe)
  have Db_v5 := Lib.hid (DS.go Db_v4.out hbe)
  have Dn_v5 := Lib.hid (DS.go Dn_v4.out hbe)
  have Dd_v5 := Lib.hid (DS.go Dd.out hbe)
  have De := Lib.hid hde
  refine hK.out _ _ (HKs.out _ bv5) (fun hHeldMUL19 => ?_)
  clear hK K hHeldMUL16
  (try simp only [Act.put, List.setIfInBounds_toArray, List.set_cons_zero, List.set_cons_succ])
  refine wpAnyH_ready (rs := [20]) (by kernel_rfl) (by simp) ?_
  refine AllReadyH.cons rfl (fun K hK => ?_) AllReadyH.nil
  go_simp
  refine (HMb.out _ _ _ _ _ Dd_v5.out De.out).mono ?_
  rintro ee v6 ⟨Af, cf, rfl, hdf, -, hbf⟩
  have bv6 := below_viaD bv5 hbf
  have Da_v6 := Lib.hid (DS.go Da_v5.out hbf)
  have Db_v6 := Lib.hid (DS.go Db_v5.out hbf)
  have Dn_v6 := Lib.hid (DS.go Dn_v5.out hbf)
  have Dd_v6 := Lib.hid (DS.go Dd_v5.out hbf)
  have De_v6 := Lib.hid (DS.go De.out hbf)
  have Df := Lib.hid hdf
  refine hK.out _ _ (HKs.out _ bv6) (fun hHeldMUL20 => ?_)
  clear hK K hHeldMUL19
  (try simp only [Act.put, List.setIfInBounds_toArray, List.set_cons_zero, List.set_cons_succ])
  refine wpAnyH_ready (rs := [21]) (by kernel_rfl) (by simp) ?_
  refine AllReadyH.cons rfl (fun K hK => ?_) AllReadyH.nil
  go_simp
  refine (HMk.out _ _ _ _ _ Dn_v6.out Df.out).mono ?_
  rintro ee v7 ⟨rfl, hbk⟩
  have bv7 := below_viaD bv6 hbk
  have y0 := blk_cell (HK2.out _ bv7) 0
  have y1 := blk_cell (HK2.out _ bv7) 1
  have y2 := blk_free (HK2.out _ bv7) 0
  have y3 := blk_free (HK2.out _ bv7) 1
  have Da_v7 := Lib.hid (DS.go Da_v6.out hbk)
  have Db_v7 := Lib.hid (DS.go Db_v6.out hbk)
  have Dn_v7 := Lib.hid (DS.go Dn_v6.out hbk)
  have Dd_v7 := Lib.hid (DS.go Dd_v6.out hbk)
  have De_v7 := Lib.hid (DS.go De_v6.out hbk)
  have Df_v7 := Lib.hid (DS.go Df.out hbk)
  refine hK.out _ _ (HKs.out _ bv7) (fun hHeldMUL21 => ?_)
  clear hK K hHeldMUL20
  (try simp only [Act.put, List.setIfInBounds_toArray, List.set_cons_zero, List.set_cons_succ])
  refine take_named (i := 22) (d := 37) (v := ?vMUL22) rfl (by kernel_rfl) (by kernel_rfl) (by kernel_rfl) (by kernel_rfl) (fun _ _ _ h => h) (Or.inl ⟨by kernel_rfl, ?yMUL22⟩) (by assumption) ?_
  case yMUL22 => intro wq hSw; (try dsimp only at hSw); go_simp; (try with_reducible rfl)
  (try simp only [Act.put, List.setIfInBounds_toArray, List.set_cons_zero, List.set_cons_succ])
  refine take_named (i := 23) (d := 38) (v := ?vMUL23) rfl (by kernel_rfl) (by kernel_rfl) (by kernel_rfl) (by kernel_rfl) (fun _ _ _ h => h) (Or.inl ⟨by kernel_rfl, ?yMUL23⟩) (by assumption) ?_
  case yMUL23 => intro wq hSw; (try dsimp only at hSw); go_simp; (try with_reducible rfl)
  (try simp only [Act.put, List.setIfInBounds_toArray, List.set_cons_zero, List.set_cons_succ])
  refine wpAnyH_ready (rs := [24]) (by kernel_rfl) (by simp) ?_
  refine AllReadyH.cons rfl (fun K hK => ?_) AllReadyH.nil
  go_simp
  refine hK.out _ _ (⟨keepS (keepS (HKs.out _ bv7).1 (by show g + 1 + 1 ≠ g; omega) _) (by show g + 1 + 1 ≠ g; omega) _, keepS (keepS (HKs.out _ bv7).2.1 (by show g + 1 + 1 ≠ g; omega) _) (by show g + 1 + 1 ≠ g; omega) _, keepS (keepS (HKs.out _ bv7).2.2.1 (by show g + 1 + 1 ≠ g + 1; omega) _) (by show g + 1 + 1 ≠ g + 1; omega) _, keepS (keepS (HKs.out _ bv7).2.2.2 (by show g + 1 + 1 ≠ g + 1; omega) _) (by show g + 1 + 1 ≠ g + 1; omega) _⟩) (fun hHeldMUL24 => ?_)
  clear hK K hHeldMUL21
  (try simp only [Act.put, List.setIfInBounds_toArray, List.set_cons_zero, List.set_cons_succ])
  refine take_named (i := 25) (d := 5) (v := ?vMUL25) rfl (by kernel_rfl) (by kernel_rfl) (by kernel_rfl) (by kernel_rfl) (fun _ _ _ h => h) (Or.inl ⟨by kernel_rfl, ?yMUL25⟩) (by assumption) ?_
  case yMUL25 => intro wq hSw; (try dsimp only at hSw); go_simp; (try with_reducible rfl)
  (try simp only [Act.put, List.setIfInBounds_toArray, List.set_cons_zero, List.set_cons_succ])
  refine wpAnyH_done (by kernel_rfl) ?_ _
  clear hHeldMUL24
  have hbz := below_viaD HB2.out bv7
  have z := blk_set (blk_set (HK2.out _ bv7) 0 (.int .i64 x)) 1 (.int .i64 y)
  have z0 := blk_cell z 0
  have z1 := blk_cell z 1
  have hg12 : w.heap.size ≤ g + 1 + 1 := by have := Hgw.out; omega
  go_wp2
  exact bodyPost_ret (v := .tuple #[.agg #[.int .i64 x, .int .i64 y], .int .i64 E]) (by simp [results, Tryd.results44, go_sem, z0, z1]) rfl ⟨rfl, (hbz.setCell (p := ⟨g + 1 + 1, 0, none⟩) hg12 _).setCell (p := ⟨g + 1 + 1, 1, none⟩) hg12 _⟩

set_option maxRecDepth 100000 in
set_option maxHeartbeats 4000000 in
theorem r01divF (fn fd gn gd : Int) (w : World) (hfn : -9223372036854775808 ≤ fn ∧ fn ≤ 9223372036854775807) (hfd : 0 < fd ∧ fd ≤ 9223372036854775807) (hgn : 0 < gn ∧ gn ≤ 9223372036854775807) (hgd : 0 < gd ∧ gd ≤ 9223372036854775807) (hf : rightF (fn, fd) = true) (hg2 : rightF (gn, gd) = true) :
    Calls Tryd.prog 45 #[.agg #[.int .i64 fn, .int .i64 fd], .agg #[.int .i64 gn, .int .i64 gd]] w fun e w' => e = .returned (.tuple #[fV (mk0 (decide (fn < 0)) (fn.natAbs * gd.natAbs) (fd.natAbs * gn.natAbs)), .int .i64 (mkE (decide (fn < 0)) (fn.natAbs * gd.natAbs) (fd.natAbs * gn.natAbs))]) ∧ Below w.heap.size w w' := by
  have HR1 := Lib.hid (fun W => r01right fn fd W hfn (by omega))
  have HR2 := Lib.hid (fun W => r01right gn gd W (by omega) (by omega))
  rw [hf] at HR1
  rw [hg2] at HR2
  have HWa := Lib.hid (fun W => r01whole fn W hfn)
  have HWb := Lib.hid (fun W => r01whole gn W (by omega))
  have HWc := Lib.hid (fun W => r01whole fd W (by omega))
  have HWd := Lib.hid (fun W => r01whole gd W (by omega))
  have l1 := ln_i64 hfn
  have l2 := ln_i64 (n := gn) (by omega)
  have l3 := ln_i64 (n := fd) (by omega)
  have l4 := ln_i64 (n := gd) (by omega)
  have HMa := Lib.hid (fun A B ca cb W h1 h2 => r01mul fn.natAbs gd.natAbs A B ca cb W h1 h2 (by omega) (by omega))
  have HMb := Lib.hid (fun A B ca cb W h1 h2 => r01mul fd.natAbs gn.natAbs A B ca cb W h1 h2 (by omega) (by omega))
  have hN : ln (fn.natAbs * gd.natAbs) ≤ 80 := mul_ln l1 l4
  have hD : ln (fd.natAbs * gn.natAbs) ≤ 80 := mul_ln l3 l2
  have hDp : 0 < fd.natAbs * gn.natAbs := Nat.mul_pos (by omega) (by omega)
  have HMk := Lib.hid (fun A B ca cb W h1 h2 => r01make0 (decide (fn < 0)) (fn.natAbs * gd.natAbs) (fd.natAbs * gn.natAbs) A B ca cb W h1 h2 hN hD hDp)
  obtain ⟨F, hF⟩ : ∃ F, mk0 (decide (fn < 0)) (fn.natAbs * gd.natAbs) (fd.natAbs * gn.natAbs) = F := ⟨_, rfl⟩
  obtain ⟨E, hE⟩ : ∃ E, mkE (decide (fn < 0)) (fn.natAbs * gd.natAbs) (fd.natAbs * gn.natAbs) = E := ⟨_, rfl⟩
  rw [hF, hE] at HMk ⊢
  obtain ⟨x, y⟩ := F
  unfold fV at HMk ⊢
  dsimp only at HMk ⊢
  have t1 : ¬ gn < 0 := by omega
  have t2 : decide (gn < 0) = false := decide_eq_false t1
  have t3 : (gn == 0) = false := beq_eq_false_iff_ne.2 (by omega)
  obtain ⟨g, hg⟩ : ∃ g, w.heap.size = g := ⟨_, rfl⟩
  obtain ⟨W1, hW1⟩ : ∃ V, ((w.alloc (.cells #[.int .i64 fn, .int .i64 fd] 23)).alloc (.cells #[.int .i64 gn, .int .i64 gd] 23)).alloc (.cells #[.int .i64 0, .int .i64 0] 23) = V := ⟨_, rfl⟩
  have hb1 : Below w.heap.size w W1 := by rw [← hW1]; exact (by repeat (first | exact Below.refl _ _ | assumption | refine Below.drew ?_ | refine below_drewN ?_ _ | refine Below.alloc ?_ (by first | omega | (simp; done) | (simp; omega)) _ | refine Below.setCell ?_ (by first | omega | (simp; done) | (simp; omega)) _))
  have k0 : W1.heap[g]? = some (.cells #[.int .i64 fn, .int .i64 fd] 23 (0, 0)) := by rw [← hW1]; exact blk_alloc (blk_alloc (blk_new _ hg.symm) _) _
  have k1 : W1.heap[g + 1]? = some (.cells #[.int .i64 gn, .int .i64 gd] 23 (0, 0)) := by rw [← hW1]; exact blk_alloc (blk_new _ (by simp; omega)) _
  have k2 : W1.heap[g + 1 + 1]? = some (.cells #[.int .i64 0, .int .i64 0] 23 (0, 0)) := by rw [← hW1]; exact blk_new _ (by simp; omega)
  have HK := Lib.hid (fun (W : World) (hb : Below W1.heap.size W1 W) => (show W.heap[g]? = some (.cells #[.int .i64 fn, .int .i64 fd] 23 (0, 0)) ∧ W.heap[g + 1]? = some (.cells #[.int .i64 gn, .int .i64 gd] 23 (0, 0)) ∧ W.heap[g + 1 + 1]? = some (.cells #[.int .i64 0, .int .i64 0] 23 (0, 0)) from ⟨blk_below k0 hb (blk_lt k0), blk_below k1 hb (blk_lt k1), blk_below k2 hb (blk_lt k2)⟩))
  have Hgw := Lib.hid (show w.heap.size ≤ g from Nat.le_of_eq hg)
  have HB1 := Lib.hid hb1
  have c0 := blk_cell k0 0
  have c1 := blk_cell k0 1
  clear hF hE hfn hfd hgn hgd hf hg2 hb1 k0 k1 k2 l1 l2 l3 l4 hN hD hDp
  go_enter Tryd.func45, Tryd.ntmps45
  go_wp2_with fail
  (try rw [hW1])
  (try rw [hg])
  clear hW1 hg
  refine (HR1.out _).mono ?_
  rintro ee u1 ⟨rfl, hr1⟩
  obtain ⟨k0, k1, k2⟩ := HK.out _ hr1
  have c2 := blk_cell k1 0
  have c3 := blk_cell k1 1
  clear k0 k1 k2 c0 c1
  go_wp2_with fail
  refine (HR2.out _).mono ?_
  rintro ee u2 ⟨rfl, hr2⟩
  have hr12 := below_viaD hr1 hr2
  obtain ⟨k0, k1, k2⟩ := HK.out _ hr12
  have c0 := blk_cell k0 0
  have c1 := blk_cell k0 1
  have c2 := blk_cell k1 0
  have c3 := blk_cell k1 1
  have HKs := Lib.hid (fun (W : World) (hb : Below u2.heap.size u2 W) => (show W.cell? ⟨g, 0, none⟩ = some (.int .i64 fn) ∧ W.cell? ⟨g, 1, none⟩ = some (.int .i64 fd) ∧ W.cell? ⟨g + 1, 0, none⟩ = some (.int .i64 gn) ∧ W.cell? ⟨g + 1, 1, none⟩ = some (.int .i64 gd) from ⟨keepD hb (blk_lt k0) c0, keepD hb (blk_lt k0) c1, keepD hb (blk_lt k1) c2, keepD hb (blk_lt k1) c3⟩))
  have HK2 := Lib.hid (fun (W : World) (hb : Below u2.heap.size u2 W) => (show W.heap[g + 1 + 1]? = some (.cells #[.int .i64 0, .int .i64 0] 23 (0, 0)) from blk_below k2 hb (blk_lt k2)))
  have HB2 := Lib.hid (below_viaD HB1.out hr12)
  have hS0 : (fun wq : World => wq.cell? ⟨g, 0, none⟩ = some (.int .i64 fn) ∧ wq.cell? ⟨g, 1, none⟩ = some (.int .i64 fd) ∧ wq.cell? ⟨g + 1, 0, none⟩ = some (.int .i64 gn) ∧ wq.cell? ⟨g + 1, 1, none⟩ = some (.int .i64 gd)) u2 := ⟨c0, c1, c2, c3⟩
  have hB0 : Below u2.heap.size u2 u2.drew := (Below.refl _ _).drew
  clear hr1 hr2 hr12 k0 k1 k2 HB1 HK HR1 HR2
  go_upto_region 3 with fail
  refine wp_region_held_drew (S := (fun wq => wq.cell? ⟨g, 0, none⟩ = some (.int .i64 fn) ∧ wq.cell? ⟨g, 1, none⟩ = some (.int .i64 fd) ∧ wq.cell? ⟨g + 1, 0, none⟩ = some (.int .i64 gn) ∧ wq.cell? ⟨g + 1, 1, none⟩ = some (.int .i64 gd))) (by kernel_rfl) hS0 (fun hHeldDIV => ?_)
  refine take_named (i := 0) (d := 20) (v := ?vDIV0) rfl (by kernel_rfl) (by kernel_rfl) (by kernel_rfl) (by kernel_rfl) (fun _ _ _ h => h) (Or.inl ⟨by kernel_rfl, ?yDIV0⟩) (by assumption) ?_
  case yDIV0 => intro wq hSw; (try dsimp only at hSw); go_simp; (try with_reducible rfl)
  (try simp only [Act.put, List.setIfInBounds_toArray, List.set_cons_zero, List.set_cons_succ])
  refine take_named (i := 1) (d := 21) (v := ?vDIV1) rfl (by kernel_rfl) (by kernel_rfl) (by kernel_rfl) (by kernel_rfl) (fun _ _ _ h => h) (Or.inl ⟨by kernel_rfl, ?yDIV1⟩) (by assumption) ?_
  case yDIV1 => intro wq hSw; (try dsimp only at hSw); go_simp; (try with_reducible rfl)
  (try simp only [Act.put, List.setIfInBounds_toArray, List.set_cons_zero, List.set_cons_succ])
  refine take_named (i := 2) (d := 22) (v := ?vDIV2) rfl (by kernel_rfl) (by kernel_rfl) (by kernel_rfl) (by kernel_rfl) (fun _ _ _ h => h) (Or.inl ⟨by kernel_rfl, ?yDIV2⟩) (by assumption) ?_
  case yDIV2 => intro wq hSw; (try dsimp only at hSw); go_simp; (try with_reducible rfl)
  (try simp only [Act.put, List.setIfInBounds_toArray, List.set_cons_zero, List.set_cons_succ])
  refine take_named (i := 3) (d := 23) (v := ?vDIV3) rfl (by kernel_rfl) (by kernel_rfl) (by kernel_rfl) (by kernel_rfl) (fun _ _ _ h => h) (Or.inl ⟨by kernel_rfl, ?yDIV3⟩) (by assumption) ?_
  case yDIV3 => intro wq hSw; (try dsimp only at hSw); go_simp; (try with_reducible rfl)
  (try simp only [Act.put, List.setIfInBounds_toArray, List.set_cons_zero, List.set_cons_succ])
  refine take_named (i := 4) (d := 24) (v := ?vDIV4) rfl (by kernel_rfl) (by kernel_rfl) (by kernel_rfl) (by kernel_rfl) (fun _ _ _ h => h) (Or.inl ⟨by kernel_rfl, ?yDIV4⟩) (by assumption) ?_
  case yDIV4 => intro wq hSw; (try dsimp only at hSw); go_simp; (try with_reducible rfl)
  (try simp only [Act.put, List.setIfInBounds_toArray, List.set_cons_zero, List.set_cons_succ])
  refine take_named (i := 5) (d := 25) (v := ?vDIV5) rfl (by kernel_rfl) (by kernel_rfl) (by kernel_rfl) (by kernel_rfl) (fun _ _ _ h => h) (Or.inl ⟨by kernel_rfl, ?yDIV5⟩) (by assumption) ?_
  case yDIV5 => intro wq hSw; (try dsimp only at hSw); go_simp; (try with_reducible rfl)
  (try simp only [Act.put, List.setIfInBounds_toArray, List.set_cons_zero, List.set_cons_succ])
  refine take_named (i := 6) (d := 26) (v := ?vDIV6) rfl (by kernel_rfl) (by kernel_rfl) (by kernel_rfl) (by kernel_rfl) (fun _ _ _ h => h) (Or.inl ⟨by kernel_rfl, ?yDIV6⟩) (by assumption) ?_
  case yDIV6 => intro wq hSw; (try dsimp only at hSw); go_simp; (try with_reducible rfl)
  (try simp only [Act.put, List.setIfInBounds_toArray, List.set_cons_zero, List.set_cons_succ])
  refine take_named (i := 7) (d := 27) (v := ?vDIV7) rfl (by kernel_rfl) (by kernel_rfl) (by kernel_rfl) (by kernel_rfl) (fun _ _ _ h => h) (Or.inl ⟨by kernel_rfl, ?yDIV7⟩) (by assumption) ?_
  case yDIV7 => intro wq hSw; (try dsimp only at hSw); go_simp; (try with_reducible rfl)
  (try simp only [Act.put, List.setIfInBounds_toArray, List.set_cons_zero, List.set_cons_succ])
  refine take_named (i := 8) (d := 28) (v := ?vDIV8) rfl (by kernel_rfl) (by kernel_rfl) (by kernel_rfl) (by kernel_rfl) (fun _ _ _ h => h) (Or.inl ⟨by kernel_rfl, ?yDIV8⟩) (by assumption) ?_
  case yDIV8 => intro wq hSw; (try dsimp only at hSw); go_simp; (try with_reducible rfl)
  (try simp only [Act.put, List.setIfInBounds_toArray, List.set_cons_zero, List.set_cons_succ])
  refine take_named (i := 10) (d := 30) (v := ?vDIV10) rfl (by kernel_rfl) (by kernel_rfl) (by kernel_rfl) (by kernel_rfl) (fun _ _ _ h => h) (Or.inl ⟨by kernel_rfl, ?yDIV10⟩) (by assumption) ?_
  case yDIV10 => intro wq hSw; (try dsimp only at hSw); go_simp; (try with_reducible rfl)
  (try simp only [Act.put, List.setIfInBounds_toArray, List.set_cons_zero, List.set_cons_succ])
  refine take_named (i := 11) (d := 31) (v := ?vDIV11) rfl (by kernel_rfl) (by kernel_rfl) (by kernel_rfl) (by kernel_rfl) (fun _ _ _ h => h) (Or.inl ⟨by kernel_rfl, ?yDIV11⟩) (by assumption) ?_
  case yDIV11 => intro wq hSw; (try dsimp only at hSw); go_simp; (try with_reducible rfl)
  (try simp only [Act.put, List.setIfInBounds_toArray, List.set_cons_zero, List.set_cons_succ])
  refine take_named (i := 14) (d := 34) (v := ?vDIV14) rfl (by kernel_rfl) (by kernel_rfl) (by kernel_rfl) (by kernel_rfl) (fun _ _ _ h => h) (Or.inl ⟨by kernel_rfl, ?yDIV14⟩) (by assumption) ?_
  case yDIV14 => intro wq hSw; (try dsimp only at hSw); go_simp; (try with_reducible rfl)
  (try simp only [Act.put, List.setIfInBounds_toArray, List.set_cons_zero, List.set_cons_succ])
  refine take_named (i := 15) (d := 35) (v := ?vDIV15) rfl (by kernel_rfl) (by kernel_rfl) (by kernel_rfl) (by kernel_rfl) (fun _ _ _ h => h) (Or.inl ⟨by kernel_rfl, ?yDIV15⟩) (by assumption) ?_
  case yDIV15 => intro wq hSw; (try dsimp only at hSw); go_simp; (try with_reducible rfl)
  (try simp only [Act.put, List.setIfInBounds_toArray, List.set_cons_zero, List.set_cons_succ])
  refine take_named (i := 17) (d := 37) (v := ?vDIV17) rfl (by kernel_rfl) (by kernel_rfl) (by kernel_rfl) (by kernel_rfl) (fun _ _ _ h => h) (Or.inl ⟨by kernel_rfl, ?yDIV17⟩) (by assumption) ?_
  case yDIV17 => intro wq hSw; (try dsimp only at hSw); go_simp; (try with_reducible rfl)
  (try simp only [Act.put, List.setIfInBounds_toArray, List.set_cons_zero, List.set_cons_succ])
  refine take_named (i := 18) (d := 38) (v := ?vDIV18) rfl (by kernel_rfl) (by kernel_rfl) (by kernel_rfl) (by kernel_rfl) (fun _ _ _ h => h) (Or.inl ⟨by kernel_rfl, ?yDIV18⟩) (by assumption) ?_
  case yDIV18 => intro wq hSw; (try dsimp only at hSw); go_simp; (try with_reducible rfl)
  (try simp only [Act.put, List.setIfInBounds_toArray, List.set_cons_zero, List.set_cons_succ])
  refine wpAnyH_ready (rs := [9]) (by kernel_rfl) (by simp) ?_
  refine AllReadyH.cons rfl (fun K hK => ?_) AllReadyH.nil
  go_simp
  refine (HWa.out _).mono ?_
  rintro ee v1 ⟨Aa, ca, rfl, hda, -, hba⟩
  have bv1 := below_viaD hB0 hba
  have Da := Lib.hid hda
  refine hK.out _ _ (HKs.out _ bv1) (fun hHeldDIV9 => ?_)
  clear hK K hHeldDIV
  (try simp only [Act.put, List.setIfInBounds_toArray, List.set_cons_zero, List.set_cons_succ])
  refine wpAnyH_ready (rs := [12]) (by kernel_rfl) (by simp) ?_
  refine AllReadyH.cons rfl (fun K hK => ?_) AllReadyH.nil
  go_simp
  refine (HWd.out _).mono ?_
  rintro ee v2 ⟨Ab, cb, rfl, hdb, -, hbb⟩
  have bv2 := below_viaD bv1 hbb
  have Da_v2 := Lib.hid (DS.go Da.out hbb)
  have Db := Lib.hid hdb
  refine hK.out _ _ (HKs.out _ bv2) (fun hHeldDIV12 => ?_)
  clear hK K hHeldDIV9
  (try simp only [Act.put, List.setIfInBounds_toArray, List.set_cons_zero, List.set_cons_succ])
  refine wpAnyH_ready (rs := [13]) (by kernel_rfl) (by simp) ?_
  refine AllReadyH.cons rfl (fun K hK => ?_) AllReadyH.nil
  go_simp
  refine (HMa.out _ _ _ _ _ Da_v2.out Db.out).mono ?_
  rintro ee v3 ⟨Ac, cc, rfl, hdc, -, hbc⟩
  have bv3 := below_viaD bv2 hbc
  have Da_v3 := Lib.hid (DS.go Da_v2.out hbc)
  have Db_v3 := Lib.hid (DS.go Db.out hbc)
  have Dn := Lib.hid hdc
  refine hK.out _ _ (HKs.out _ bv3) (fun hHeldDIV13 => ?_)
  clear hK K hHeldDIV12
  (try simp only [Act.put, List.setIfInBounds_toArray, List.set_cons_zero, List.set_cons_succ])
  refine wpAnyH_ready (rs := [16]) (by kernel_rfl) (by simp) ?_
  refine AllReadyH.cons rfl (fun K hK => ?_) AllReadyH.nil
  go_simp
  refine (HWc.out _).mono ?_
  rintro ee v4 ⟨Ad, cd, rfl, hdd, -, hbd⟩
  have bv4 := below_viaD bv3 hbd
  have Da_v4 := Lib.hid (DS.go Da_v3.out hbd)
  have Db_v4 := Lib.hid (DS.go Db_v3.out hbd)
  have Dn_v4 := Lib.hid (DS.go Dn.out hbd)
  have Dd := Lib.hid hdd
  refine hK.out _ _ (HKs.out _ bv4) (fun hHeldDIV16 => ?_)
  clear hK K hHeldDIV13
  (try simp only [Act.put, List.setIfInBounds_toArray, List.set_cons_zero, List.set_cons_succ])
  refine wpAnyH_ready (rs := [19]) (by kernel_rfl) (by simp) ?_
  refine AllReadyH.cons rfl (fun K hK => ?_) AllReadyH.nil
  go_simp
  refine (HWb.out _).mono ?_
  rintro ee v5 ⟨Ae, ce, rfl, hde, -, hbe⟩
  have bv5 := below_viaD bv4 hbe
  have Da_v5 := Lib.hid (DS.go Da_v4.out hbe)
  have Db_v5 := Lib.hid (DS.go Db_v4.out hbe)
  have Dn_v5 := Lib.hid (DS.go Dn_v4.out hbe)
  have Dd_v5 := Lib.hid (DS.go Dd.out hbe)
  have De := Lib.hid hde
  refine hK.out _ _ (HKs.out _ bv5) (fun hHeldDIV19 => ?_)
  clear hK K hHeldDIV16
  (try simp only [Act.put, List.setIfInBounds_toArray, List.set_cons_zero, List.set_cons_succ])
  refine wpAnyH_ready (rs := [20]) (by kernel_rfl) (by simp) ?_
  refine AllReadyH.cons rfl (fun K hK => ?_) AllReadyH.nil
  go_simp
  refine (HMb.out _ _ _ _ _ Dd_v5.out De.out).mono ?_
  rintro ee v6 ⟨Af, cf, rfl, hdf, -, hbf⟩
  have bv6 := below_viaD bv5 hbf
  have Da_v6 := Lib.hid (DS.go Da_v5.out hbf)
  have Db_v6 := Lib.hid (DS.go Db_v5.out hbf)
  have Dn_v6 := Lib.hid (DS.go Dn_v5.out hbf)
  have Dd_v6 := Lib.hid (DS.go Dd_v5.out hbf)
  have De_v6 := Lib.hid (DS.go De.out hbf)
  have Df := Lib.hid hdf
  refine hK.out _ _ (HKs.out _ bv6) (fun hHeldDIV20 => ?_)
  clear hK K hHeldDIV19
  (try simp only [Act.put, List.setIfInBounds_toArray, List.set_cons_zero, List.set_cons_succ])
  refine wpAnyH_ready (rs := [21]) (by kernel_rfl) (by simp) ?_
  refine AllReadyH.cons rfl (fun K hK => ?_) AllReadyH.nil
  go_simp
  refine (HMk.out _ _ _ _ _ Dn_v6.out Df.out).mono ?_
  rintro ee v7 ⟨rfl, hbk⟩
  have bv7 := below_viaD bv6 hbk
  have y0 := blk_cell (HK2.out _ bv7) 0
  have y1 := blk_cell (HK2.out _ bv7) 1
  have y2 := blk_free (HK2.out _ bv7) 0
  have y3 := blk_free (HK2.out _ bv7) 1
  have Da_v7 := Lib.hid (DS.go Da_v6.out hbk)
  have Db_v7 := Lib.hid (DS.go Db_v6.out hbk)
  have Dn_v7 := Lib.hid (DS.go Dn_v6.out hbk)
  have Dd_v7 := Lib.hid (DS.go Dd_v6.out hbk)
  have De_v7 := Lib.hid (DS.go De_v6.out hbk)
  have Df_v7 := Lib.hid (DS.go Df.out hbk)
  refine hK.out _ _ (HKs.out _ bv7) (fun hHeldDIV21 => ?_)
  clear hK K hHeldDIV20
  (try simp only [Act.put, List.setIfInBounds_toArray, List.set_cons_zero, List.set_cons_succ])
  refine take_named (i := 22) (d := 42) (v := ?vDIV22) rfl (by kernel_rfl) (by kernel_rfl) (by kernel_rfl) (by kernel_rfl) (fun _ _ _ h => h) (Or.inl ⟨by kernel_rfl, ?yDIV22⟩) (by assumption) ?_
  case yDIV22 => intro wq hSw; (try dsimp only at hSw); go_simp; (try with_reducible rfl)
  (try simp only [Act.put, List.setIfInBounds_toArray, List.set_cons_zero, List.set_cons_succ])
  refine take_named (i := 23) (d := 43) (v := ?vDIV23) rfl (by kernel_rfl) (by kernel_rfl) (by kernel_rfl) (by kernel_rfl) (fun _ _ _ h => h) (Or.inl ⟨by kernel_rfl, ?yDIV23⟩) (by assumption) ?_
  case yDIV23 => intro wq hSw; (try dsimp only at hSw); go_simp; (try with_reducible rfl)
  (try simp only [Act.put, List.setIfInBounds_toArray, List.set_cons_zero, List.set_cons_succ])
  refine wpAnyH_ready (rs := [24]) (by kernel_rfl) (by simp) ?_
  refine AllReadyH.cons rfl (fun K hK => ?_) AllReadyH.nil
  go_simp
  refine hK.out _ _ (⟨keepS (keepS (HKs.out _ bv7).1 (by show g + 1 + 1 ≠ g; omega) _) (by show g + 1 + 1 ≠ g; omega) _, keepS (keepS (HKs.out _ bv7).2.1 (by show g + 1 + 1 ≠ g; omega) _) (by show g + 1 + 1 ≠ g; omega) _, keepS (keepS (HKs.out _ bv7).2.2.1 (by show g + 1 + 1 ≠ g + 1; omega) _) (by show g + 1 + 1 ≠ g + 1; omega) _, keepS (keepS (HKs.out _ bv7).2.2.2 (by show g + 1 + 1 ≠ g + 1; omega) _) (by show g + 1 + 1 ≠ g + 1; omega) _⟩) (fun hHeldDIV24 => ?_)
  clear hK K hHeldDIV21
  (try simp only [Act.put, List.setIfInBounds_toArray, List.set_cons_zero, List.set_cons_succ])
  refine take_named (i := 25) (d := 5) (v := ?vDIV25) rfl (by kernel_rfl) (by kernel_rfl) (by kernel_rfl) (by kernel_rfl) (fun _ _ _ h => h) (Or.inl ⟨by kernel_rfl, ?yDIV25⟩) (by assumption) ?_
  case yDIV25 => intro wq hSw; (try dsimp only at hSw); go_simp; (try with_reducible rfl)
  (try simp only [Act.put, List.setIfInBounds_toArray, List.set_cons_zero, List.set_cons_succ])
  refine wpAnyH_done (by kernel_rfl) ?_ _
  clear hHeldDIV24
  have hbz := below_viaD HB2.out bv7
  have z := blk_set (blk_set (HK2.out _ bv7) 0 (.int .i64 x)) 1 (.int .i64 y)
  have z0 := blk_cell z 0
  have z1 := blk_cell z 1
  have hg12 : w.heap.size ≤ g + 1 + 1 := by have := Hgw.out; omega
  go_wp2
  exact bodyPost_ret (v := .tuple #[.agg #[.int .i64 x, .int .i64 y], .int .i64 E]) (by simp [results, Tryd.results45, go_sem, z0, z1]) rfl ⟨rfl, (hbz.setCell (p := ⟨g + 1 + 1, 0, none⟩) hg12 _).setCell (p := ⟨g + 1 + 1, 1, none⟩) hg12 _⟩

end Go.Proofs.YtlobdeakgoicpaaDoor
