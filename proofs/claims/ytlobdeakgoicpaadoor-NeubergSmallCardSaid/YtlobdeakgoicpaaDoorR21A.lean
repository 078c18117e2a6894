/- The walk of finesseref21.Adjust, over what Cmp, Add, Mul, Div and Sub return. -/
import Derived.Test.YtlobdeakgoicpaaDoorR21
namespace Go.Proofs.YtlobdeakgoicpaaDoor
open Go.RowKit

/-- A cut: what follows is said once, of the world and an address as letters. -/
theorem cutW {F : World → Nat → Prop} {X : Prop} {C : World → Nat → Prop} (h : (∀ U g, C U g → F U g) → X) (k : ∀ U g, C U g → F U g) : X := h k

theorem cutV {F : World → Prop} {X : Prop} {C : World → Prop} (h : (∀ U, C U → F U) → X) (k : ∀ U, C U → F U) : X := h k

set_option maxRecDepth 100000 in
set_option maxHeartbeats 4000000 in
theorem r21adjust_walk (f1 f2 n all c a1 a2 b1 b2 d1 d2 r1 r2 e1 e2 e3 e4 : Int) (w : World) (hb : boardB n all = true) (hn : 1 ≤ n) (hr : rightF (f1, f2) = true) (hf : 0 ≤ f1 ∧ f1 ≤ 9223372036854775807) (h2 : 0 ≤ f2 ∧ f2 ≤ 10000) (hc : c ≤ 0)
    (HCm : ∀ W, Calls Tryd.prog 41 #[.agg #[.int .i64 f1, .int .i64 f2], .agg #[.int .i64 (2 * n - 2), .int .i64 1]] W fun e w' => e = .returned (.tuple #[.int .i64 c, .int .i64 0]) ∧ Below W.heap.size W w')
    (HAd : ∀ W, Calls Tryd.prog 43 #[.agg #[.int .i64 f1, .int .i64 f2], .agg #[.int .i64 1, .int .i64 1]] W fun e w' => e = .returned (.tuple #[.agg #[.int .i64 a1, .int .i64 a2], .int .i64 e1]) ∧ Below W.heap.size W w')
    (HMu : ∀ W, Calls Tryd.prog 44 #[.agg #[.int .i64 a1, .int .i64 a2], .agg #[.int .i64 all, .int .i64 1]] W fun e w' => e = .returned (.tuple #[.agg #[.int .i64 b1, .int .i64 b2], .int .i64 e2]) ∧ Below W.heap.size W w')
    (HDi : ∀ W, Calls Tryd.prog 45 #[.agg #[.int .i64 b1, .int .i64 b2], .agg #[.int .i64 n, .int .i64 1]] W fun e w' => e = .returned (.tuple #[.agg #[.int .i64 d1, .int .i64 d2], .int .i64 e3]) ∧ Below W.heap.size W w')
    (HSu : ∀ W, Calls Tryd.prog 46 #[.agg #[.int .i64 d1, .int .i64 d2], .agg #[.int .i64 1, .int .i64 1]] W fun e w' => e = .returned (.tuple #[.agg #[.int .i64 r1, .int .i64 r2], .int .i64 e4]) ∧ Below W.heap.size W w') :
    Calls Tryd.prog 12 #[.agg #[.int .i64 f1, .int .i64 f2], .int .i64 n, .int .i64 all] w fun e w' => e = .returned (.tuple #[.agg #[.int .i64 r1, .int .i64 r2], .int .i64 0]) ∧ Below w.heap.size w w' := by
  have HB := Lib.hid (fun W => r21board n all W)
  obtain ⟨g1, g2, g3, g4⟩ := (boardB_iff n all).1 hb
  rw [hb] at HB
  have HRi := Lib.hid (fun W => r01right f1 f2 W (by omega) (by omega))
  rw [hr] at HRi
  have HWh := Lib.hid (fun n W => r21whole n W)
  have HCm := Lib.hid HCm
  have HAd := Lib.hid HAd
  have HMu := Lib.hid HMu
  have HDi := Lib.hid HDi
  have HSu := Lib.hid HSu
  have i1 := IntWalk.i64_in (2 * n) (by omega)
  have i2 := IntWalk.i64_in (2 * n - 2) (by omega)
  have t1 : ¬ n < 1 := by omega
  have t2 : ¬ f1 < 0 := by omega
  have t3 : ¬ 10000 < f2 := by omega
  have t4 : ¬ 0 < c := by omega
  obtain ⟨g, hg⟩ : ∃ g, w.heap.size = g := ⟨_, rfl⟩
  obtain ⟨W1, hW1⟩ : ∃ V, (w.alloc (.cells #[.int .i64 f1, .int .i64 f2] 23)).alloc (.cells #[.int .i64 0, .int .i64 0] 23) = V := ⟨_, rfl⟩
  have hb1 : Below w.heap.size w W1 := by rw [← hW1]; exact (by repeat (first | exact Below.refl _ _ | assumption | refine Below.drew ?_ | refine below_drewN ?_ _ | refine Below.alloc ?_ (by first | omega | (simp; done) | (simp; omega)) _ | refine Below.setCell ?_ (by first | omega | (simp; done) | (simp; omega)) _))
  have hz1 : W1.heap.size = g + 2 := by rw [← hW1]; simp; omega
  have k0 : W1.heap[g]? = some (.cells #[.int .i64 f1, .int .i64 f2] 23 (0, 0)) := by rw [← hW1]; exact blk_alloc (blk_new _ hg.symm) _
  have k1 : W1.heap[g + 1]? = some (.cells #[.int .i64 0, .int .i64 0] 23 (0, 0)) := by rw [← hW1]; exact blk_new _ (by simp; omega)
  have HK := Lib.hid (fun (W : World) (hb : Below W1.heap.size W1 W) => (show W.heap[g]? = some (.cells #[.int .i64 f1, .int .i64 f2] 23 (0, 0)) from blk_below k0 hb (blk_lt k0)))
  have HK1 := Lib.hid (fun (W : World) (hb : Below W1.heap.size W1 W) => (show W.heap[g + 1]? = some (.cells #[.int .i64 0, .int .i64 0] 23 (0, 0)) from blk_below k1 hb (blk_lt k1)))
  have Hgw := Lib.hid (show w.heap.size ≤ g + 1 by omega)
  have HB1 := Lib.hid hb1
  have Hz1 := Lib.hid hz1
  have c0 := blk_cell k0 0
  have c1 := blk_cell k0 1
  clear hb hn hr hf h2 hc g1 g2 g3 g4 hb1 k0 k1 hz1
  go_enter Tryd.func12, Tryd.ntmps12
  go_wp2_with fail
  (try rw [hW1])
  (try rw [hg])
  clear hW1 hg
  refine (HB.out _).mono ?_
  rintro ee u0 ⟨rfl, rfl⟩
  go_wp2_with fail
  refine (HRi.out _).mono ?_
  rintro ee u1 ⟨rfl, hr1⟩
  have k0 := HK.out _ hr1
  clear c0 c1
  have c0 := blk_cell k0 0
  have c1 := blk_cell k0 1
  have HKsC := Lib.hid (fun (W : World) (hb : Below u1.heap.size u1 W) => (show W.cell? ⟨g, 0, none⟩ = some (.int .i64 f1) ∧ W.cell? ⟨g, 1, none⟩ = some (.int .i64 f2) from ⟨keepD hb (blk_lt k0) c0, keepD hb (blk_lt k0) c1⟩))
  have hSC : (fun wq : World => wq.cell? ⟨g, 0, none⟩ = some (.int .i64 f1) ∧ wq.cell? ⟨g, 1, none⟩ = some (.int .i64 f2)) u1 := ⟨c0, c1⟩
  have hBC : Below u1.heap.size u1 u1.drew := (Below.refl _ _).drew
  have Hr1 := Lib.hid hr1
  clear hr1 k0
  go_upto_region 3 with fail
  refine wp_region_held_drew (S := (fun wq => wq.cell? ⟨g, 0, none⟩ = some (.int .i64 f1) ∧ wq.cell? ⟨g, 1, none⟩ = some (.int .i64 f2))) (by kernel_rfl) hSC (fun hHeldC => ?_)
  refine take_named (i := 0) (d := 37) (v := ?vC0) rfl (by kernel_rfl) (by kernel_rfl) (by kernel_rfl) (by kernel_rfl) (fun _ _ _ h => h) (Or.inl ⟨by kernel_rfl, ?yC0⟩) (by assumption) ?_
  case yC0 => intro wq hSw; (try dsimp only at hSw); go_simp; (try with_reducible rfl)
  (try simp only [Act.put, List.setIfInBounds_toArray, List.set_cons_zero, List.set_cons_succ])
  refine take_named (i := 1) (d := 38) (v := ?vC1) rfl (by kernel_rfl) (by kernel_rfl) (by kernel_rfl) (by kernel_rfl) (fun _ _ _ h => h) (Or.inl ⟨by kernel_rfl, ?yC1⟩) (by assumption) ?_
  case yC1 => intro wq hSw; (try dsimp only at hSw); go_simp; (try with_reducible rfl)
  (try simp only [Act.put, List.setIfInBounds_toArray, List.set_cons_zero, List.set_cons_succ])
  refine take_named (i := 2) (d := 39) (v := ?vC2) rfl (by kernel_rfl) (by kernel_rfl) (by kernel_rfl) (by kernel_rfl) (fun _ _ _ h => h) (Or.inl ⟨by kernel_rfl, ?yC2⟩) (by assumption) ?_
  case yC2 => intro wq hSw; (try dsimp only at hSw); go_simp; (try with_reducible rfl)
  (try simp only [Act.put, List.setIfInBounds_toArray, List.set_cons_zero, List.set_cons_succ])
  refine take_named (i := 3) (d := 40) (v := ?vC3) rfl (by kernel_rfl) (by kernel_rfl) (by kernel_rfl) (by kernel_rfl) (fun _ _ _ h => h) (Or.inl ⟨by kernel_rfl, ?yC3⟩) (by assumption) ?_
  case yC3 => intro wq hSw; (try dsimp only at hSw); go_simp; (try with_reducible rfl)
  (try simp only [Act.put, List.setIfInBounds_toArray, List.set_cons_zero, List.set_cons_succ])
  refine wpAnyH_ready (rs := [4]) (by kernel_rfl) (by simp) ?_
  refine AllReadyH.cons rfl (fun K hK => ?_) AllReadyH.nil
  go_simp
  refine (HWh.out _ _).mono ?_
  rintro ee v1 ⟨rfl, hb1⟩
  have bv1 := below_viaD hBC hb1
  refine hK.out _ _ (HKsC.out _ bv1) (fun hHeldC4 => ?_)
  clear hK K hHeldC
  (try simp only [Act.put, List.setIfInBounds_toArray, List.set_cons_zero, List.set_cons_succ])
  refine wpAnyH_ready (rs := [5]) (by kernel_rfl) (by simp) ?_
  refine AllReadyH.cons rfl (fun K hK => ?_) AllReadyH.nil
  go_simp
  refine (HCm.out _).mono ?_
  rintro ee v2 ⟨rfl, hb2⟩
  have bv2 := below_viaD bv1 hb2
  refine hK.out _ _ (HKsC.out _ bv2) (fun hHeldC5 => ?_)
  clear hK K hHeldC4
  (try simp only [Act.put, List.setIfInBounds_toArray, List.set_cons_zero, List.set_cons_succ])
  refine take_named (i := 6) (d := 36) (v := ?vC6) rfl (by kernel_rfl) (by kernel_rfl) (by kernel_rfl) (by kernel_rfl) (fun _ _ _ h => h) (Or.inl ⟨by kernel_rfl, ?yC6⟩) (by assumption) ?_
  case yC6 => intro wq hSw; (try dsimp only at hSw); go_simp; (try with_reducible rfl)
  (try simp only [Act.put, List.setIfInBounds_toArray, List.set_cons_zero, List.set_cons_succ])
  refine take_named (i := 7) (d := 43) (v := ?vC7) rfl (by kernel_rfl) (by kernel_rfl) (by kernel_rfl) (by kernel_rfl) (fun _ _ _ h => h) (Or.inl ⟨by kernel_rfl, ?yC7⟩) (by assumption) ?_
  case yC7 => intro wq hSw; (try dsimp only at hSw); go_simp; (try with_reducible rfl)
  (try simp only [Act.put, List.setIfInBounds_toArray, List.set_cons_zero, List.set_cons_succ])
  refine take_named (i := 8) (d := 44) (v := ?vC8) rfl (by kernel_rfl) (by kernel_rfl) (by kernel_rfl) (by kernel_rfl) (fun _ _ _ h => h) (Or.inl ⟨by kernel_rfl, ?yC8⟩) (by assumption) ?_
  case yC8 => intro wq hSw; (try dsimp only at hSw); go_simp; (try with_reducible rfl)
  (try simp only [Act.put, List.setIfInBounds_toArray, List.set_cons_zero, List.set_cons_succ])
  refine take_named (i := 9) (d := 8) (v := ?vC9) rfl (by kernel_rfl) (by kernel_rfl) (by kernel_rfl) (by kernel_rfl) (fun _ _ _ h => h) (Or.inl ⟨by kernel_rfl, ?yC9⟩) (by assumption) ?_
  case yC9 => intro wq hSw; (try dsimp only at hSw); go_simp; (try with_reducible rfl)
  (try simp only [Act.put, List.setIfInBounds_toArray, List.set_cons_zero, List.set_cons_succ])
  refine take_named (i := 10) (d := 9) (v := ?vC10) rfl (by kernel_rfl) (by kernel_rfl) (by kernel_rfl) (by kernel_rfl) (fun _ _ _ h => h) (Or.inl ⟨by kernel_rfl, ?yC10⟩) (by assumption) ?_
  case yC10 => intro wq hSw; (try dsimp only at hSw); go_simp; (try with_reducible rfl)
  (try simp only [Act.put, List.setIfInBounds_toArray, List.set_cons_zero, List.set_cons_succ])
  refine wpAnyH_done (by kernel_rfl) ?_ _
  clear hHeldC5
  have hSA := HKsC.out _ bv2
  clear hSC c0 c1
  have c0 := hSA.1
  have c1 := hSA.2
  have hrA := below_viaD Hr1.out bv2
  have k0 := HK.out _ hrA
  have HKsA := Lib.hid (fun (W : World) (hb : Below v2.heap.size v2 W) => (show W.cell? ⟨g, 0, none⟩ = some (.int .i64 f1) ∧ W.cell? ⟨g, 1, none⟩ = some (.int .i64 f2) from ⟨keepD hb (blk_lt k0) c0, keepD hb (blk_lt k0) c1⟩))
  have HBaseA := Lib.hid (below_viaD HB1.out hrA)
  have HBase1 := Lib.hid hrA
  have HszA := Lib.hid (show g + 2 ≤ v2.heap.size by rw [← Hz1.out]; exact hrA.size)
  have hBA : Below v2.heap.size v2 v2.drew := (Below.refl _ _).drew
  clear k0 hrA hBC HKsC Hr1 HK
  go_upto_region 6 with fail
  apply cutW (C := fun U gA => U.heap[gA]? = some (.cells #[.int .i64 a1, .int .i64 a2] 23 (0, 0)) ∧ w.heap.size ≤ gA ∧ g + 1 < gA ∧ Below v2.heap.size v2 U)
  case h =>
    intro KEY
    refine wp_region_held_drew (S := (fun wq => wq.cell? ⟨g, 0, none⟩ = some (.int .i64 f1) ∧ wq.cell? ⟨g, 1, none⟩ = some (.int .i64 f2))) (by kernel_rfl) hSA (fun hHeld => ?_)
    refine take_named (i := 0) (d := 49) (v := ?vA0) rfl (by kernel_rfl) (by kernel_rfl) (by kernel_rfl) (by kernel_rfl) (fun _ _ _ h => h) (Or.inl ⟨by kernel_rfl, ?yA0⟩) (by assumption) ?_
    case yA0 => intro wq hSw; (try dsimp only at hSw); go_simp; (try with_reducible rfl)
    (try simp only [Act.put, List.setIfInBounds_toArray, List.set_cons_zero, List.set_cons_succ])
    refine wpAnyH_ready (rs := [1, 6]) (by kernel_rfl) (by simp) ?_
    refine AllReadyH.cons rfl (fun K hK => ?_) (AllReadyH.cons rfl (fun K hK => ?_) AllReadyH.nil)
    · skip
      go_simp
      refine (HWh.out _ _).mono ?_
      rintro ee q1 ⟨rfl, hq1⟩
      have bq1 := below_viaD hBA hq1
      refine hK.out _ _ (HKsA.out _ bq1) (fun hH1 => ?_)
      clear hK K
      (try simp only [Act.put, List.setIfInBounds_toArray, List.set_cons_zero, List.set_cons_succ])
      refine wpAnyH_ready (rs := [2, 6]) (by kernel_rfl) (by simp) ?_
      refine AllReadyH.cons rfl (fun K hK => ?_) (AllReadyH.cons rfl (fun K hK => ?_) AllReadyH.nil)
      · skip
        go_simp
        refine (HAd.out _).mono ?_
        rintro ee qb2 ⟨rfl, hqb2⟩
        have bqb2 := below_viaD bq1 hqb2
        refine hK.out _ _ (HKsA.out _ bqb2) (fun hHb2 => ?_)
        clear hK K
        (try simp only [Act.put, List.setIfInBounds_toArray, List.set_cons_zero, List.set_cons_succ])
        refine take_named (i := 3) (d := 48) (v := ?vAb23) rfl (by kernel_rfl) (by kernel_rfl) (by kernel_rfl) (by kernel_rfl) (fun _ _ _ h => h) (Or.inl ⟨by kernel_rfl, ?yAb23⟩) (by assumption) ?_
        case yAb23 => intro wq hSw; (try dsimp only at hSw); go_simp; (try with_reducible rfl)
        (try simp only [Act.put, List.setIfInBounds_toArray, List.set_cons_zero, List.set_cons_succ])
        refine take_named (i := 4) (d := 52) (v := ?vAb24) rfl (by kernel_rfl) (by kernel_rfl) (by kernel_rfl) (by kernel_rfl) (fun _ _ _ h => h) (Or.inl ⟨by kernel_rfl, ?yAb24⟩) (by assumption) ?_
        case yAb24 => intro wq hSw; (try dsimp only at hSw); go_simp; (try with_reducible rfl)
        (try simp only [Act.put, List.setIfInBounds_toArray, List.set_cons_zero, List.set_cons_succ])
        refine take_named (i := 5) (d := 53) (v := ?vAb25) rfl (by kernel_rfl) (by kernel_rfl) (by kernel_rfl) (by kernel_rfl) (fun _ _ _ h => h) (Or.inl ⟨by kernel_rfl, ?yAb25⟩) (by assumption) ?_
        case yAb25 => intro wq hSw; (try dsimp only at hSw); go_simp; (try with_reducible rfl)
        (try simp only [Act.put, List.setIfInBounds_toArray, List.set_cons_zero, List.set_cons_succ])
        refine wpAnyH_ready (rs := [6]) (by kernel_rfl) (by simp) ?_
        refine AllReadyH.cons rfl (fun K hK => ?_) AllReadyH.nil
        go_simp
        obtain ⟨gA, hgA⟩ : ∃ gA, qb2.heap.size = gA := ⟨_, rfl⟩
        obtain ⟨qbc6, hWA⟩ : ∃ V, qb2.alloc (.cells #[.int .i64 0, .int .i64 0] 23) = V := ⟨_, rfl⟩
        have hszA := bqb2.size
        have hv2A : v2.heap.size ≤ gA := by omega
        have bqbc6 : Below v2.heap.size v2 qbc6 := by rw [← hWA]; exact bqb2.alloc hszA _
        have kqbc6 : qbc6.heap[gA]? = some (.cells #[.int .i64 0, .int .i64 0] 23 (0, 0)) := by rw [← hWA]; exact blk_new _ hgA.symm
        have hgA1 : g + 1 < gA := by have := HszA.out; omega
        have hgw1 : w.heap.size ≤ gA := by have := Hgw.out; omega
        (try rw [hWA])
        (try rw [hgA])
        clear hWA hgA hszA
        refine hK.out _ _ (HKsA.out _ bqbc6) (fun hHbc6 => ?_)
        clear hK K
        (try simp only [Act.put, List.setIfInBounds_toArray, List.set_cons_zero, List.set_cons_succ])
        have y0 := blk_cell kqbc6 0
        have y1 := blk_cell kqbc6 1
        have y2 := blk_free kqbc6 0
        have y3 := blk_free kqbc6 1
        refine wpAnyH_ready (rs := [7]) (by kernel_rfl) (by simp) ?_
        refine AllReadyH.cons rfl (fun K hK => ?_) AllReadyH.nil
        go_simp
        have hneA : gA ≠ g := by omega
        refine hK.out _ _ (⟨keepS (keepS (HKsA.out _ bqbc6).1 hneA _) hneA _, keepS (keepS (HKsA.out _ bqbc6).2 hneA _) hneA _⟩) (fun hHeldz => ?_)
        clear hK K
        (try simp only [Act.put, List.setIfInBounds_toArray, List.set_cons_zero, List.set_cons_succ])
        refine take_named (i := 8) (d := 11) (v := ?vAbcg8) rfl (by kernel_rfl) (by kernel_rfl) (by kernel_rfl) (by kernel_rfl) (fun _ _ _ h => h) (Or.inl ⟨by kernel_rfl, ?yAbcg8⟩) (by assumption) ?_
        case yAbcg8 => intro wq hSw; (try dsimp only at hSw); go_simp; (try with_reducible rfl)
        (try simp only [Act.put, List.setIfInBounds_toArray, List.set_cons_zero, List.set_cons_succ])
        refine wpAnyH_done (by kernel_rfl) ?_ _
        obtain ⟨U, hU⟩ : ∃ V, (qbc6.setCell ⟨gA, 0, none⟩ (.int .i64 a1)).setCell ⟨gA, 1, none⟩ (.int .i64 a2) = V := ⟨_, rfl⟩
        have kU : U.heap[gA]? = some (.cells #[.int .i64 a1, .int .i64 a2] 23 (0, 0)) := by rw [← hU]; exact blk_set (blk_set kqbc6 0 _) 1 _
        have hz2 : v2.heap.size ≤ gA := hv2A
        have bU : Below v2.heap.size v2 U := by rw [← hU]; exact (bqbc6.setCell (p := ⟨gA, 0, none⟩) hz2 _).setCell (p := ⟨gA, 1, none⟩) hz2 _
        rw [hU]
        exact KEY U gA ⟨kU, hgw1, hgA1, bU⟩
      · skip
        go_simp
        obtain ⟨gA, hgA⟩ : ∃ gA, q1.heap.size = gA := ⟨_, rfl⟩
        obtain ⟨qb6, hWA⟩ : ∃ V, q1.alloc (.cells #[.int .i64 0, .int .i64 0] 23) = V := ⟨_, rfl⟩
        have hszA := bq1.size
        have hv2A : v2.heap.size ≤ gA := by omega
        have bqb6 : Below v2.heap.size v2 qb6 := by rw [← hWA]; exact bq1.alloc hszA _
        have kqb6 : qb6.heap[gA]? = some (.cells #[.int .i64 0, .int .i64 0] 23 (0, 0)) := by rw [← hWA]; exact blk_new _ hgA.symm
        have hgA1 : g + 1 < gA := by have := HszA.out; omega
        have hgw1 : w.heap.size ≤ gA := by have := Hgw.out; omega
        (try rw [hWA])
        (try rw [hgA])
        clear hWA hgA hszA
        refine hK.out _ _ (HKsA.out _ bqb6) (fun hHb6 => ?_)
        clear hK K
        (try simp only [Act.put, List.setIfInBounds_toArray, List.set_cons_zero, List.set_cons_succ])
        refine wpAnyH_ready (rs := [2]) (by kernel_rfl) (by simp) ?_
        refine AllReadyH.cons rfl (fun K hK => ?_) AllReadyH.nil
        go_simp
        refine (HAd.out _).mono ?_
        rintro ee qbg2 ⟨rfl, hqbg2⟩
        have bqbg2 := below_viaD bqb6 hqbg2
        have kqbg2 := blk_below kqb6 hqbg2 (blk_lt kqb6)
        refine hK.out _ _ (HKsA.out _ bqbg2) (fun hHbg2 => ?_)
        clear hK K
        (try simp only [Act.put, List.setIfInBounds_toArray, List.set_cons_zero, List.set_cons_succ])
        refine take_named (i := 3) (d := 48) (v := ?vAbg23) rfl (by kernel_rfl) (by kernel_rfl) (by kernel_rfl) (by kernel_rfl) (fun _ _ _ h => h) (Or.inl ⟨by kernel_rfl, ?yAbg23⟩) (by assumption) ?_
        case yAbg23 => intro wq hSw; (try dsimp only at hSw); go_simp; (try with_reducible rfl)
        (try simp only [Act.put, List.setIfInBounds_toArray, List.set_cons_zero, List.set_cons_succ])
        refine take_named (i := 4) (d := 52) (v := ?vAbg24) rfl (by kernel_rfl) (by kernel_rfl) (by kernel_rfl) (by kernel_rfl) (fun _ _ _ h => h) (Or.inl ⟨by kernel_rfl, ?yAbg24⟩) (by assumption) ?_
        case yAbg24 => intro wq hSw; (try dsimp only at hSw); go_simp; (try with_reducible rfl)
        (try simp only [Act.put, List.setIfInBounds_toArray, List.set_cons_zero, List.set_cons_succ])
        refine take_named (i := 5) (d := 53) (v := ?vAbg25) rfl (by kernel_rfl) (by kernel_rfl) (by kernel_rfl) (by kernel_rfl) (fun _ _ _ h => h) (Or.inl ⟨by kernel_rfl, ?yAbg25⟩) (by assumption) ?_
        case yAbg25 => intro wq hSw; (try dsimp only at hSw); go_simp; (try with_reducible rfl)
        (try simp only [Act.put, List.setIfInBounds_toArray, List.set_cons_zero, List.set_cons_succ])
        have y0 := blk_cell kqbg2 0
        have y1 := blk_cell kqbg2 1
        have y2 := blk_free kqbg2 0
        have y3 := blk_free kqbg2 1
        refine wpAnyH_ready (rs := [7]) (by kernel_rfl) (by simp) ?_
        refine AllReadyH.cons rfl (fun K hK => ?_) AllReadyH.nil
        go_simp
        have hneA : gA ≠ g := by omega
        refine hK.out _ _ (⟨keepS (keepS (HKsA.out _ bqbg2).1 hneA _) hneA _, keepS (keepS (HKsA.out _ bqbg2).2 hneA _) hneA _⟩) (fun hHeldz => ?_)
        clear hK K
        (try simp only [Act.put, List.setIfInBounds_toArray, List.set_cons_zero, List.set_cons_succ])
        refine take_named (i := 8) (d := 11) (v := ?vAbgc8) rfl (by kernel_rfl) (by kernel_rfl) (by kernel_rfl) (by kernel_rfl) (fun _ _ _ h => h) (Or.inl ⟨by kernel_rfl, ?yAbgc8⟩) (by assumption) ?_
        case yAbgc8 => intro wq hSw; (try dsimp only at hSw); go_simp; (try with_reducible rfl)
        (try simp only [Act.put, List.setIfInBounds_toArray, List.set_cons_zero, List.set_cons_succ])
        refine wpAnyH_done (by kernel_rfl) ?_ _
        obtain ⟨U, hU⟩ : ∃ V, (qbg2.setCell ⟨gA, 0, none⟩ (.int .i64 a1)).setCell ⟨gA, 1, none⟩ (.int .i64 a2) = V := ⟨_, rfl⟩
        have kU : U.heap[gA]? = some (.cells #[.int .i64 a1, .int .i64 a2] 23 (0, 0)) := by rw [← hU]; exact blk_set (blk_set kqbg2 0 _) 1 _
        have hz2 : v2.heap.size ≤ gA := hv2A
        have bU : Below v2.heap.size v2 U := by rw [← hU]; exact (bqbg2.setCell (p := ⟨gA, 0, none⟩) hz2 _).setCell (p := ⟨gA, 1, none⟩) hz2 _
        rw [hU]
        exact KEY U gA ⟨kU, hgw1, hgA1, bU⟩
    · skip
      go_simp
      obtain ⟨gA, hgA⟩ : ∃ gA, v2.heap.size = gA := ⟨_, rfl⟩
      obtain ⟨q6, hWA⟩ : ∃ V, (v2.alloc (.cells #[.int .i64 0, .int .i64 0] 23)).drew = V := ⟨_, rfl⟩
      have hszA := hBA.size
      have hv2A : v2.heap.size ≤ gA := by rw [hgA]; exact Nat.le_refl _
      have bq6 : Below v2.heap.size v2 q6 := by rw [← hWA]; exact ((Below.refl _ _).alloc (Nat.le_refl _) _).drew
      have kq6 : q6.heap[gA]? = some (.cells #[.int .i64 0, .int .i64 0] 23 (0, 0)) := by rw [← hWA]; show (v2.alloc (.cells #[.int .i64 0, .int .i64 0] 23)).heap[gA]? = _; exact blk_new _ hgA.symm
      have hgA1 : g + 1 < gA := by have := HszA.out; omega
      have hgw1 : w.heap.size ≤ gA := by have := Hgw.out; omega
      (try rw [hWA])
      (try rw [hgA])
      clear hWA hgA hszA
      refine hK.out _ _ (HKsA.out _ bq6) (fun hH6 => ?_)
      clear hK K
      (try simp only [Act.put, List.setIfInBounds_toArray, List.set_cons_zero, List.set_cons_succ])
      refine wpAnyH_ready (rs := [1]) (by kernel_rfl) (by simp) ?_
      refine AllReadyH.cons rfl (fun K hK => ?_) AllReadyH.nil
      go_simp
      refine (HWh.out _ _).mono ?_
      rintro ee qg1 ⟨rfl, hqg1⟩
      have bqg1 := below_viaD bq6 hqg1
      have kqg1 := blk_below kq6 hqg1 (blk_lt kq6)
      refine hK.out _ _ (HKsA.out _ bqg1) (fun hHg1 => ?_)
      clear hK K
      (try simp only [Act.put, List.setIfInBounds_toArray, List.set_cons_zero, List.set_cons_succ])
      refine wpAnyH_ready (rs := [2]) (by kernel_rfl) (by simp) ?_
      refine AllReadyH.cons rfl (fun K hK => ?_) AllReadyH.nil
      go_simp
      refine (HAd.out _).mono ?_
      rintro ee qgb2 ⟨rfl, hqgb2⟩
      have bqgb2 := below_viaD bqg1 hqgb2
      have kqgb2 := blk_below kqg1 hqgb2 (blk_lt kqg1)
      refine hK.out _ _ (HKsA.out _ bqgb2) (fun hHgb2 => ?_)
      clear hK K
      (try simp only [Act.put, List.setIfInBounds_toArray, List.set_cons_zero, List.set_cons_succ])
      refine take_named (i := 3) (d := 48) (v := ?vAgb23) rfl (by kernel_rfl) (by kernel_rfl) (by kernel_rfl) (by kernel_rfl) (fun _ _ _ h => h) (Or.inl ⟨by kernel_rfl, ?yAgb23⟩) (by assumption) ?_
      case yAgb23 => intro wq hSw; (try dsimp only at hSw); go_simp; (try with_reducible rfl)
      (try simp only [Act.put, List.setIfInBounds_toArray, List.set_cons_zero, List.set_cons_succ])
      refine take_named (i := 4) (d := 52) (v := ?vAgb24) rfl (by kernel_rfl) (by kernel_rfl) (by kernel_rfl) (by kernel_rfl) (fun _ _ _ h => h) (Or.inl ⟨by kernel_rfl, ?yAgb24⟩) (by assumption) ?_
      case yAgb24 => intro wq hSw; (try dsimp only at hSw); go_simp; (try with_reducible rfl)
      (try simp only [Act.put, List.setIfInBounds_toArray, List.set_cons_zero, List.set_cons_succ])
      refine take_named (i := 5) (d := 53) (v := ?vAgb25) rfl (by kernel_rfl) (by kernel_rfl) (by kernel_rfl) (by kernel_rfl) (fun _ _ _ h => h) (Or.inl ⟨by kernel_rfl, ?yAgb25⟩) (by assumption) ?_
      case yAgb25 => intro wq hSw; (try dsimp only at hSw); go_simp; (try with_reducible rfl)
      (try simp only [Act.put, List.setIfInBounds_toArray, List.set_cons_zero, List.set_cons_succ])
      have y0 := blk_cell kqgb2 0
      have y1 := blk_cell kqgb2 1
      have y2 := blk_free kqgb2 0
      have y3 := blk_free kqgb2 1
      refine wpAnyH_ready (rs := [7]) (by kernel_rfl) (by simp) ?_
      refine AllReadyH.cons rfl (fun K hK => ?_) AllReadyH.nil
      go_simp
      have hneA : gA ≠ g := by omega
      refine hK.out _ _ (⟨keepS (keepS (HKsA.out _ bqgb2).1 hneA _) hneA _, keepS (keepS (HKsA.out _ bqgb2).2 hneA _) hneA _⟩) (fun hHeldz => ?_)
      clear hK K
      (try simp only [Act.put, List.setIfInBounds_toArray, List.set_cons_zero, List.set_cons_succ])
      refine take_named (i := 8) (d := 11) (v := ?vAgbc8) rfl (by kernel_rfl) (by kernel_rfl) (by kernel_rfl) (by kernel_rfl) (fun _ _ _ h => h) (Or.inl ⟨by kernel_rfl, ?yAgbc8⟩) (by assumption) ?_
      case yAgbc8 => intro wq hSw; (try dsimp only at hSw); go_simp; (try with_reducible rfl)
      (try simp only [Act.put, List.setIfInBounds_toArray, List.set_cons_zero, List.set_cons_succ])
      refine wpAnyH_done (by kernel_rfl) ?_ _
      obtain ⟨U, hU⟩ : ∃ V, (qgb2.setCell ⟨gA, 0, none⟩ (.int .i64 a1)).setCell ⟨gA, 1, none⟩ (.int .i64 a2) = V := ⟨_, rfl⟩
      have kU : U.heap[gA]? = some (.cells #[.int .i64 a1, .int .i64 a2] 23 (0, 0)) := by rw [← hU]; exact blk_set (blk_set kqgb2 0 _) 1 _
      have hz2 : v2.heap.size ≤ gA := hv2A
      have bU : Below v2.heap.size v2 U := by rw [← hU]; exact (bqgb2.setCell (p := ⟨gA, 0, none⟩) hz2 _).setCell (p := ⟨gA, 1, none⟩) hz2 _
      rw [hU]
      exact KEY U gA ⟨kU, hgw1, hgA1, bU⟩
  case k =>
    intro U gA hC
    have kU := hC.1
    have hgw := Lib.hid hC.2.1
    have hgA := Lib.hid hC.2.2.1
    have HU := Lib.hid hC.2.2.2
    have bU := Lib.hid (below_viaD HBaseA.out HU.out)
    have k1 := HK1.out _ (below_viaD HBase1.out HU.out)
    have HN := Lib.hid (show g + 1 ≠ gA by have := hgA.out; omega)
    have hRes := Lib.hid k1
    clear hC k1 HU hSA c0 c1
    have hz0 := blk_cell kU 0
    have hz1 := blk_cell kU 1
    go_upto_region 7 with fail
    apply cutV (C := fun U => U.heap[gA]? = some (.cells #[.int .i64 b1, .int .i64 b2] 23 (0, 0)) ∧ Below w.heap.size w U ∧ U.heap[g + 1]? = some (.cells #[.int .i64 0, .int .i64 0] 23 (0, 0)))
    case h =>
      intro KEY
      have b0 : Below U.heap.size U U.drew := (Below.refl _ _).drew
      refine wp_region_held_drew (S := fun _ => True) (by kernel_rfl) trivial (fun hHeld => ?_)
      refine take_named (i := 1) (d := 56) (v := ?vM1) rfl (by kernel_rfl) (by kernel_rfl) (by kernel_rfl) (by kernel_rfl) (fun _ _ _ h => h) (Or.inl ⟨by kernel_rfl, ?yM1⟩) (by assumption) ?_
      case yM1 => intro wq hSw; (try dsimp only at hSw); go_simp; (try with_reducible rfl)
      (try simp only [Act.put, List.setIfInBounds_toArray, List.set_cons_zero, List.set_cons_succ])
      refine wpAnyH_ready (rs := [0, 2]) (by kernel_rfl) (by simp) ?_
      refine AllReadyH.cons rfl (fun K hK => ?_) (AllReadyH.cons rfl (fun K hK => ?_) AllReadyH.nil)
      · skip
        go_simp
        refine hK.out _ _ (trivial) (fun _ => ?_)
        clear hK K
        (try simp only [Act.put, List.setIfInBounds_toArray, List.set_cons_zero, List.set_cons_succ])
        refine wpAnyH_ready (rs := [2]) (by kernel_rfl) (by simp) ?_
        refine AllReadyH.cons rfl (fun K hK => ?_) AllReadyH.nil
        go_simp
        refine (HWh.out _ _).mono ?_
        rintro ee u1 ⟨rfl, hu1⟩
        have bu1 := below_viaD b0 hu1
        have ku1 := blk_below kU bu1 (blk_lt kU)
        have cu0 := blk_cell ku1 0
        have cu1 := blk_cell ku1 1
        refine hK.out _ _ (trivial) (fun _ => ?_)
        clear hK K
        (try simp only [Act.put, List.setIfInBounds_toArray, List.set_cons_zero, List.set_cons_succ])
        refine wpAnyH_ready (rs := [3]) (by kernel_rfl) (by simp) ?_
        refine AllReadyH.cons rfl (fun K hK => ?_) AllReadyH.nil
        go_simp
        refine (HMu.out _).mono ?_
        rintro ee u2 ⟨rfl, hu2⟩
        have bu2 := below_viaD bu1 hu2
        have ku2 := blk_below kU bu2 (blk_lt kU)
        clear cu0 cu1
        have cu0 := blk_cell ku2 0
        have cu1 := blk_cell ku2 1
        have fu0 := blk_free ku2 0
        have fu1 := blk_free ku2 1
        refine hK.out _ _ (trivial) (fun _ => ?_)
        clear hK K
        (try simp only [Act.put, List.setIfInBounds_toArray, List.set_cons_zero, List.set_cons_succ])
        refine take_named (i := 4) (d := 54) (v := ?vMp4) rfl (by kernel_rfl) (by kernel_rfl) (by kernel_rfl) (by kernel_rfl) (fun _ _ _ h => h) (Or.inl ⟨by kernel_rfl, ?yMp4⟩) (by assumption) ?_
        case yMp4 => intro wq hSw; (try dsimp only at hSw); go_simp; (try with_reducible rfl)
        (try simp only [Act.put, List.setIfInBounds_toArray, List.set_cons_zero, List.set_cons_succ])
        refine take_named (i := 5) (d := 59) (v := ?vMp5) rfl (by kernel_rfl) (by kernel_rfl) (by kernel_rfl) (by kernel_rfl) (fun _ _ _ h => h) (Or.inl ⟨by kernel_rfl, ?yMp5⟩) (by assumption) ?_
        case yMp5 => intro wq hSw; (try dsimp only at hSw); go_simp; (try with_reducible rfl)
        (try simp only [Act.put, List.setIfInBounds_toArray, List.set_cons_zero, List.set_cons_succ])
        refine take_named (i := 6) (d := 60) (v := ?vMp6) rfl (by kernel_rfl) (by kernel_rfl) (by kernel_rfl) (by kernel_rfl) (fun _ _ _ h => h) (Or.inl ⟨by kernel_rfl, ?yMp6⟩) (by assumption) ?_
        case yMp6 => intro wq hSw; (try dsimp only at hSw); go_simp; (try with_reducible rfl)
        (try simp only [Act.put, List.setIfInBounds_toArray, List.set_cons_zero, List.set_cons_succ])
        refine wpAnyH_ready (rs := [7]) (by kernel_rfl) (by simp) ?_
        refine AllReadyH.cons rfl (fun K hK => ?_) AllReadyH.nil
        go_simp
        refine hK.out _ _ (trivial) (fun _ => ?_)
        clear hK K
        (try simp only [Act.put, List.setIfInBounds_toArray, List.set_cons_zero, List.set_cons_succ])
        refine wpAnyH_done (by kernel_rfl) ?_ _
        obtain ⟨V, hV⟩ : ∃ V, (u2.setCell ⟨gA, 0, none⟩ (.int .i64 b1)).setCell ⟨gA, 1, none⟩ (.int .i64 b2) = V := ⟨_, rfl⟩
        have kV : V.heap[gA]? = some (.cells #[.int .i64 b1, .int .i64 b2] 23 (0, 0)) := by rw [← hV]; exact blk_set (blk_set ku2 0 _) 1 _
        have bV : Below w.heap.size w V := by rw [← hV]; exact ((below_viaD bU.out bu2).setCell (p := ⟨gA, 0, none⟩) hgw.out _).setCell (p := ⟨gA, 1, none⟩) hgw.out _
        have rV : V.heap[g + 1]? = some (.cells #[.int .i64 0, .int .i64 0] 23 (0, 0)) := by rw [← hV]; exact blk_far (blk_far (blk_below hRes.out bu2 (blk_lt hRes.out)) (p := ⟨gA, 0, none⟩) HN.out _) (p := ⟨gA, 1, none⟩) HN.out _
        rw [hV]
        exact KEY V ⟨kV, bV, rV⟩
      · skip
        go_simp
        refine (HWh.out _ _).mono ?_
        rintro ee u1 ⟨rfl, hu1⟩
        have bu1 := below_viaD b0 hu1
        have ku1 := blk_below kU bu1 (blk_lt kU)
        have cu0 := blk_cell ku1 0
        have cu1 := blk_cell ku1 1
        refine hK.out _ _ (trivial) (fun _ => ?_)
        clear hK K
        (try simp only [Act.put, List.setIfInBounds_toArray, List.set_cons_zero, List.set_cons_succ])
        refine wpAnyH_ready (rs := [0]) (by kernel_rfl) (by simp) ?_
        refine AllReadyH.cons rfl (fun K hK => ?_) AllReadyH.nil
        go_simp
        refine hK.out _ _ (trivial) (fun _ => ?_)
        clear hK K
        (try simp only [Act.put, List.setIfInBounds_toArray, List.set_cons_zero, List.set_cons_succ])
        refine wpAnyH_ready (rs := [3]) (by kernel_rfl) (by simp) ?_
        refine AllReadyH.cons rfl (fun K hK => ?_) AllReadyH.nil
        go_simp
        refine (HMu.out _).mono ?_
        rintro ee u2 ⟨rfl, hu2⟩
        have bu2 := below_viaD bu1 hu2
        have ku2 := blk_below kU bu2 (blk_lt kU)
        clear cu0 cu1
        have cu0 := blk_cell ku2 0
        have cu1 := blk_cell ku2 1
        have fu0 := blk_free ku2 0
        have fu1 := blk_free ku2 1
        refine hK.out _ _ (trivial) (fun _ => ?_)
        clear hK K
        (try simp only [Act.put, List.setIfInBounds_toArray, List.set_cons_zero, List.set_cons_succ])
        refine take_named (i := 4) (d := 54) (v := ?vMq4) rfl (by kernel_rfl) (by kernel_rfl) (by kernel_rfl) (by kernel_rfl) (fun _ _ _ h => h) (Or.inl ⟨by kernel_rfl, ?yMq4⟩) (by assumption) ?_
        case yMq4 => intro wq hSw; (try dsimp only at hSw); go_simp; (try with_reducible rfl)
        (try simp only [Act.put, List.setIfInBounds_toArray, List.set_cons_zero, List.set_cons_succ])
        refine take_named (i := 5) (d := 59) (v := ?vMq5) rfl (by kernel_rfl) (by kernel_rfl) (by kernel_rfl) (by kernel_rfl) (fun _ _ _ h => h) (Or.inl ⟨by kernel_rfl, ?yMq5⟩) (by assumption) ?_
        case yMq5 => intro wq hSw; (try dsimp only at hSw); go_simp; (try with_reducible rfl)
        (try simp only [Act.put, List.setIfInBounds_toArray, List.set_cons_zero, List.set_cons_succ])
        refine take_named (i := 6) (d := 60) (v := ?vMq6) rfl (by kernel_rfl) (by kernel_rfl) (by kernel_rfl) (by kernel_rfl) (fun _ _ _ h => h) (Or.inl ⟨by kernel_rfl, ?yMq6⟩) (by assumption) ?_
        case yMq6 => intro wq hSw; (try dsimp only at hSw); go_simp; (try with_reducible rfl)
        (try simp only [Act.put, List.setIfInBounds_toArray, List.set_cons_zero, List.set_cons_succ])
        refine wpAnyH_ready (rs := [7]) (by kernel_rfl) (by simp) ?_
        refine AllReadyH.cons rfl (fun K hK => ?_) AllReadyH.nil
        go_simp
        refine hK.out _ _ (trivial) (fun _ => ?_)
        clear hK K
        (try simp only [Act.put, List.setIfInBounds_toArray, List.set_cons_zero, List.set_cons_succ])
        refine wpAnyH_done (by kernel_rfl) ?_ _
        obtain ⟨V, hV⟩ : ∃ V, (u2.setCell ⟨gA, 0, none⟩ (.int .i64 b1)).setCell ⟨gA, 1, none⟩ (.int .i64 b2) = V := ⟨_, rfl⟩
        have kV : V.heap[gA]? = some (.cells #[.int .i64 b1, .int .i64 b2] 23 (0, 0)) := by rw [← hV]; exact blk_set (blk_set ku2 0 _) 1 _
        have bV : Below w.heap.size w V := by rw [← hV]; exact ((below_viaD bU.out bu2).setCell (p := ⟨gA, 0, none⟩) hgw.out _).setCell (p := ⟨gA, 1, none⟩) hgw.out _
        have rV : V.heap[g + 1]? = some (.cells #[.int .i64 0, .int .i64 0] 23 (0, 0)) := by rw [← hV]; exact blk_far (blk_far (blk_below hRes.out bu2 (blk_lt hRes.out)) (p := ⟨gA, 0, none⟩) HN.out _) (p := ⟨gA, 1, none⟩) HN.out _
        rw [hV]
        exact KEY V ⟨kV, bV, rV⟩
    case k =>
      intro U8 hC
      clear hz0 hz1 kU bU hRes
      have kU := hC.1
      have bU := Lib.hid hC.2.1
      have hRes := Lib.hid hC.2.2
      clear hC
      skip
      have hz0 := blk_cell kU 0
      have hz1 := blk_cell kU 1
      go_upto_region 8 with fail
      apply cutV (C := fun U8 => U8.heap[gA]? = some (.cells #[.int .i64 d1, .int .i64 d2] 23 (0, 0)) ∧ Below w.heap.size w U8 ∧ U8.heap[g + 1]? = some (.cells #[.int .i64 0, .int .i64 0] 23 (0, 0)))
      case h =>
        intro KEY
        have b0 : Below U8.heap.size U8 U8.drew := (Below.refl _ _).drew
        refine wp_region_held_drew (S := fun _ => True) (by kernel_rfl) trivial (fun hHeld => ?_)
        refine take_named (i := 1) (d := 63) (v := ?vD1) rfl (by kernel_rfl) (by kernel_rfl) (by kernel_rfl) (by kernel_rfl) (fun _ _ _ h => h) (Or.inl ⟨by kernel_rfl, ?yD1⟩) (by assumption) ?_
        case yD1 => intro wq hSw; (try dsimp only at hSw); go_simp; (try with_reducible rfl)
        (try simp only [Act.put, List.setIfInBounds_toArray, List.set_cons_zero, List.set_cons_succ])
        refine wpAnyH_ready (rs := [0, 2]) (by kernel_rfl) (by simp) ?_
        refine AllReadyH.cons rfl (fun K hK => ?_) (AllReadyH.cons rfl (fun K hK => ?_) AllReadyH.nil)
        · skip
          go_simp
          refine hK.out _ _ (trivial) (fun _ => ?_)
          clear hK K
          (try simp only [Act.put, List.setIfInBounds_toArray, List.set_cons_zero, List.set_cons_succ])
          refine wpAnyH_ready (rs := [2]) (by kernel_rfl) (by simp) ?_
          refine AllReadyH.cons rfl (fun K hK => ?_) AllReadyH.nil
          go_simp
          refine (HWh.out _ _).mono ?_
          rintro ee u1 ⟨rfl, hu1⟩
          have bu1 := below_viaD b0 hu1
          have ku1 := blk_below kU bu1 (blk_lt kU)
          have cu0 := blk_cell ku1 0
          have cu1 := blk_cell ku1 1
          refine hK.out _ _ (trivial) (fun _ => ?_)
          clear hK K
          (try simp only [Act.put, List.setIfInBounds_toArray, List.set_cons_zero, List.set_cons_succ])
          refine wpAnyH_ready (rs := [3]) (by kernel_rfl) (by simp) ?_
          refine AllReadyH.cons rfl (fun K hK => ?_) AllReadyH.nil
          go_simp
          refine (HDi.out _).mono ?_
          rintro ee u2 ⟨rfl, hu2⟩
          have bu2 := below_viaD bu1 hu2
          have ku2 := blk_below kU bu2 (blk_lt kU)
          clear cu0 cu1
          have cu0 := blk_cell ku2 0
          have cu1 := blk_cell ku2 1
          have fu0 := blk_free ku2 0
          have fu1 := blk_free ku2 1
          refine hK.out _ _ (trivial) (fun _ => ?_)
          clear hK K
          (try simp only [Act.put, List.setIfInBounds_toArray, List.set_cons_zero, List.set_cons_succ])
          refine take_named (i := 4) (d := 61) (v := ?vDp4) rfl (by kernel_rfl) (by kernel_rfl) (by kernel_rfl) (by kernel_rfl) (fun _ _ _ h => h) (Or.inl ⟨by kernel_rfl, ?yDp4⟩) (by assumption) ?_
          case yDp4 => intro wq hSw; (try dsimp only at hSw); go_simp; (try with_reducible rfl)
          (try simp only [Act.put, List.setIfInBounds_toArray, List.set_cons_zero, List.set_cons_succ])
          refine take_named (i := 5) (d := 66) (v := ?vDp5) rfl (by kernel_rfl) (by kernel_rfl) (by kernel_rfl) (by kernel_rfl) (fun _ _ _ h => h) (Or.inl ⟨by kernel_rfl, ?yDp5⟩) (by assumption) ?_
          case yDp5 => intro wq hSw; (try dsimp only at hSw); go_simp; (try with_reducible rfl)
          (try simp only [Act.put, List.setIfInBounds_toArray, List.set_cons_zero, List.set_cons_succ])
          refine take_named (i := 6) (d := 67) (v := ?vDp6) rfl (by kernel_rfl) (by kernel_rfl) (by kernel_rfl) (by kernel_rfl) (fun _ _ _ h => h) (Or.inl ⟨by kernel_rfl, ?yDp6⟩) (by assumption) ?_
          case yDp6 => intro wq hSw; (try dsimp only at hSw); go_simp; (try with_reducible rfl)
          (try simp only [Act.put, List.setIfInBounds_toArray, List.set_cons_zero, List.set_cons_succ])
          refine wpAnyH_ready (rs := [7]) (by kernel_rfl) (by simp) ?_
          refine AllReadyH.cons rfl (fun K hK => ?_) AllReadyH.nil
          go_simp
          refine hK.out _ _ (trivial) (fun _ => ?_)
          clear hK K
          (try simp only [Act.put, List.setIfInBounds_toArray, List.set_cons_zero, List.set_cons_succ])
          refine wpAnyH_done (by kernel_rfl) ?_ _
          obtain ⟨V, hV⟩ : ∃ V, (u2.setCell ⟨gA, 0, none⟩ (.int .i64 d1)).setCell ⟨gA, 1, none⟩ (.int .i64 d2) = V := ⟨_, rfl⟩
          have kV : V.heap[gA]? = some (.cells #[.int .i64 d1, .int .i64 d2] 23 (0, 0)) := by rw [← hV]; exact blk_set (blk_set ku2 0 _) 1 _
          have bV : Below w.heap.size w V := by rw [← hV]; exact ((below_viaD bU.out bu2).setCell (p := ⟨gA, 0, none⟩) hgw.out _).setCell (p := ⟨gA, 1, none⟩) hgw.out _
          have rV : V.heap[g + 1]? = some (.cells #[.int .i64 0, .int .i64 0] 23 (0, 0)) := by rw [← hV]; exact blk_far (blk_far (blk_below hRes.out bu2 (blk_lt hRes.out)) (p := ⟨gA, 0, none⟩) HN.out _) (p := ⟨gA, 1, none⟩) HN.out _
          rw [hV]
          exact KEY V ⟨kV, bV, rV⟩
        · skip
          go_simp
          refine (HWh.out _ _).mono ?_
          rintro ee u1 ⟨rfl, hu1⟩
          have bu1 := below_viaD b0 hu1
          have ku1 := blk_below kU bu1 (blk_lt kU)
          have cu0 := blk_cell ku1 0
          have cu1 := blk_cell ku1 1
          refine hK.out _ _ (trivial) (fun _ => ?_)
          clear hK K
          (try simp only [Act.put, List.setIfInBounds_toArray, List.set_cons_zero, List.set_cons_succ])
          refine wpAnyH_ready (rs := [0]) (by kernel_rfl) (by simp) ?_
          refine AllReadyH.cons rfl (fun K hK => ?_) AllReadyH.nil
          go_simp
          refine hK.out _ _ (trivial) (fun _ => ?_)
          clear hK K
          (try simp only [Act.put, List.setIfInBounds_toArray, List.set_cons_zero, List.set_cons_succ])
          refine wpAnyH_ready (rs := [3]) (by kernel_rfl) (by simp) ?_
          refine AllReadyH.cons rfl (fun K hK => ?_) AllReadyH.nil
          go_simp
          refine (HDi.out _).mono ?_
          rintro ee u2 ⟨rfl, hu2⟩
          have bu2 := below_viaD bu1 hu2
          have ku2 := blk_below kU bu2 (blk_lt kU)
          clear cu0 cu1
          have cu0 := blk_cell ku2 0
          have cu1 := blk_cell ku2 1
          have fu0 := blk_free ku2 0
          have fu1 := blk_free ku2 1
          refine hK.out _ _ (trivial) (fun _ => ?_)
          clear hK K
          (try simp only [Act.put, List.setIfInBounds_toArray, List.set_cons_zero, List.set_cons_succ])
          refine take_named (i := 4) (d := 61) (v := ?vDq4) rfl (by kernel_rfl) (by kernel_rfl) (by kernel_rfl) (by kernel_rfl) (fun _ _ _ h => h) (Or.inl ⟨by kernel_rfl, ?yDq4⟩) (by assumption) ?_
          case yDq4 => intro wq hSw; (try dsimp only at hSw); go_simp; (try with_reducible rfl)
          (try simp only [Act.put, List.setIfInBounds_toArray, List.set_cons_zero, List.set_cons_succ])
          refine take_named (i := 5) (d := 66) (v := ?vDq5) rfl (by kernel_rfl) (by kernel_rfl) (by kernel_rfl) (by kernel_rfl) (fun _ _ _ h => h) (Or.inl ⟨by kernel_rfl, ?yDq5⟩) (by assumption) ?_
          case yDq5 => intro wq hSw; (try dsimp only at hSw); go_simp; (try with_reducible rfl)
          (try simp only [Act.put, List.setIfInBounds_toArray, List.set_cons_zero, List.set_cons_succ])
          refine take_named (i := 6) (d := 67) (v := ?vDq6) rfl (by kernel_rfl) (by kernel_rfl) (by kernel_rfl) (by kernel_rfl) (fun _ _ _ h => h) (Or.inl ⟨by kernel_rfl, ?yDq6⟩) (by assumption) ?_
          case yDq6 => intro wq hSw; (try dsimp only at hSw); go_simp; (try with_reducible rfl)
          (try simp only [Act.put, List.setIfInBounds_toArray, List.set_cons_zero, List.set_cons_succ])
          refine wpAnyH_ready (rs := [7]) (by kernel_rfl) (by simp) ?_
          refine AllReadyH.cons rfl (fun K hK => ?_) AllReadyH.nil
          go_simp
          refine hK.out _ _ (trivial) (fun _ => ?_)
          clear hK K
          (try simp only [Act.put, List.setIfInBounds_toArray, List.set_cons_zero, List.set_cons_succ])
          refine wpAnyH_done (by kernel_rfl) ?_ _
          obtain ⟨V, hV⟩ : ∃ V, (u2.setCell ⟨gA, 0, none⟩ (.int .i64 d1)).setCell ⟨gA, 1, none⟩ (.int .i64 d2) = V := ⟨_, rfl⟩
          have kV : V.heap[gA]? = some (.cells #[.int .i64 d1, .int .i64 d2] 23 (0, 0)) := by rw [← hV]; exact blk_set (blk_set ku2 0 _) 1 _
          have bV : Below w.heap.size w V := by rw [← hV]; exact ((below_viaD bU.out bu2).setCell (p := ⟨gA, 0, none⟩) hgw.out _).setCell (p := ⟨gA, 1, none⟩) hgw.out _
          have rV : V.heap[g + 1]? = some (.cells #[.int .i64 0, .int .i64 0] 23 (0, 0)) := by rw [← hV]; exact blk_far (blk_far (blk_below hRes.out bu2 (blk_lt hRes.out)) (p := ⟨gA, 0, none⟩) HN.out _) (p := ⟨gA, 1, none⟩) HN.out _
          rw [hV]
          exact KEY V ⟨kV, bV, rV⟩
      case k =>
        intro U9 hC
        clear hz0 hz1 kU bU hRes
        have kU := hC.1
        have bU := Lib.hid hC.2.1
        have hRes := Lib.hid hC.2.2
        clear hC
        skip
        have hz0 := blk_cell kU 0
        have hz1 := blk_cell kU 1
        go_upto_region 9 with fail
        apply cutV (C := fun U9 => U9.heap[gA]? = some (.cells #[.int .i64 r1, .int .i64 r2] 23 (0, 0)) ∧ Below w.heap.size w U9 ∧ U9.heap[g + 1]? = some (.cells #[.int .i64 0, .int .i64 0] 23 (0, 0)))
        case h =>
          intro KEY
          have b0 : Below U9.heap.size U9 U9.drew := (Below.refl _ _).drew
          refine wp_region_held_drew (S := fun _ => True) (by kernel_rfl) trivial (fun hHeld => ?_)
          refine wpAnyH_ready (rs := [0, 1]) (by kernel_rfl) (by simp) ?_
          refine AllReadyH.cons rfl (fun K hK => ?_) (AllReadyH.cons rfl (fun K hK => ?_) AllReadyH.nil)
          · skip
            go_simp
            refine hK.out _ _ (trivial) (fun _ => ?_)
            clear hK K
            (try simp only [Act.put, List.setIfInBounds_toArray, List.set_cons_zero, List.set_cons_succ])
            refine wpAnyH_ready (rs := [1]) (by kernel_rfl) (by simp) ?_
            refine AllReadyH.cons rfl (fun K hK => ?_) AllReadyH.nil
            go_simp
            refine (HWh.out _ _).mono ?_
            rintro ee u1 ⟨rfl, hu1⟩
            have bu1 := below_viaD b0 hu1
            have ku1 := blk_below kU bu1 (blk_lt kU)
            have cu0 := blk_cell ku1 0
            have cu1 := blk_cell ku1 1
            refine hK.out _ _ (trivial) (fun _ => ?_)
            clear hK K
            (try simp only [Act.put, List.setIfInBounds_toArray, List.set_cons_zero, List.set_cons_succ])
            refine wpAnyH_ready (rs := [2]) (by kernel_rfl) (by simp) ?_
            refine AllReadyH.cons rfl (fun K hK => ?_) AllReadyH.nil
            go_simp
            refine (HSu.out _).mono ?_
            rintro ee u2 ⟨rfl, hu2⟩
            have bu2 := below_viaD bu1 hu2
            have ku2 := blk_below kU bu2 (blk_lt kU)
            clear cu0 cu1
            have cu0 := blk_cell ku2 0
            have cu1 := blk_cell ku2 1
            have fu0 := blk_free ku2 0
            have fu1 := blk_free ku2 1
            refine hK.out _ _ (trivial) (fun _ => ?_)
            clear hK K
            (try simp only [Act.put, List.setIfInBounds_toArray, List.set_cons_zero, List.set_cons_succ])
            refine take_named (i := 3) (d := 68) (v := ?vSp3) rfl (by kernel_rfl) (by kernel_rfl) (by kernel_rfl) (by kernel_rfl) (fun _ _ _ h => h) (Or.inl ⟨by kernel_rfl, ?ySp3⟩) (by assumption) ?_
            case ySp3 => intro wq hSw; (try dsimp only at hSw); go_simp; (try with_reducible rfl)
            (try simp only [Act.put, List.setIfInBounds_toArray, List.set_cons_zero, List.set_cons_succ])
            refine take_named (i := 4) (d := 72) (v := ?vSp4) rfl (by kernel_rfl) (by kernel_rfl) (by kernel_rfl) (by kernel_rfl) (fun _ _ _ h => h) (Or.inl ⟨by kernel_rfl, ?ySp4⟩) (by assumption) ?_
            case ySp4 => intro wq hSw; (try dsimp only at hSw); go_simp; (try with_reducible rfl)
            (try simp only [Act.put, List.setIfInBounds_toArray, List.set_cons_zero, List.set_cons_succ])
            refine take_named (i := 5) (d := 73) (v := ?vSp5) rfl (by kernel_rfl) (by kernel_rfl) (by kernel_rfl) (by kernel_rfl) (fun _ _ _ h => h) (Or.inl ⟨by kernel_rfl, ?ySp5⟩) (by assumption) ?_
            case ySp5 => intro wq hSw; (try dsimp only at hSw); go_simp; (try with_reducible rfl)
            (try simp only [Act.put, List.setIfInBounds_toArray, List.set_cons_zero, List.set_cons_succ])
            refine wpAnyH_ready (rs := [6]) (by kernel_rfl) (by simp) ?_
            refine AllReadyH.cons rfl (fun K hK => ?_) AllReadyH.nil
            go_simp
            refine hK.out _ _ (trivial) (fun _ => ?_)
            clear hK K
            (try simp only [Act.put, List.setIfInBounds_toArray, List.set_cons_zero, List.set_cons_succ])
            refine wpAnyH_done (by kernel_rfl) ?_ _
            obtain ⟨V, hV⟩ : ∃ V, (u2.setCell ⟨gA, 0, none⟩ (.int .i64 r1)).setCell ⟨gA, 1, none⟩ (.int .i64 r2) = V := ⟨_, rfl⟩
            have kV : V.heap[gA]? = some (.cells #[.int .i64 r1, .int .i64 r2] 23 (0, 0)) := by rw [← hV]; exact blk_set (blk_set ku2 0 _) 1 _
            have bV : Below w.heap.size w V := by rw [← hV]; exact ((below_viaD bU.out bu2).setCell (p := ⟨gA, 0, none⟩) hgw.out _).setCell (p := ⟨gA, 1, none⟩) hgw.out _
            have rV : V.heap[g + 1]? = some (.cells #[.int .i64 0, .int .i64 0] 23 (0, 0)) := by rw [← hV]; exact blk_far (blk_far (blk_below hRes.out bu2 (blk_lt hRes.out)) (p := ⟨gA, 0, none⟩) HN.out _) (p := ⟨gA, 1, none⟩) HN.out _
            rw [hV]
            exact KEY V ⟨kV, bV, rV⟩
          · skip
            go_simp
            refine (HWh.out _ _).mono ?_
            rintro ee u1 ⟨rfl, hu1⟩
            have bu1 := below_viaD b0 hu1
            have ku1 := blk_below kU bu1 (blk_lt kU)
            have cu0 := blk_cell ku1 0
            have cu1 := blk_cell ku1 1
            refine hK.out _ _ (trivial) (fun _ => ?_)
            clear hK K
            (try simp only [Act.put, List.setIfInBounds_toArray, List.set_cons_zero, List.set_cons_succ])
            refine wpAnyH_ready (rs := [0]) (by kernel_rfl) (by simp) ?_
            refine AllReadyH.cons rfl (fun K hK => ?_) AllReadyH.nil
            go_simp
            refine hK.out _ _ (trivial) (fun _ => ?_)
            clear hK K
            (try simp only [Act.put, List.setIfInBounds_toArray, List.set_cons_zero, List.set_cons_succ])
            refine wpAnyH_ready (rs := [2]) (by kernel_rfl) (by simp) ?_
            refine AllReadyH.cons rfl (fun K hK => ?_) AllReadyH.nil
            go_simp
            refine (HSu.out _).mono ?_
            rintro ee u2 ⟨rfl, hu2⟩
            have bu2 := below_viaD bu1 hu2
            have ku2 := blk_below kU bu2 (blk_lt kU)
            clear cu0 cu1
            have cu0 := blk_cell ku2 0
            have cu1 := blk_cell ku2 1
            have fu0 := blk_free ku2 0
            have fu1 := blk_free ku2 1
            refine hK.out _ _ (trivial) (fun _ => ?_)
            clear hK K
            (try simp only [Act.put, List.setIfInBounds_toArray, List.set_cons_zero, List.set_cons_succ])
            refine take_named (i := 3) (d := 68) (v := ?vSq3) rfl (by kernel_rfl) (by kernel_rfl) (by kernel_rfl) (by kernel_rfl) (fun _ _ _ h => h) (Or.inl ⟨by kernel_rfl, ?ySq3⟩) (by assumption) ?_
            case ySq3 => intro wq hSw; (try dsimp only at hSw); go_simp; (try with_reducible rfl)
            (try simp only [Act.put, List.setIfInBounds_toArray, List.set_cons_zero, List.set_cons_succ])
            refine take_named (i := 4) (d := 72) (v := ?vSq4) rfl (by kernel_rfl) (by kernel_rfl) (by kernel_rfl) (by kernel_rfl) (fun _ _ _ h => h) (Or.inl ⟨by kernel_rfl, ?ySq4⟩) (by assumption) ?_
            case ySq4 => intro wq hSw; (try dsimp only at hSw); go_simp; (try with_reducible rfl)
            (try simp only [Act.put, List.setIfInBounds_toArray, List.set_cons_zero, List.set_cons_succ])
            refine take_named (i := 5) (d := 73) (v := ?vSq5) rfl (by kernel_rfl) (by kernel_rfl) (by kernel_rfl) (by kernel_rfl) (fun _ _ _ h => h) (Or.inl ⟨by kernel_rfl, ?ySq5⟩) (by assumption) ?_
            case ySq5 => intro wq hSw; (try dsimp only at hSw); go_simp; (try with_reducible rfl)
            (try simp only [Act.put, List.setIfInBounds_toArray, List.set_cons_zero, List.set_cons_succ])
            refine wpAnyH_ready (rs := [6]) (by kernel_rfl) (by simp) ?_
            refine AllReadyH.cons rfl (fun K hK => ?_) AllReadyH.nil
            go_simp
            refine hK.out _ _ (trivial) (fun _ => ?_)
            clear hK K
            (try simp only [Act.put, List.setIfInBounds_toArray, List.set_cons_zero, List.set_cons_succ])
            refine wpAnyH_done (by kernel_rfl) ?_ _
            obtain ⟨V, hV⟩ : ∃ V, (u2.setCell ⟨gA, 0, none⟩ (.int .i64 r1)).setCell ⟨gA, 1, none⟩ (.int .i64 r2) = V := ⟨_, rfl⟩
            have kV : V.heap[gA]? = some (.cells #[.int .i64 r1, .int .i64 r2] 23 (0, 0)) := by rw [← hV]; exact blk_set (blk_set ku2 0 _) 1 _
            have bV : Below w.heap.size w V := by rw [← hV]; exact ((below_viaD bU.out bu2).setCell (p := ⟨gA, 0, none⟩) hgw.out _).setCell (p := ⟨gA, 1, none⟩) hgw.out _
            have rV : V.heap[g + 1]? = some (.cells #[.int .i64 0, .int .i64 0] 23 (0, 0)) := by rw [← hV]; exact blk_far (blk_far (blk_below hRes.out bu2 (blk_lt hRes.out)) (p := ⟨gA, 0, none⟩) HN.out _) (p := ⟨gA, 1, none⟩) HN.out _
            rw [hV]
            exact KEY V ⟨kV, bV, rV⟩
        case k =>
          intro UZ hC
          clear hz0 hz1 kU bU hRes
          have kU := hC.1
          have bU := Lib.hid hC.2.1
          have hRes := Lib.hid hC.2.2
          clear hC
          skip
          have hz0 := blk_cell kU 0
          have hz1 := blk_cell kU 1
          have y0 := blk_cell hRes.out 0
          have y1 := blk_cell hRes.out 1
          have y2 := blk_free hRes.out 0
          have y3 := blk_free hRes.out 1
          go_wp2
          have z := blk_set (blk_set hRes.out 0 (.int .i64 r1)) 1 (.int .i64 r2)
          have z0 := blk_cell z 0
          have z1 := blk_cell z 1
          exact bodyPost_ret (v := .tuple #[.agg #[.int .i64 r1, .int .i64 r2], .int .i64 0]) (by simp [results, Tryd.results12, go_sem, z0, z1]) rfl ⟨rfl, (bU.out.setCell (p := ⟨g + 1, 0, none⟩) Hgw.out _).setCell (p := ⟨g + 1, 1, none⟩) Hgw.out _⟩

end Go.Proofs.YtlobdeakgoicpaaDoor
