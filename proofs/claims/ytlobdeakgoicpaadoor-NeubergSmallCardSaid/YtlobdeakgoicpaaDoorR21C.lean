/- finesseref21.Adjust: too great. -/
import Derived.Test.YtlobdeakgoicpaaDoorR21B
namespace Go.Proofs.YtlobdeakgoicpaaDoor
open Go.RowKit

set_option maxRecDepth 100000 in
set_option maxHeartbeats 4000000 in
theorem r21adjust_great (f1 f2 n all c : Int) (w : World) (hb : boardB n all = true) (hn : 1 ≤ n) (hr : rightF (f1, f2) = true) (hf : 0 ≤ f1 ∧ f1 ≤ 9223372036854775807) (h2 : 0 ≤ f2 ∧ f2 ≤ 10000) (hc : 0 < c)
    (HCm : ∀ W, Calls Tryd.prog 41 #[.agg #[.int .i64 f1, .int .i64 f2], .agg #[.int .i64 (2 * n - 2), .int .i64 1]] W fun e w' => e = .returned (.tuple #[.int .i64 c, .int .i64 0]) ∧ Below W.heap.size W w') :
    Calls Tryd.prog 12 #[.agg #[.int .i64 f1, .int .i64 f2], .int .i64 n, .int .i64 all] w fun e w' => e = .returned (.tuple #[.agg #[.int .i64 0, .int .i64 0], .int .i64 2]) ∧ Below w.heap.size w w' := by
  have HB := Lib.hid (fun W => r21board n all W)
  obtain ⟨g1, g2, g3, g4⟩ := (boardB_iff n all).1 hb
  rw [hb] at HB
  have HRi := Lib.hid (fun W => r01right f1 f2 W (by omega) (by omega))
  rw [hr] at HRi
  have HWh := Lib.hid (fun n W => r21whole n W)
  have HCm := Lib.hid HCm
  have i1 := IntWalk.i64_in (2 * n) (by omega)
  have i2 := IntWalk.i64_in (2 * n - 2) (by omega)
  have t1 : ¬ n < 1 := by omega
  have t2 : ¬ f1 < 0 := by omega
  have t3 : ¬ 10000 < f2 := by omega
  have t4 : 0 < c := hc
  obtain ⟨g, hg⟩ : ∃ g, w.heap.size = g := ⟨_, rfl⟩
  obtain ⟨W1, hW1⟩ : ∃ V, (w.alloc (.cells #[.int .i64 f1, .int .i64 f2] 23)).alloc (.cells #[.int .i64 0, .int .i64 0] 23) = V := ⟨_, rfl⟩
  have hb1 : Below w.heap.size w W1 := by rw [← hW1]; exact (by repeat (first | exact Below.refl _ _ | assumption | refine Below.drew ?_ | refine below_drewN ?_ _ | refine Below.alloc ?_ (by first | omega | (simp; done) | (simp; omega)) _ | refine Below.setCell ?_ (by first | omega | (simp; done) | (simp; omega)) _))
  have hz1 : W1.heap.size = g + 2 := by rw [← hW1]; simp; omega
  have k0 : W1.heap[g]? = some (.cells #[.int .i64 f1, .int .i64 f2] 23 (0, 0)) := by rw [← hW1]; exact blk_alloc (blk_new _ hg.symm) _
  have k1 : W1.heap[g + 1]? = some (.cells #[.int .i64 0, .int .i64 0] 23 (0, 0)) := by rw [← hW1]; exact blk_new _ (by simp; omega)
  have HK := Lib.hid (fun (W : World) (hb : Below W1.heap.size W1 W) => (show W.heap[g]? = some (.cells #[.int .i64 f1, .int .i64 f2] 23 (0, 0)) from blk_below k0 hb (blk_lt k0)))
  have HK1 := Lib.hid (fun (W : World) (hb : Below W1.heap.size W1 W) => (show W.heap[g + 1]? = some (.cells #[.int .i64 0, .int .i64 0] 23 (0, 0)) from blk_below k1 hb (blk_lt k1)))
  have Hgw := Lib.hid (show w.heap.size ≤ g + 1 by omega)
  have HB1 := Lib.hid hb1
  have Hz1 := Lib.hid hz1
  have c0 := blk_cell k0 0
  have c1 := blk_cell k0 1
  clear hb hn hr hf h2 hc g1 g2 g3 g4 hb1 k0 k1 hz1
  go_enter Tryd.func12, Tryd.ntmps12
  go_wp2_with fail
  (try rw [hW1])
  (try rw [hg])
  clear hW1 hg
  refine (HB.out _).mono ?_
  rintro ee u0 ⟨rfl, rfl⟩
  go_wp2_with fail
  refine (HRi.out _).mono ?_
  rintro ee u1 ⟨rfl, hr1⟩
  have k0 := HK.out _ hr1
  clear c0 c1
  have c0 := blk_cell k0 0
  have c1 := blk_cell k0 1
  have HKsC := Lib.hid (fun (W : World) (hb : Below u1.heap.size u1 W) => (show W.cell? ⟨g, 0, none⟩ = some (.int .i64 f1) ∧ W.cell? ⟨g, 1, none⟩ = some (.int .i64 f2) from ⟨keepD hb (blk_lt k0) c0, keepD hb (blk_lt k0) c1⟩))
  have hSC : (fun wq : World => wq.cell? ⟨g, 0, none⟩ = some (.int .i64 f1) ∧ wq.cell? ⟨g, 1, none⟩ = some (.int .i64 f2)) u1 := ⟨c0, c1⟩
  have hBC : Below u1.heap.size u1 u1.drew := (Below.refl _ _).drew
  have Hr1 := Lib.hid hr1
  clear hr1 k0
  go_upto_region 3 with fail
  refine wp_region_held_drew (S := (fun wq => wq.cell? ⟨g, 0, none⟩ = some (.int .i64 f1) ∧ wq.cell? ⟨g, 1, none⟩ = some (.int .i64 f2))) (by kernel_rfl) hSC (fun hHeldC => ?_)
  refine take_named (i := 0) (d := 37) (v := ?vC0) rfl (by kernel_rfl) (by kernel_rfl) (by kernel_rfl) (by kernel_rfl) (fun _ _ _ h => h) (Or.inl ⟨by kernel_rfl, ?yC0⟩) (by assumption) ?_
  case yC0 => intro wq hSw; (try dsimp only at hSw); go_simp; (try with_reducible rfl)
  (try simp only [Act.put, List.setIfInBounds_toArray, List.set_cons_zero, List.set_cons_succ])
  refine take_named (i := 1) (d := 38) (v := ?vC1) rfl (by kernel_rfl) (by kernel_rfl) (by kernel_rfl) (by kernel_rfl) (fun _ _ _ h => h) (Or.inl ⟨by kernel_rfl, ?yC1⟩) (by assumption) ?_
  case yC1 => intro wq hSw; (try dsimp only at hSw); go_simp; (try with_reducible rfl)
  (try simp only [Act.put, List.setIfInBounds_toArray, List.set_cons_zero, List.set_cons_succ])
  refine take_named (i := 2) (d := 39) (v := ?vC2) rfl (by kernel_rfl) (by kernel_rfl) (by kernel_rfl) (by kernel_rfl) (fun _ _ _ h => h) (Or.inl ⟨by kernel_rfl, ?yC2⟩) (by assumption) ?_
  case yC2 => intro wq hSw; (try dsimp only at hSw); go_simp; (try with_reducible rfl)
  (try simp only [Act.put, List.setIfInBounds_toArray, List.set_cons_zero, List.set_cons_succ])
  refine take_named (i := 3) (d := 40) (v := ?vC3) rfl (by kernel_rfl) (by kernel_rfl) (by kernel_rfl) (by kernel_rfl) (fun _ _ _ h => h) (Or.inl ⟨by kernel_rfl, ?yC3⟩) (by assumption) ?_
  case yC3 => intro wq hSw; (try dsimp only at hSw); go_simp; (try with_reducible rfl)
  (try simp only [Act.put, List.setIfInBounds_toArray, List.set_cons_zero, List.set_cons_succ])
  refine wpAnyH_ready (rs := [4]) (by kernel_rfl) (by simp) ?_
  refine AllReadyH.cons rfl (fun K hK => ?_) AllReadyH.nil
  go_simp
  refine (HWh.out _ _).mono ?_
  rintro ee v1 ⟨rfl, hb1⟩
  have bv1 := below_viaD hBC hb1
  refine hK.out _ _ (HKsC.out _ bv1) (fun hHeldC4 => ?_)
  clear hK K hHeldC
  (try simp only [Act.put, List.setIfInBounds_toArray, List.set_cons_zero, List.set_cons_succ])
  refine wpAnyH_ready (rs := [5]) (by kernel_rfl) (by simp) ?_
  refine AllReadyH.cons rfl (fun K hK => ?_) AllReadyH.nil
  go_simp
  refine (HCm.out _).mono ?_
  rintro ee v2 ⟨rfl, hb2⟩
  have bv2 := below_viaD bv1 hb2
  refine hK.out _ _ (HKsC.out _ bv2) (fun hHeldC5 => ?_)
  clear hK K hHeldC4
  (try simp only [Act.put, List.setIfInBounds_toArray, List.set_cons_zero, List.set_cons_succ])
  refine take_named (i := 6) (d := 36) (v := ?vC6) rfl (by kernel_rfl) (by kernel_rfl) (by kernel_rfl) (by kernel_rfl) (fun _ _ _ h => h) (Or.inl ⟨by kernel_rfl, ?yC6⟩) (by assumption) ?_
  case yC6 => intro wq hSw; (try dsimp only at hSw); go_simp; (try with_reducible rfl)
  (try simp only [Act.put, List.setIfInBounds_toArray, List.set_cons_zero, List.set_cons_succ])
  refine take_named (i := 7) (d := 43) (v := ?vC7) rfl (by kernel_rfl) (by kernel_rfl) (by kernel_rfl) (by kernel_rfl) (fun _ _ _ h => h) (Or.inl ⟨by kernel_rfl, ?yC7⟩) (by assumption) ?_
  case yC7 => intro wq hSw; (try dsimp only at hSw); go_simp; (try with_reducible rfl)
  (try simp only [Act.put, List.setIfInBounds_toArray, List.set_cons_zero, List.set_cons_succ])
  refine take_named (i := 8) (d := 44) (v := ?vC8) rfl (by kernel_rfl) (by kernel_rfl) (by kernel_rfl) (by kernel_rfl) (fun _ _ _ h => h) (Or.inl ⟨by kernel_rfl, ?yC8⟩) (by assumption) ?_
  case yC8 => intro wq hSw; (try dsimp only at hSw); go_simp; (try with_reducible rfl)
  (try simp only [Act.put, List.setIfInBounds_toArray, List.set_cons_zero, List.set_cons_succ])
  refine take_named (i := 9) (d := 8) (v := ?vC9) rfl (by kernel_rfl) (by kernel_rfl) (by kernel_rfl) (by kernel_rfl) (fun _ _ _ h => h) (Or.inl ⟨by kernel_rfl, ?yC9⟩) (by assumption) ?_
  case yC9 => intro wq hSw; (try dsimp only at hSw); go_simp; (try with_reducible rfl)
  (try simp only [Act.put, List.setIfInBounds_toArray, List.set_cons_zero, List.set_cons_succ])
  refine take_named (i := 10) (d := 9) (v := ?vC10) rfl (by kernel_rfl) (by kernel_rfl) (by kernel_rfl) (by kernel_rfl) (fun _ _ _ h => h) (Or.inl ⟨by kernel_rfl, ?yC10⟩) (by assumption) ?_
  case yC10 => intro wq hSw; (try dsimp only at hSw); go_simp; (try with_reducible rfl)
  (try simp only [Act.put, List.setIfInBounds_toArray, List.set_cons_zero, List.set_cons_succ])
  refine wpAnyH_done (by kernel_rfl) ?_ _
  clear hHeldC5
  have hrA := below_viaD Hr1.out bv2
  have k1 := HK1.out _ hrA
  have bU := Lib.hid (below_viaD HB1.out hrA)
  clear hSC c0 c1 hrA
  have y0 := blk_cell k1 0
  have y1 := blk_cell k1 1
  have y2 := blk_free k1 0
  have y3 := blk_free k1 1
  go_wp2
  have z := blk_set (blk_set k1 0 (.int .i64 0)) 1 (.int .i64 0)
  have z0 := blk_cell z 0
  have z1 := blk_cell z 1
  exact bodyPost_ret (v := .tuple #[.agg #[.int .i64 0, .int .i64 0], .int .i64 2]) (by simp [results, Tryd.results12, go_sem, z0, z1]) rfl ⟨rfl, (bU.out.setCell (p := ⟨g + 1, 0, none⟩) Hgw.out _).setCell (p := ⟨g + 1, 1, none⟩) Hgw.out _⟩

end Go.Proofs.YtlobdeakgoicpaaDoor
