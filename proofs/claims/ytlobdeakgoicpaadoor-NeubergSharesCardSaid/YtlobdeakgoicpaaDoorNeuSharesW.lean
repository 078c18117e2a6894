/- The walk of the statement NeubergShares. -/
import Derived.Test.YtlobdeakgoicpaaDoorNeuAwakeW
namespace Go.Proofs.YtlobdeakgoicpaaDoor
open Go.RowKit

theorem share_fr (p T : Int) : mulF (p, 1) (fr T 100) = fr (p * T) 100 := by
  have h : fr p 1 = (p, 1) := by unfold fr; simp
  rw [← h, mul_fr p T 1 100 (by decide) (by decide)]
  rfl
theorem share_both (p T : Int) : addF (mulF (p, 1) (fr T 100)) (mulF (100 - p, 1) (fr T 100)) = (T, 1) := by
  rw [share_fr, share_fr, add_frD _ _ _ (by decide), ← Int.add_mul, show p + (100 - p) = 100 by omega, Int.mul_comm]
  exact whole_frD T 100 (by decide)
theorem share_back (p T : Int) (hT : 1 ≤ T) : mulF (mulF (p, 1) (fr T 100)) (fr 100 T) = (p, 1) := by
  rw [share_fr, mul_fr _ _ _ _ (by decide) hT, ← whole_frD p (100 * T) (by omega)]
  congr 1
  grind
theorem share_sm (p T : Int) (hp : 0 ≤ p ∧ p ≤ 100) (hT : 0 ≤ T ∧ T ≤ 100) : smF (mulF (p, 1) (fr T 100)) := by
  rw [share_fr]
  have h1 := Int.mul_nonneg hp.1 hT.1
  have h2 : p * T ≤ 100 * 100 := Int.mul_le_mul hp.2 hT.2 hT.1 (by omega)
  exact sm_frD _ _ (by decide) (by omega)

set_option maxHeartbeats 4000000 in
set_option maxRecDepth 100000 in
theorem nshares_walk (x y : Int) (hx : 0 ≤ x ∧ x ≤ 255) (hy : 0 ≤ y ∧ y ≤ 255) (w : World) (hL : Laid w) :
    Calls Tryd.prog 6 #[.int .u8 x, .int .u8 y] w fun e w' => e = .returned (.bool true) ∧ Below w.heap.size w w' := by
  obtain ⟨p, hp⟩ : ∃ p, x % 101 = p := ⟨_, rfl⟩
  obtain ⟨n, hn⟩ : ∃ n, 2 + y % 23 = n := ⟨_, rfl⟩
  have hpb : 0 ≤ p ∧ p ≤ 100 := by omega
  have hnb : 2 ≤ n ∧ n ≤ 24 := by omega
  have a1 : IntKind.i64.wrap (2 + y % 23) = n := by rw [hn]; exact IntWalk.i64_in _ (by omega)
  obtain ⟨T, hT⟩ : ∃ T, 2 * (n - 1) = T := ⟨_, rfl⟩
  have hTb : 2 ≤ T ∧ T ≤ 46 := by omega
  have a2 : IntKind.i64.wrap (100 - p) = 100 - p := IntWalk.i64_in _ (by omega)
  have a3 : IntKind.i64.wrap (n - 1) = n - 1 := IntWalk.i64_in _ (by omega)
  have a4 : IntKind.i64.wrap (2 * (n - 1)) = T := by rw [hT]; exact IntWalk.i64_in _ (by omega)
  have HS1 := Lib.hid (fun W => nshare p n W hpb (by omega))
  have HS2 := Lib.hid (fun W => nshare (100 - p) n W (by omega) (by omega))
  have s1 := share_sm p T hpb (by omega)
  have s2 := share_sm (100 - p) T (by omega) (by omega)
  rw [hT] at HS1 HS2
  have HA := Lib.hid (fun W => fadd_sm _ _ s1 s2 W)
  rw [share_both] at HA
  have HP := Lib.hid (fun W => npercent _ n W hnb s1)
  rw [hT, share_back p T (by omega)] at HP
  have HW := Lib.hid (fun (W : World) (hW : Below w.heap.size w W) => nawake W (hL.below hW hL.lt))
  generalize mulF (p, 1) (fr T 100) = f at *
  generalize mulF (100 - p, 1) (fr T 100) = g at *
  obtain ⟨f1, f2⟩ := f
  obtain ⟨g1, g2⟩ := g
  unfold fV at HS1 HS2 HA HP
  dsimp only at HS1 HS2 HA HP
  have A1 := Lib.hid a1
  have A2 := Lib.hid a2
  have A3 := Lib.hid a3
  have A4 := Lib.hid a4
  have Hp := Lib.hid hp
  clear hL s1 s2 hT a1 a2 a3 a4 hp hn
  go_enter Tryd.func6, Tryd.ntmps6
  have a1 := A1.out
  go_upto_region 2 with fail
  rw [Hp.out]
  clear a1
  have p0 : Below w.heap.size w w := Below.refl _ _
  go_wp2_with fail
  refine (HS1.out _).mono ?_
  rintro e wa ⟨rfl, hba⟩
  obtain ⟨W1, hW1⟩ : ∃ W1, wa.alloc (.cells #[.int .i64 f1, .int .i64 f2] 23) = W1 := ⟨_, rfl⟩
  obtain ⟨G1, hG1⟩ : ∃ G, wa.heap.size = G := ⟨_, rfl⟩
  have B1 : Below w.heap.size w W1 := by rw [← hW1]; exact hba.alloc hba.size _
  have n1 : W1.heap[G1]? = some (.cells #[.int .i64 f1, .int .i64 f2] 23) := by rw [← hW1]; exact blk_new _ hG1.symm
  have l1 := blk_lt n1
  go_upto_region 3 with fail
  (try rw [hW1]); (try rw [hG1])
  clear hW1 hG1 hba
  have a2 := A2.out
  go_wp2_with fail
  clear a2
  refine (HS2.out _).mono ?_
  rintro e wb ⟨rfl, hbb⟩
  obtain ⟨W2, hW2⟩ : ∃ W2, wb.alloc (.cells #[.int .i64 g1, .int .i64 g2] 23) = W2 := ⟨_, rfl⟩
  obtain ⟨G2, hG2⟩ : ∃ G, wb.heap.size = G := ⟨_, rfl⟩
  have hc2 : Below W1.heap.size W1 W2 := by rw [← hW2]; exact hbb.alloc hbb.size _
  have n2 : W2.heap[G2]? = some (.cells #[.int .i64 g1, .int .i64 g2] 23) := by rw [← hW2]; exact blk_new _ hG2.symm
  have n1 := blk_below n1 hc2 l1
  have l1 := blk_lt n1
  have l2 := blk_lt n2
  have B2 := B1.trans (hc2.mono B1.size)
  go_upto_region 4 with fail
  (try rw [hW2]); (try rw [hG2])
  clear hW2 hG2 hbb hc2
  have c0 := blk_cell n1 0
  have c1 := blk_cell n1 1
  have c2 := blk_cell n2 0
  have c3 := blk_cell n2 1
  go_wp2_with fail
  clear c0 c1 c2 c3
  refine (HA.out _).mono ?_
  rintro e wc ⟨rfl, hbc⟩
  obtain ⟨W3, hW3⟩ : ∃ W3, wc.alloc (.cells #[.int .i64 T, .int .i64 1] 23) = W3 := ⟨_, rfl⟩
  obtain ⟨G3, hG3⟩ : ∃ G, wc.heap.size = G := ⟨_, rfl⟩
  have hc3 : Below W2.heap.size W2 W3 := by rw [← hW3]; exact hbc.alloc hbc.size _
  have n3 : W3.heap[G3]? = some (.cells #[.int .i64 T, .int .i64 1] 23) := by rw [← hW3]; exact blk_new _ hG3.symm
  have n1 := blk_below n1 hc3 l1
  have l3 := blk_lt n3
  have B3 := B2.trans (hc3.mono B2.size)
  go_upto_region 5 with fail
  (try rw [hW3]); (try rw [hG3])
  clear hW3 hG3 hbc hc3 n2 l2
  have c0 := blk_cell n1 0
  have c1 := blk_cell n1 1
  go_wp2_with fail
  clear c0 c1
  refine (HP.out _).mono ?_
  rintro e wd ⟨rfl, hbd⟩
  obtain ⟨W4, hW4⟩ : ∃ W4, wd.alloc (.cells #[.int .i64 p, .int .i64 1] 23) = W4 := ⟨_, rfl⟩
  obtain ⟨G4, hG4⟩ : ∃ G, wd.heap.size = G := ⟨_, rfl⟩
  have hc4 : Below W3.heap.size W3 W4 := by rw [← hW4]; exact hbd.alloc hbd.size _
  have n4 : W4.heap[G4]? = some (.cells #[.int .i64 p, .int .i64 1] 23) := by rw [← hW4]; exact blk_new _ hG4.symm
  have n3 := blk_below n3 hc4 l3
  have l3 := blk_lt n3
  have l4 := blk_lt n4
  have B4 := B3.trans (hc4.mono B3.size)
  go_upto_region 6 with fail
  (try rw [hW4]); (try rw [hG4])
  clear hW4 hG4 hbd hc4 n1 l1 HS1 HS2 HA HP
  have d0 := blk_cell n3 0
  have d1 := blk_cell n3 1
  have d2 := blk_cell n4 0
  have d3 := blk_cell n4 1
  have hd : Below W4.heap.size W4 W4.drew := (Below.refl _ _).drew
  have z4 := B4.size
  have HK := Lib.hid (fun (w' : World) (h : Below W4.heap.size W4 w') => (show w'.cell? ⟨G3, 0, none⟩ = some (.int .i64 T) ∧ w'.cell? ⟨G3, 1, none⟩ = some (.int .i64 1) ∧ w'.cell? ⟨G4, 0, none⟩ = some (.int .i64 p) ∧ w'.cell? ⟨G4, 1, none⟩ = some (.int .i64 1) from ⟨keepB h l3 d0, keepB h l3 d1, keepB h l4 d2, keepB h l4 d3⟩))
  have HW4 := Lib.hid (fun (W : World) (h : Below W4.heap.size W4 W) => HW.out W (B4.trans (h.mono z4)))
  clear HW n3 n4
  have a3 := A3.out
  have a4 := A4.out
  go_region_held3 (fun w' => w'.cell? ⟨G3, 0, none⟩ = some (.int .i64 T) ∧ w'.cell? ⟨G3, 1, none⟩ = some (.int .i64 1) ∧ w'.cell? ⟨G4, 0, none⟩ = some (.int .i64 p) ∧ w'.cell? ⟨G4, 1, none⟩ = some (.int .i64 1)) ((first | exact ⟨d0, d1, d2, d3⟩ | exact HK.out _ hz | exact HK.out _ hy))
    ((first
      | (go_at_call 24; (with_reducible refine (q_any _ _ _).mono ?_); rintro e wy ⟨rfl, hz0⟩; first | (have hy := hy.trans (hz0.mono hy.size)) | (have hy := hd.trans (hz0.mono hd.size)))
      | (go_at_call 19; (with_reducible refine (HW4.out _ hy).mono ?_); rintro e wz ⟨rfl, hz0⟩; have hz := hy.trans (hz0.mono hy.size))))
  clear a3 a4
  go_wp2
  go_ret
  exact ⟨rfl, B4.trans (hz.mono z4)⟩

end Go.Proofs.YtlobdeakgoicpaaDoor
