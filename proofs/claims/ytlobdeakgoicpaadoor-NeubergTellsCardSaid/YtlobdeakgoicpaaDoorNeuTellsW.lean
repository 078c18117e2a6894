/- The walk of the statement NeubergTells. (Written by genntells.py.) -/
import Derived.Test.YtlobdeakgoicpaaDoorR21S
import Derived.Test.YtlobdeakgoicpaaDoorNeuAwakeW
namespace Go.Proofs.YtlobdeakgoicpaaDoor
open Go.RowKit

set_option maxHeartbeats 4000000 in
set_option maxRecDepth 100000 in
theorem ntells_walk (f1 f2 n all p : Int) (h1 : -9223372036854775808 ≤ f1 ∧ f1 ≤ 9223372036854775807) (h2 : -9223372036854775808 ≤ f2 ∧ f2 ≤ 9223372036854775807) (hp : -9223372036854775808 ≤ p ∧ p ≤ 9223372036854775807) (w : World) (hL : Laid w) :
    Calls Tryd.prog 3 #[.agg #[.int .i64 f1, .int .i64 f2], .int .i64 n, .int .i64 all, .int .i64 p] w fun e w' => e = .returned (.bool true) ∧ Below w.heap.size w w' := by
  obtain ⟨ax, ay, ae, HA1, HA2⟩ := adjust_pair f1 f2 n all h1 h2
  obtain ⟨sx, se, HS1, HS2⟩ := sum_pair n all
  obtain ⟨px, py, pe, HP1, HP2⟩ := percent_pair f1 f2 all h1 h2
  obtain ⟨qx, qy, qe, HQ1, HQ2⟩ := share_pair p all hp
  have HA1 := Lib.hid HA1
  have HA2 := Lib.hid HA2
  have HS1 := Lib.hid HS1
  have HS2 := Lib.hid HS2
  have HP1 := Lib.hid HP1
  have HP2 := Lib.hid HP2
  have HQ1 := Lib.hid HQ1
  have HQ2 := Lib.hid HQ2
  have HW := Lib.hid (fun (W : World) (hW : Below w.heap.size w W) => nawake W (hL.below hW hL.lt))
  clear hL h1 h2 hp
  go_enter Tryd.func3, Tryd.ntmps3
  go_upto_region 1 with fail
  obtain ⟨W0, hW0⟩ : ∃ W0, w.alloc (.cells #[.int .i64 f1, .int .i64 f2] 23) = W0 := ⟨_, rfl⟩
  have B0 : Below w.heap.size w W0 := by rw [← hW0]; exact (by repeat (first | exact Below.refl _ _ | assumption | refine Below.drew ?_ | refine below_drewN ?_ _ | refine Below.alloc ?_ (by first | omega | (simp; done) | (simp; omega)) _ | refine Below.setCell ?_ (by first | omega | (simp; done) | (simp; omega)) _))
  have nM : W0.heap[w.heap.size]? = some (.cells #[.int .i64 f1, .int .i64 f2] 23) := by rw [← hW0]; exact blk_new _ rfl
  have lM := blk_lt nM
  (try rw [hW0])
  clear hW0
  have c0 := blk_cell nM 0
  have c1 := blk_cell nM 1
  go_wp2_with fail
  clear c0 c1
  refine (HA1.out _).mono ?_
  rintro e wa ⟨rfl, hba⟩
  obtain ⟨W1, hW1⟩ : ∃ W1, wa.alloc (.cells #[.int .i64 ax, .int .i64 ay] 23) = W1 := ⟨_, rfl⟩
  obtain ⟨G1, hG1⟩ : ∃ G, wa.heap.size = G := ⟨_, rfl⟩
  have hc : Below W0.heap.size W0 W1 := by rw [← hW1]; exact hba.alloc hba.size _
  have n1 : W1.heap[G1]? = some (.cells #[.int .i64 ax, .int .i64 ay] 23) := by rw [← hW1]; exact blk_new _ hG1.symm
  have l1 := blk_lt n1
  have nM := blk_below nM hc lM
  have lM := blk_lt nM
  have B1 := B0.trans (hc.mono B0.size)
  go_upto_region 2 with fail
  (try rw [hW1]); (try rw [hG1])
  clear hW1 hG1 hba hc
  have c0 := blk_cell nM 0
  have c1 := blk_cell nM 1
  go_wp2_with fail
  clear c0 c1
  refine (HA2.out _).mono ?_
  rintro e wa ⟨rfl, hba⟩
  obtain ⟨W2, hW1⟩ : ∃ W1, wa.alloc (.cells #[.int .i64 ax, .int .i64 ay] 23) = W1 := ⟨_, rfl⟩
  obtain ⟨G2, hG1⟩ : ∃ G, wa.heap.size = G := ⟨_, rfl⟩
  have hc : Below W1.heap.size W1 W2 := by rw [← hW1]; exact hba.alloc hba.size _
  have n2 : W2.heap[G2]? = some (.cells #[.int .i64 ax, .int .i64 ay] 23) := by rw [← hW1]; exact blk_new _ hG1.symm
  have l2 := blk_lt n2
  have nM := blk_below nM hc lM
  have lM := blk_lt nM
  have n1 := blk_below n1 hc l1
  have l1 := blk_lt n1
  have B2 := B1.trans (hc.mono B1.size)
  go_upto_region 3 with fail
  (try rw [hW1]); (try rw [hG1])
  clear hW1 hG1 hba hc
  go_wp2_with fail
  refine (HS1.out _).mono ?_
  rintro e wx ⟨rfl, rfl⟩
  go_upto_region 4 with fail
  go_wp2_with fail
  refine (HS2.out _).mono ?_
  rintro e wx ⟨rfl, rfl⟩
  go_upto_region 5 with fail
  have c0 := blk_cell nM 0
  have c1 := blk_cell nM 1
  go_wp2_with fail
  clear c0 c1
  refine (HP1.out _).mono ?_
  rintro e wa ⟨rfl, hba⟩
  obtain ⟨W3, hW1⟩ : ∃ W1, wa.alloc (.cells #[.int .i64 px, .int .i64 py] 23) = W1 := ⟨_, rfl⟩
  obtain ⟨G3, hG1⟩ : ∃ G, wa.heap.size = G := ⟨_, rfl⟩
  have hc : Below W2.heap.size W2 W3 := by rw [← hW1]; exact hba.alloc hba.size _
  have n3 : W3.heap[G3]? = some (.cells #[.int .i64 px, .int .i64 py] 23) := by rw [← hW1]; exact blk_new _ hG1.symm
  have l3 := blk_lt n3
  have nM := blk_below nM hc lM
  have lM := blk_lt nM
  have n1 := blk_below n1 hc l1
  have l1 := blk_lt n1
  have n2 := blk_below n2 hc l2
  have l2 := blk_lt n2
  have B3 := B2.trans (hc.mono B2.size)
  go_upto_region 6 with fail
  (try rw [hW1]); (try rw [hG1])
  clear hW1 hG1 hba hc
  have c0 := blk_cell nM 0
  have c1 := blk_cell nM 1
  go_wp2_with fail
  clear c0 c1
  refine (HP2.out _).mono ?_
  rintro e wa ⟨rfl, hba⟩
  obtain ⟨W4, hW1⟩ : ∃ W1, wa.alloc (.cells #[.int .i64 px, .int .i64 py] 23) = W1 := ⟨_, rfl⟩
  obtain ⟨G4, hG1⟩ : ∃ G, wa.heap.size = G := ⟨_, rfl⟩
  have hc : Below W3.heap.size W3 W4 := by rw [← hW1]; exact hba.alloc hba.size _
  have n4 : W4.heap[G4]? = some (.cells #[.int .i64 px, .int .i64 py] 23) := by rw [← hW1]; exact blk_new _ hG1.symm
  have l4 := blk_lt n4
  have nM := blk_below nM hc lM
  have lM := blk_lt nM
  have n1 := blk_below n1 hc l1
  have l1 := blk_lt n1
  have n2 := blk_below n2 hc l2
  have l2 := blk_lt n2
  have n3 := blk_below n3 hc l3
  have l3 := blk_lt n3
  have B4 := B3.trans (hc.mono B3.size)
  go_upto_region 7 with fail
  (try rw [hW1]); (try rw [hG1])
  clear hW1 hG1 hba hc
  go_wp2_with fail
  refine (HQ1.out _).mono ?_
  rintro e wa ⟨rfl, hba⟩
  obtain ⟨W5, hW1⟩ : ∃ W1, wa.alloc (.cells #[.int .i64 qx, .int .i64 qy] 23) = W1 := ⟨_, rfl⟩
  obtain ⟨G5, hG1⟩ : ∃ G, wa.heap.size = G := ⟨_, rfl⟩
  have hc : Below W4.heap.size W4 W5 := by rw [← hW1]; exact hba.alloc hba.size _
  have n5 : W5.heap[G5]? = some (.cells #[.int .i64 qx, .int .i64 qy] 23) := by rw [← hW1]; exact blk_new _ hG1.symm
  have l5 := blk_lt n5
  have n1 := blk_below n1 hc l1
  have l1 := blk_lt n1
  have n2 := blk_below n2 hc l2
  have l2 := blk_lt n2
  have n3 := blk_below n3 hc l3
  have l3 := blk_lt n3
  have n4 := blk_below n4 hc l4
  have l4 := blk_lt n4
  have B5 := B4.trans (hc.mono B4.size)
  go_upto_region 8 with fail
  (try rw [hW1]); (try rw [hG1])
  clear hW1 hG1 hba hc
  go_wp2_with fail
  refine (HQ2.out _).mono ?_
  rintro e wa ⟨rfl, hba⟩
  obtain ⟨W6, hW1⟩ : ∃ W1, wa.alloc (.cells #[.int .i64 qx, .int .i64 qy] 23) = W1 := ⟨_, rfl⟩
  obtain ⟨G6, hG1⟩ : ∃ G, wa.heap.size = G := ⟨_, rfl⟩
  have hc : Below W5.heap.size W5 W6 := by rw [← hW1]; exact hba.alloc hba.size _
  have n6 : W6.heap[G6]? = some (.cells #[.int .i64 qx, .int .i64 qy] 23) := by rw [← hW1]; exact blk_new _ hG1.symm
  have l6 := blk_lt n6
  have n1 := blk_below n1 hc l1
  have l1 := blk_lt n1
  have n2 := blk_below n2 hc l2
  have l2 := blk_lt n2
  have n3 := blk_below n3 hc l3
  have l3 := blk_lt n3
  have n4 := blk_below n4 hc l4
  have l4 := blk_lt n4
  have n5 := blk_below n5 hc l5
  have l5 := blk_lt n5
  have B6 := B5.trans (hc.mono B5.size)
  go_upto_region 9 with fail
  (try rw [hW1]); (try rw [hG1])
  clear hW1 hG1 hba hc
  clear nM lM HA1 HA2 HS1 HS2 HP1 HP2 HQ1 HQ2
  have d0 := blk_cell n1 0
  have d1 := blk_cell n1 1
  have d2 := blk_cell n2 0
  have d3 := blk_cell n2 1
  have d4 := blk_cell n3 0
  have d5 := blk_cell n3 1
  have d6 := blk_cell n4 0
  have d7 := blk_cell n4 1
  have d8 := blk_cell n5 0
  have d9 := blk_cell n5 1
  have d10 := blk_cell n6 0
  have d11 := blk_cell n6 1
  clear n1 l1 n2 l2 n3 l3 n4 l4 n5 l5 n6 l6
  go_wp2_with fail
  refine (HW.out _ B6).mono ?_
  rintro e wz ⟨rfl, hz⟩
  go_wp2
  go_ret
  exact ⟨rfl, B6.trans (hz.mono B6.size)⟩

end Go.Proofs.YtlobdeakgoicpaaDoor
