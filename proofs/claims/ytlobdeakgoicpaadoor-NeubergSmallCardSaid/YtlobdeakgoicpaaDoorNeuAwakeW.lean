/- The walk of finesselaw21.awake. (Written by gennawake.py.) -/
import Derived.Test.YtlobdeakgoicpaaDoorNeuW
import Derived.Test.YtlobdeakgoicpaaDoorRowOf
namespace Go.Proofs.YtlobdeakgoicpaaDoor
open Go.RowKit

theorem nex1 : adjF (2, 1) 3 5 = (4, 1) ∧ adjF (4, 1) 3 5 = (22, 3) ∧ adjF (0, 1) 3 5 = (2, 3) ∧ mulF (22, 3) (fr 100 (2 * (5 - 1))) = (275, 3) ∧ mulF (60, 1) (fr (2 * (5 - 1)) 100) = (24, 5) := by decide +kernel
theorem nsm (f : Pt) (h : (1 ≤ f.2 ∧ Int.gcd f.1 f.2 = 1) ∧ (-1000000000 ≤ f.1 ∧ f.1 ≤ 1000000000) ∧ f.2 ≤ 1000000) : smF f := h
theorem nexA (x : Int) (hx : x = 2 ∨ x = 4 ∨ x = 0) (w : World) : Calls Tryd.prog 11 #[fV (x, 1), .int .i64 3, .int .i64 5] w fun e w' => e = .returned (.tuple #[fV (adjF (x, 1) 3 5), .int .i64 0]) ∧ Below w.heap.size w w' := by
  rcases hx with rfl | rfl | rfl
  · exact nadjust (2, 1) 3 5 w (by decide) (by decide) (by decide) (sm_whole 2 (by decide)) (nsm _ (by decide +kernel)) (nsm _ (by decide +kernel))
  · exact nadjust (4, 1) 3 5 w (by decide) (by decide) (by decide) (sm_whole 4 (by decide)) (nsm _ (by decide +kernel)) (nsm _ (by decide +kernel))
  · exact nadjust (0, 1) 3 5 w (by decide) (by decide) (by decide) (sm_whole 0 (by decide)) (nsm _ (by decide +kernel)) (nsm _ (by decide +kernel))

set_option maxHeartbeats 4000000 in
set_option maxRecDepth 100000 in
theorem nawake (w : World) (hL : Laid w) : Calls Tryd.prog 19 #[] w fun e w' => e = .returned (.bool true) ∧ Below w.heap.size w w' := by
  have h0 := hL.lt
  have HL := Lib.hid hL
  have HA2 := Lib.hid (fun W => nexA 2 (by decide) W)
  have HA4 := Lib.hid (fun W => nexA 4 (by decide) W)
  have HA0 := Lib.hid (fun W => nexA 0 (by decide) W)
  have HP := Lib.hid (fun W => npercent (22, 3) 5 W (by decide) (nsm _ (by decide +kernel)))
  have HS := Lib.hid (fun W => nshare 60 5 W (by decide) (by decide))
  have HN := Lib.hid (fun W => npercent_one (0, 1) W (sm_whole 0 (by decide)))
  have HQ := Lib.hid (fun W => nsum 3 5 W (by decide) (by decide))
  rw [nex1.1] at HA2
  rw [nex1.2.1] at HA4
  rw [nex1.2.2.1] at HA0
  rw [nex1.2.2.2.1] at HP
  rw [nex1.2.2.2.2] at HS
  rw [show (3 : Int) * (5 - 1) = 12 from rfl] at HQ
  unfold fV at HA2 HA4 HA0 HP HS HN
  dsimp only at HA2 HA4 HA0 HP HS HN
  clear hL
  go_enter Tryd.func19, Tryd.ntmps19
  have B0 : Below w.heap.size w w := Below.refl _ _
  go_wp2_with fail
  refine (q_any _ _ _).mono ?_
  rintro e p1 ⟨rfl, hq1⟩
  have hs1 := hq1.size
  go_wp2_with fail
  refine (HA2.out _).mono ?_
  rintro e r1 ⟨rfl, hr1⟩
  obtain ⟨W1, hW1⟩ : ∃ W1, r1.alloc (.cells #[.int .i64 4, .int .i64 1] 23) = W1 := ⟨_, rfl⟩
  obtain ⟨G1, hG1⟩ : ∃ G, r1.heap.size = G := ⟨_, rfl⟩
  have hc1 : Below w.heap.size w W1 := by rw [← hW1]; exact (hq1.trans (hr1.mono hs1)).alloc (hq1.trans (hr1.mono hs1)).size _
  have z1 := hc1.size
  have n1 : W1.heap[G1]? = some (.cells #[.int .i64 4, .int .i64 1] 23 (0, 0)) := by rw [← hW1]; exact blk_new _ hG1.symm
  have l1 := blk_lt n1
  have B1 := B0.trans (hc1.mono B0.size)
  go_upto_region 2 with fail
  (try rw [hW1]); (try rw [hG1])
  clear hW1 hG1 hc1 hq1 hr1 hs1
  go_wp2_with fail
  refine (q_any _ _ _).mono ?_
  rintro e p2 ⟨rfl, hq2⟩
  have hs2 := hq2.size
  go_wp2_with fail
  refine (HA4.out _).mono ?_
  rintro e r2 ⟨rfl, hr2⟩
  obtain ⟨W2, hW2⟩ : ∃ W2, r2.alloc (.cells #[.int .i64 22, .int .i64 3] 23) = W2 := ⟨_, rfl⟩
  obtain ⟨G2, hG2⟩ : ∃ G, r2.heap.size = G := ⟨_, rfl⟩
  have hc2 : Below W1.heap.size W1 W2 := by rw [← hW2]; exact (hq2.trans (hr2.mono hs2)).alloc (hq2.trans (hr2.mono hs2)).size _
  have z2 := hc2.size
  have n1 := blk_below n1 hc2 l1
  have l1 := blk_lt n1
  have n2 : W2.heap[G2]? = some (.cells #[.int .i64 22, .int .i64 3] 23 (0, 0)) := by rw [← hW2]; exact blk_new _ hG2.symm
  have l2 := blk_lt n2
  have B2 := B1.trans (hc2.mono B1.size)
  go_upto_region 3 with fail
  (try rw [hW2]); (try rw [hG2])
  clear hW2 hG2 hc2 hq2 hr2 hs2
  go_wp2_with fail
  refine (q_any _ _ _).mono ?_
  rintro e p3 ⟨rfl, hq3⟩
  have hs3 := hq3.size
  go_wp2_with fail
  refine (HA0.out _).mono ?_
  rintro e r3 ⟨rfl, hr3⟩
  obtain ⟨W3, hW3⟩ : ∃ W3, r3.alloc (.cells #[.int .i64 2, .int .i64 3] 23) = W3 := ⟨_, rfl⟩
  obtain ⟨G3, hG3⟩ : ∃ G, r3.heap.size = G := ⟨_, rfl⟩
  have hc3 : Below W2.heap.size W2 W3 := by rw [← hW3]; exact (hq3.trans (hr3.mono hs3)).alloc (hq3.trans (hr3.mono hs3)).size _
  have z3 := hc3.size
  have n1 := blk_below n1 hc3 l1
  have l1 := blk_lt n1
  have n2 := blk_below n2 hc3 l2
  have l2 := blk_lt n2
  have n3 : W3.heap[G3]? = some (.cells #[.int .i64 2, .int .i64 3] 23 (0, 0)) := by rw [← hW3]; exact blk_new _ hG3.symm
  have l3 := blk_lt n3
  have B3 := B2.trans (hc3.mono B2.size)
  go_upto_region 4 with fail
  (try rw [hW3]); (try rw [hG3])
  clear hW3 hG3 hc3 hq3 hr3 hs3
  go_wp2_with fail
  refine (one_any 50 _).mono ?_
  rintro e we ⟨rfl, rfl⟩
  obtain ⟨X1, hX1⟩ : ∃ X, (W3.alloc (.cells #[.int .i64 50, .int .i64 100] 80)).alloc (.cells #[.slice (some ⟨W3.heap.size, 0, none⟩) 1 1] 35) = X := ⟨_, rfl⟩
  have x1 : X1.heap[W3.heap.size]? = some (.cells #[.int .i64 50, .int .i64 100] 80) := by rw [← hX1]; exact blk_alloc (blk_new _ rfl) _
  have x2 : X1.heap[W3.heap.size + 1]? = some (.cells #[.slice (some ⟨W3.heap.size, 0, none⟩) 1 1] 35) := by rw [← hX1]; exact blk_new _ (by simp)
  have hx : Below W3.heap.size W3 X1 := by rw [← hX1]; exact (by repeat (first | exact Below.refl _ _ | assumption | refine Below.drew ?_ | refine below_drewN ?_ _ | refine Below.alloc ?_ (by first | omega | (simp; done) | (simp; omega)) _ | refine Below.setCell ?_ (by first | omega | (simp; done) | (simp; omega)) _))
  have hrow : RowOf X1 ([] ++ [.slice (some ⟨W3.heap.size, 0, none⟩) 1 1]) ([] ++ [[(50, 100)]]) := RowOf.snoc (r := [(50, 100)]) RowOf.nil_ (fun h => by cases h) (rd_parts (l := [(50, 100)]) x1 rfl rfl)
  have HX := Lib.hid (hrow.blk x2 rfl)
  have HLX := Lib.hid (HL.out.below (B3.trans (hx.mono B3.size)) h0)
  have HF := Lib.hid (nfield ([] ++ [[(50, 100)]]) (some ⟨W3.heap.size + 1, 0, none⟩) 1 5 X1 HLX.out HX.out (by decide) (by decide) (by decide))
  rw [show adjL ([] ++ [[(50, 100)]]) 5 = [(4, 1)] from (adj_one [(50, 100)] (by decide) 5).trans (by rfl)] at HF
  have sx := hx.size
  go_wp2_with fail
  (try rw [hX1])
  refine HF.out.mono ?_
  rintro e X2 ⟨v, rfl, hof, hx2⟩
  obtain ⟨pd, cd, rfl⟩ := own_at' hof (by decide)
  have hrd := Rd.of_own hof
  obtain ⟨b', o', he, hpd, d0, d1⟩ := rd_p (l := [(4, 1)]) hrd 0 (by decide)
  obtain ⟨rfl, rfl⟩ : pd = b' ∧ 0 = o' := by injection he with he; injection he with y1 y2; exact ⟨y1, y2⟩
  have d0 : X2.cell? ⟨pd, 0, none⟩ = some (.int .i64 4) := d0
  have d1 : X2.cell? ⟨pd, 1, none⟩ = some (.int .i64 1) := d1
  have hx3 := hx.trans (hx2.mono sx)
  have zx := hx3.size
  have n1 := blk_below n1 hx3 l1
  have l1 := blk_lt n1
  have n2 := blk_below n2 hx3 l2
  have l2 := blk_lt n2
  have n3 := blk_below n3 hx3 l3
  have l3 := blk_lt n3
  have B4 := B3.trans (hx3.mono B3.size)
  clear hX1 x1 x2 hx hrow HX HLX HF hof hrd he hx2 hx3
  go_upto_region 5 with fail
  go_wp2_with fail
  refine (q_any _ _ _).mono ?_
  rintro e p5 ⟨rfl, hq5⟩
  have hs5 := hq5.size
  go_wp2_with fail
  refine (HP.out _).mono ?_
  rintro e r5 ⟨rfl, hr5⟩
  obtain ⟨W5, hW5⟩ : ∃ W5, r5.alloc (.cells #[.int .i64 275, .int .i64 3] 23) = W5 := ⟨_, rfl⟩
  obtain ⟨G5, hG5⟩ : ∃ G, r5.heap.size = G := ⟨_, rfl⟩
  have hc5 : Below X2.heap.size X2 W5 := by rw [← hW5]; exact (hq5.trans (hr5.mono hs5)).alloc (hq5.trans (hr5.mono hs5)).size _
  have z5 := hc5.size
  have n1 := blk_below n1 hc5 l1
  have l1 := blk_lt n1
  have n2 := blk_below n2 hc5 l2
  have l2 := blk_lt n2
  have n3 := blk_below n3 hc5 l3
  have l3 := blk_lt n3
  have d0 := keepB hc5 hpd d0
  have d1 := keepB hc5 hpd d1
  have hpd : pd < W5.heap.size := by omega
  have n5 : W5.heap[G5]? = some (.cells #[.int .i64 275, .int .i64 3] 23 (0, 0)) := by rw [← hW5]; exact blk_new _ hG5.symm
  have l5 := blk_lt n5
  have B5 := B4.trans (hc5.mono B4.size)
  go_upto_region 6 with fail
  (try rw [hW5]); (try rw [hG5])
  clear hW5 hG5 hc5 hq5 hr5 hs5
  go_wp2_with fail
  refine (HS.out _).mono ?_
  rintro e r6 ⟨rfl, hr6⟩
  obtain ⟨W6, hW6⟩ : ∃ W6, r6.alloc (.cells #[.int .i64 24, .int .i64 5] 23) = W6 := ⟨_, rfl⟩
  obtain ⟨G6, hG6⟩ : ∃ G, r6.heap.size = G := ⟨_, rfl⟩
  have hc6 : Below W5.heap.size W5 W6 := by rw [← hW6]; exact (hr6).alloc (hr6).size _
  have z6 := hc6.size
  have n1 := blk_below n1 hc6 l1
  have l1 := blk_lt n1
  have n2 := blk_below n2 hc6 l2
  have l2 := blk_lt n2
  have n3 := blk_below n3 hc6 l3
  have l3 := blk_lt n3
  have n5 := blk_below n5 hc6 l5
  have l5 := blk_lt n5
  have d0 := keepB hc6 hpd d0
  have d1 := keepB hc6 hpd d1
  have hpd : pd < W6.heap.size := by omega
  have n6 : W6.heap[G6]? = some (.cells #[.int .i64 24, .int .i64 5] 23 (0, 0)) := by rw [← hW6]; exact blk_new _ hG6.symm
  have l6 := blk_lt n6
  have B6 := B5.trans (hc6.mono B5.size)
  go_upto_region 7 with fail
  (try rw [hW6]); (try rw [hG6])
  clear hW6 hG6 hc6 hr6
  go_wp2_with fail
  refine (q_any _ _ _).mono ?_
  rintro e p7 ⟨rfl, hq7⟩
  have hs7 := hq7.size
  go_wp2_with fail
  refine (HN.out _).mono ?_
  rintro e r7 ⟨rfl, hr7⟩
  go_upto_region 8 with fail
  obtain ⟨W7, hW7⟩ : ∃ W7, r7.alloc (.cells #[.int .i64 0, .int .i64 0] 23) = W7 := ⟨_, rfl⟩
  obtain ⟨G7, hG7⟩ : ∃ G, r7.heap.size = G := ⟨_, rfl⟩
  have hc7 : Below W6.heap.size W6 W7 := by rw [← hW7]; exact (hq7.trans (hr7.mono hs7)).alloc (hq7.trans (hr7.mono hs7)).size _
  have z7 := hc7.size
  have n1 := blk_below n1 hc7 l1
  have l1 := blk_lt n1
  have n2 := blk_below n2 hc7 l2
  have l2 := blk_lt n2
  have n3 := blk_below n3 hc7 l3
  have l3 := blk_lt n3
  have n5 := blk_below n5 hc7 l5
  have l5 := blk_lt n5
  have n6 := blk_below n6 hc7 l6
  have l6 := blk_lt n6
  have d0 := keepB hc7 hpd d0
  have d1 := keepB hc7 hpd d1
  have hpd : pd < W7.heap.size := by omega
  have n7 : W7.heap[G7]? = some (.cells #[.int .i64 0, .int .i64 0] 23 (0, 0)) := by rw [← hW7]; exact blk_new _ hG7.symm
  have l7 := blk_lt n7
  have B7 := B6.trans (hc7.mono B6.size)
  (try rw [hW7]); (try rw [hG7])
  clear hW7 hG7 hc7 hq7 hr7 hs7
  go_wp2_with fail
  refine (HQ.out _).mono ?_
  rintro e _ ⟨rfl, rfl⟩
  go_upto_region 9 with fail
  have HK := Lib.hid (fun (w' : World) (h : ∀ (p : Addr) (v : Value), p.block < W7.heap.size → W7.cell? p = some v → w'.cell? p = some v) => (show w'.cell? ⟨G1, 0, none⟩ = some (.int .i64 4) ∧ w'.cell? ⟨G1, 1, none⟩ = some (.int .i64 1) ∧ w'.cell? ⟨G2, 0, none⟩ = some (.int .i64 22) ∧ w'.cell? ⟨G2, 1, none⟩ = some (.int .i64 3) ∧ w'.cell? ⟨G3, 0, none⟩ = some (.int .i64 2) ∧ w'.cell? ⟨G3, 1, none⟩ = some (.int .i64 3) ∧ w'.cell? ⟨G5, 0, none⟩ = some (.int .i64 275) ∧ w'.cell? ⟨G5, 1, none⟩ = some (.int .i64 3) ∧ w'.cell? ⟨G6, 0, none⟩ = some (.int .i64 24) ∧ w'.cell? ⟨G6, 1, none⟩ = some (.int .i64 5) ∧ w'.cell? ⟨pd, 0, none⟩ = some (.int .i64 4) ∧ w'.cell? ⟨pd, 1, none⟩ = some (.int .i64 1) from ⟨h _ _ l1 (blk_cell n1 0), h _ _ l1 (blk_cell n1 1), h _ _ l2 (blk_cell n2 0), h _ _ l2 (blk_cell n2 1), h _ _ l3 (blk_cell n3 0), h _ _ l3 (blk_cell n3 1), h _ _ l5 (blk_cell n5 0), h _ _ l5 (blk_cell n5 1), h _ _ l6 (blk_cell n6 0), h _ _ l6 (blk_cell n6 1), h _ _ hpd d0, h _ _ hpd d1⟩))
  have hd : Below W7.heap.size W7 W7.drew := (Below.refl _ _).drew
  clear HA2 HA4 HA0 HP HS HN HQ HL n1 n2 n3 n5 n6 n7 d0 d1
  go_region_held3 (fun w' => w'.cell? ⟨G1, 0, none⟩ = some (.int .i64 4) ∧ w'.cell? ⟨G1, 1, none⟩ = some (.int .i64 1) ∧ w'.cell? ⟨G2, 0, none⟩ = some (.int .i64 22) ∧ w'.cell? ⟨G2, 1, none⟩ = some (.int .i64 3) ∧ w'.cell? ⟨G3, 0, none⟩ = some (.int .i64 2) ∧ w'.cell? ⟨G3, 1, none⟩ = some (.int .i64 3) ∧ w'.cell? ⟨G5, 0, none⟩ = some (.int .i64 275) ∧ w'.cell? ⟨G5, 1, none⟩ = some (.int .i64 3) ∧ w'.cell? ⟨G6, 0, none⟩ = some (.int .i64 24) ∧ w'.cell? ⟨G6, 1, none⟩ = some (.int .i64 5) ∧ w'.cell? ⟨pd, 0, none⟩ = some (.int .i64 4) ∧ w'.cell? ⟨pd, 1, none⟩ = some (.int .i64 1)) ((first | exact HK.out _ (fun p v l h => h) | exact HK.out _ (fun p v l h => keepB hy l h)))
    ((go_at_call 24; (with_reducible refine (q_any _ _ _).mono ?_); rintro e wy ⟨rfl, hz0⟩; first | (have hy := hy.trans (hz0.mono hy.size)) | (have hy := hd.trans (hz0.mono hd.size))))
  go_wp2
  go_ret
  exact ⟨rfl, B7.trans (hy.mono B7.size)⟩

end Go.Proofs.YtlobdeakgoicpaaDoor
