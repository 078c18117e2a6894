/- The reference finesseref18: Final, with right arguments. -/
import Derived.Test.YtilekdjjfdehcaaDoorRef18F
namespace Go.Proofs.YtilekdjjfdehcaaDoor
open Go.RowKit

set_option maxRecDepth 100000 in
set_option maxHeartbeats 2000000 in
theorem r18final_ok (C : Array Value) (t : Nat → Nat → Int) (hC : TabC C t) (v b s : Nat) (hv : v ≤ 3) (h3 : 3 ≤ b) (h37 : b ≤ 37) (hs : s ≤ 1) (h : rightT t = true) (w : World) :
    Calls Tryd.prog 27 #[.agg C, .int .i64 (v : Int), .int .i64 (b : Int), .int .i64 (s : Int)] w fun e w' => e = .returned (.tuple #[ocV (lvl b) (dnm b) (rsk t b s) (bstS t (dnm b) s) (bstN t (dnm b) s), .int .i64 (finF t v b s), .int .i64 0]) ∧ Below w.heap.size w w' := by
  have HR := Lib.hid (fun W => r18right C t hC W)
  rw [h] at HR
  have HI := Lib.hid (show (Tryd.prog.info? 58).map (·.size) = some C.size by rw [hC.1]; kernel_rfl)
  have hdb := dnm_bd b
  have hlb := lvl_bd b h3 h37
  have HQ := Lib.hid (fun W => r18best_ok C t hC (dnm b) s hdb hs h W)
  have hl : ((b : Int) - 3) / 5 + 1 = lvl b := by unfold lvl; omega
  have hd : ((b : Int) - 3) % 5 = (dnm b : Int) := by unfold dnm; omega
  have hnb := bstN_bd h hdb hs
  have hsb := bstS_bd t (dnm b) s hs
  have HRk := Lib.hid (show rsk t b s = if bstN t (dnm b) s < 6 + lvl b then 1 else 0 from rfl)
  have hrb : 0 ≤ rsk t b s ∧ rsk t b s ≤ 2 := by unfold rsk; split <;> omega
  have HSc := Lib.hid (fun W => r17score (lvl b) (dnm b) (rsk t b s) (bstS t (dnm b) s) (bstN t (dnm b) s) v (by omega) (by omega) hrb (by omega) (by omega) (by omega) W)
  have hfi : scoreI (lvl b) (dnm b) (rsk t b s) (bstS t (dnm b) s) (bstN t (dnm b) s) v = finF t v b s := rfl
  rw [hfi] at HSc
  unfold ocV
  generalize finF t v b s = P at HSc ⊢
  generalize rsk t b s = R at HRk HSc ⊢ hrb
  generalize bstN t (dnm b) s = N at *
  generalize bstS t (dnm b) s = S at *
  generalize lvl b = L at *
  generalize dnm b = D at *
  have c1 : ¬ (3 : Int) < (v : Int) := by omega
  have c2 : ¬ (b : Int) < 3 := by omega
  have c3 : ¬ (37 : Int) < (b : Int) := by omega
  have c4 : ¬ (1 : Int) < (s : Int) := by omega
  clear h hC hfi
  go_enter Tryd.func27, Tryd.ntmps27
  go_upto_region 1 with fail
  obtain ⟨W1, hW1⟩ : ∃ W1, (w.alloc (.cells C 58)).alloc (.cells #[.int .u8 0, .int .u8 0, .int .u8 0, .int .u8 0, .int .i64 0, .int .i64 0] 30) = W1 := ⟨_, rfl⟩
  obtain ⟨g, hg⟩ : ∃ g, w.heap.size = g := ⟨_, rfl⟩
  have HK := Lib.hid (show W1.heap[g]? = some (.cells C 58) by rw [← hW1]; exact blk_alloc (blk_new _ hg.symm) _)
  have HK2 := Lib.hid (show W1.heap[g + 1]? = some (.cells #[.int .u8 0, .int .u8 0, .int .u8 0, .int .u8 0, .int .i64 0, .int .i64 0] 30) by rw [← hW1]; exact blk_new _ (by simp [hg]))
  have hB1 : Below w.heap.size w W1 := by rw [← hW1]; exact (by repeat (first | exact Below.refl _ _ | assumption | refine Below.drew ?_ | refine below_drewN ?_ _ | refine Below.alloc ?_ (by first | omega | (simp; done) | (simp; omega)) _ | refine Below.setCell ?_ (by first | omega | (simp; done) | (simp; omega)) _))
  have hgw : w.heap.size ≤ g + 1 := by omega
  rw [hW1, hg]
  clear hW1 hg
  go_wp2_with (refine wpList_load_row rfl 58 (.tmp 4) rfl g rfl 58 C _ _ HK.out Tryd.underlying58 rfl HI.out ?_)
  refine (HR.out _).mono ?_
  rintro ee w2 ⟨rfl, hb2⟩
  have hB2 := below_via hB1 hb2
  replace HK := Lib.hid (blk_below HK.out hb2 (blk_lt HK.out))
  replace HK2 := Lib.hid (blk_below HK2.out hb2 (blk_lt HK2.out))
  clear hb2 hB1 HR
  have hb1i : (b : Int) - 3 = 5 * (L - 1) + (D : Int) := by omega
  go_upto_region 4 with fail
  go_loopw [11, 12] (fun i x wr => ∃ k : Nat, (k : Int) ≤ L - 1 ∧ i = .int .i64 (1 + (k : Int)) ∧ x = .int .i64 ((b : Int) - 3 - 5 * (k : Int)) ∧ wr = w2) (fun i _ _ => 20 - (intOf i).toNat)
  case atStart => exact ⟨0, by omega, rfl, congrArg (Value.int .i64) (by omega), rfl⟩
  case round =>
    obtain ⟨k, hk, rfl, rfl, rfl⟩ := hrel
    by_cases hlt : 4 < (b : Int) - 3 - 5 * (k : Int)
    · go_wp2
      go_roundw
      case rel => exact ⟨k + 1, by omega, congrArg (Value.int .i64) (by omega), congrArg (Value.int .i64) (by omega), by first | rfl | trivial⟩
      case measure => simp [intOf]; omega
    · have e1 : 1 + (k : Int) = L := by omega
      have e2 : (b : Int) - 3 - 5 * (k : Int) = (D : Int) := by omega
      rw [e1, e2]
      have c5 : ¬ (4 : Int) < (D : Int) := by omega
      clear e1 e2 hlt
      go_wp2_with (refine wpList_load_row rfl 58 (.tmp 4) rfl g rfl 58 C _ _ HK.out Tryd.underlying58 rfl HI.out ?_)
      refine (HQ.out _).mono ?_
      rintro ee w3 ⟨rfl, hb3⟩
      have hB3 := below_via hB2 hb3
      replace HK2 := Lib.hid (blk_below HK2.out hb3 (blk_lt HK2.out))
      clear hb3 HK
      go_upto_region 8 with fail
      obtain ⟨W4, hW4⟩ : ∃ W4, w3.alloc (.cells #[.int .u8 L, .int .u8 (D : Int), .int .u8 0, .int .u8 (S : Int)] 28) = W4 := ⟨_, rfl⟩
      obtain ⟨g4, hg4⟩ : ∃ g4, w3.heap.size = g4 := ⟨_, rfl⟩
      have K4 := Lib.hid (show W4.heap[g4]? = some (.cells #[.int .u8 L, .int .u8 (D : Int), .int .u8 0, .int .u8 (S : Int)] 28 (0, 0)) by rw [← hW4]; exact blk_new _ hg4.symm)
      replace HK2 := Lib.hid (show W4.heap[g + 1]? = some (.cells #[.int .u8 0, .int .u8 0, .int .u8 0, .int .u8 0, .int .i64 0, .int .i64 0] 30 (0, 0)) by rw [← hW4]; exact blk_alloc HK2.out _)
      have hB4 : Below w.heap.size w W4 := by rw [← hW4]; exact hB3.alloc hB3.size _
      have hg4b : w.heap.size ≤ g4 ∧ g + 1 ≠ g4 := by
        have := hB3.size
        refine ⟨by omega, fun h => ?_⟩
        subst h
        rw [HK2.out] at K4
        have := K4.out
        simp at this
      rw [hW4, hg4]
      clear hW4 hg4 hB3
      by_cases hlt : N < 6 + L
      · obtain rfl : 1 = R := by rw [HRk.out, if_pos hlt]
        have f2 := blk_free K4.out 2
        have q2 := blk_cell K4.out 2
        go_upto_region 10 with fail
        obtain ⟨W5, hW5⟩ : ∃ W, W4.setCell ⟨g4, 2, none⟩ (.int .u8 1) = W := ⟨_, rfl⟩
        have hB5 : Below w.heap.size w W5 := by rw [← hW5]; exact hB4.setCell (p := ⟨g4, 2, none⟩) (by show w.heap.size ≤ g4; omega) _
        have HK3 := Lib.hid (show W5.heap[g4]? = some (.cells #[.int .u8 L, .int .u8 (D : Int), .int .u8 1, .int .u8 (S : Int)] 28) by rw [← hW5]; exact blk_set K4.out 2 _)
        have HK2 := Lib.hid (show W5.heap[g + 1]? = some (.cells #[.int .u8 0, .int .u8 0, .int .u8 0, .int .u8 0, .int .i64 0, .int .i64 0] 30) by rw [← hW5]; exact blk_far HK2.out hg4b.2 _)
        rw [hW5]
        clear q2 f2
        clear hW5 hB4
        have q0 := blk_cell HK3.out 0
        have q1 := blk_cell HK3.out 1
        have q2 := blk_cell HK3.out 2
        have q3 := blk_cell HK3.out 3
        go_wp2_with fail
        refine (HSc.out _).mono ?_
        rintro ee w6 ⟨rfl, hb6⟩
        have hB6 := below_via hB5 hb6
        have K2 := blk_below HK2.out hb6 (blk_lt HK2.out)
        have K3 := blk_below HK3.out hb6 (blk_lt HK3.out)
        have q0 := blk_cell K3 0
        have q1 := blk_cell K3 1
        have q2 := blk_cell K3 2
        have q3 := blk_cell K3 3
        have r0 := blk_cell K2 0
        have r1 := blk_cell K2 1
        have r2 := blk_cell K2 2
        have r3 := blk_cell K2 3
        have r4 := blk_cell K2 4
        have r5 := blk_cell K2 5
        have f0 := blk_free K2 0
        have f1 := blk_free K2 1
        have f2 := blk_free K2 2
        have f3 := blk_free K2 3
        have f4 := blk_free K2 4
        have f5 := blk_free K2 5
        clear K2 K3 hb6 hB5
        go_wp2
        refine bodyPost_ret (v := .tuple #[ocV L D 1 S N, .int .i64 P, .int .i64 0]) ?_ rfl ⟨rfl, six_set hB6 hgw⟩
        simp [results, Tryd.results27, go_sem, ocV, r0, r1, r2, r3, r4, r5]
      · obtain rfl : 0 = R := by rw [HRk.out, if_neg hlt]
        obtain ⟨W5, hW5⟩ : ∃ W, W4 = W := ⟨_, rfl⟩
        have hB5 : Below w.heap.size w W5 := by rw [← hW5]; exact hB4
        have HK3 := Lib.hid (show W5.heap[g4]? = some (.cells #[.int .u8 L, .int .u8 (D : Int), .int .u8 0, .int .u8 (S : Int)] 28) by rw [← hW5]; exact K4.out)
        have HK2 := Lib.hid (show W5.heap[g + 1]? = some (.cells #[.int .u8 0, .int .u8 0, .int .u8 0, .int .u8 0, .int .i64 0, .int .i64 0] 30) by rw [← hW5]; exact HK2.out)
        rw [hW5]
        clear hW5 hB4
        have q0 := blk_cell HK3.out 0
        have q1 := blk_cell HK3.out 1
        have q2 := blk_cell HK3.out 2
        have q3 := blk_cell HK3.out 3
        go_wp2_with fail
        refine (HSc.out _).mono ?_
        rintro ee w6 ⟨rfl, hb6⟩
        have hB6 := below_via hB5 hb6
        have K2 := blk_below HK2.out hb6 (blk_lt HK2.out)
        have K3 := blk_below HK3.out hb6 (blk_lt HK3.out)
        have q0 := blk_cell K3 0
        have q1 := blk_cell K3 1
        have q2 := blk_cell K3 2
        have q3 := blk_cell K3 3
        have r0 := blk_cell K2 0
        have r1 := blk_cell K2 1
        have r2 := blk_cell K2 2
        have r3 := blk_cell K2 3
        have r4 := blk_cell K2 4
        have r5 := blk_cell K2 5
        have f0 := blk_free K2 0
        have f1 := blk_free K2 1
        have f2 := blk_free K2 2
        have f3 := blk_free K2 3
        have f4 := blk_free K2 4
        have f5 := blk_free K2 5
        clear K2 K3 hb6 hB5
        go_wp2
        refine bodyPost_ret (v := .tuple #[ocV L D 0 S N, .int .i64 P, .int .i64 0]) ?_ rfl ⟨rfl, six_set hB6 hgw⟩
        simp [results, Tryd.results27, go_sem, ocV, r0, r1, r2, r3, r4, r5]

end Go.Proofs.YtilekdjjfdehcaaDoor
