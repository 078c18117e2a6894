/- The reference finesseref18: worth, Final. -/
import Derived.Test.YtilekdjjfdehcaaDoorRef18W2
namespace Go.Proofs.YtilekdjjfdehcaaDoor
open Go.RowKit

set_option maxHeartbeats 400000 in
theorem r18worth (p : Int) (hp : -100000 ≤ p ∧ p ≤ 100000) (s : Nat) (hs : s ≤ 1) (w : World) : Calls Tryd.prog 47 #[.int .i64 p, .int .i64 (s : Int)] w fun e w' => e = .returned (.int .i64 (wo s p)) ∧ w = w' := by
  have a : s = 0 ∨ s = 1 := by omega
  rcases a with rfl | rfl
  · rw [wo0]
    go_enter Tryd.func47, Tryd.ntmps47
    go_wp2
    go_ret
    exact ⟨rfl, rfl⟩
  · rw [wo1]
    go_enter Tryd.func47, Tryd.ntmps47
    go_wp2
    go_ret
    exact ⟨rfl, rfl⟩

set_option maxRecDepth 100000 in
set_option maxHeartbeats 1000000 in
theorem r18final_bad (C : Array Value) (t : Nat → Nat → Int) (hC : TabC C t) (v b s : Nat) (hv : v ≤ 255) (hb : b ≤ 255) (hs : s ≤ 255) (h : rightT t = false ∨ 3 < v ∨ b < 3 ∨ 37 < b ∨ 1 < s) (w : World) :
    Calls Tryd.prog 27 #[.agg C, .int .i64 (v : Int), .int .i64 (b : Int), .int .i64 (s : Int)] w fun e w' => e = .returned finBad ∧ Below w.heap.size w w' := by
  have HR := Lib.hid (fun W => r18right C t hC W)
  have HI := Lib.hid (show (Tryd.prog.info? 58).map (·.size) = some C.size by rw [hC.1]; kernel_rfl)
  generalize rightT t = N at HR h
  have hcs : N = false ∨ (N = true ∧ (3 : Int) < (v : Int)) ∨ (N = true ∧ ¬ (3 : Int) < (v : Int) ∧ (b : Int) < 3) ∨ (N = true ∧ ¬ (3 : Int) < (v : Int) ∧ ¬ (b : Int) < 3 ∧ (37 : Int) < (b : Int)) ∨ (N = true ∧ ¬ (3 : Int) < (v : Int) ∧ ¬ (b : Int) < 3 ∧ ¬ (37 : Int) < (b : Int) ∧ (1 : Int) < (s : Int)) := by
    cases N
    · exact .inl rfl
    · have h' : 3 < v ∨ b < 3 ∨ 37 < b ∨ 1 < s := by rcases h with h | h; cases h; exact h
      by_cases a1 : 3 < v
      · exact .inr (.inl ⟨rfl, by omega⟩)
      · by_cases a2 : b < 3
        · exact .inr (.inr (.inl ⟨rfl, by omega, by omega⟩))
        · by_cases a3 : 37 < b
          · exact .inr (.inr (.inr (.inl ⟨rfl, by omega, by omega, by omega⟩)))
          · exact .inr (.inr (.inr (.inr ⟨rfl, by omega, by omega, by omega, by omega⟩)))
  clear h hC
  go_enter Tryd.func27, Tryd.ntmps27
  go_upto_region 1 with fail
  obtain ⟨W1, hW1⟩ : ∃ W1, (w.alloc (.cells C 58)).alloc (.cells #[.int .u8 0, .int .u8 0, .int .u8 0, .int .u8 0, .int .i64 0, .int .i64 0] 30) = W1 := ⟨_, rfl⟩
  obtain ⟨g, hg⟩ : ∃ g, w.heap.size = g := ⟨_, rfl⟩
  have HK := Lib.hid (show W1.heap[g]? = some (.cells C 58) by rw [← hW1]; exact blk_alloc (blk_new _ hg.symm) _)
  have HK2 := Lib.hid (show W1.heap[g + 1]? = some (.cells #[.int .u8 0, .int .u8 0, .int .u8 0, .int .u8 0, .int .i64 0, .int .i64 0] 30) by rw [← hW1]; exact blk_new _ (by simp [hg]))
  have hB1 : Below w.heap.size w W1 := by rw [← hW1]; exact (by repeat (first | exact Below.refl _ _ | assumption | refine Below.drew ?_ | refine below_drewN ?_ _ | refine Below.alloc ?_ (by first | omega | (simp; done) | (simp; omega)) _ | refine Below.setCell ?_ (by first | omega | (simp; done) | (simp; omega)) _))
  have hgw : w.heap.size ≤ g + 1 := by omega
  rw [hW1, hg]
  clear hW1 hg
  go_wp2_with (refine wpList_load_row rfl 58 (.tmp 4) rfl g rfl 58 C _ _ HK.out Tryd.underlying58 rfl HI.out ?_)
  refine (HR.out _).mono ?_
  rintro ee w2 ⟨rfl, hb2⟩
  have hB2 := below_via hB1 hb2
  have K2 := blk_below HK2.out hb2 (blk_lt HK2.out)
  have r0 := blk_cell K2 0
  have r1 := blk_cell K2 1
  have r2 := blk_cell K2 2
  have r3 := blk_cell K2 3
  have r4 := blk_cell K2 4
  have r5 := blk_cell K2 5
  have f0 := blk_free K2 0
  have f1 := blk_free K2 1
  have f2 := blk_free K2 2
  have f3 := blk_free K2 3
  have f4 := blk_free K2 4
  have f5 := blk_free K2 5
  clear K2 hb2 hB1 HR HK HK2
  rcases hcs with rfl | ⟨rfl, a1⟩ | ⟨rfl, a1, a2⟩ | ⟨rfl, a1, a2, a3⟩ | ⟨rfl, a1, a2, a3, a4⟩
  all_goals
    go_wp2
    refine bodyPost_ret (v := finBad) ?_ rfl ⟨rfl, six_set hB2 hgw⟩
    simp [results, Tryd.results27, go_sem, finBad, r0, r1, r2, r3, r4, r5]

end Go.Proofs.YtilekdjjfdehcaaDoor
