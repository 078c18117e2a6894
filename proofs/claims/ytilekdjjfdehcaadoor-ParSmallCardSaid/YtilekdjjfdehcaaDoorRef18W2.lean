/- The reference finesseref18: Best. -/
import Derived.Test.YtilekdjjfdehcaaDoorRef18W
namespace Go.Proofs.YtilekdjjfdehcaaDoor
open Go.RowKit

set_option maxRecDepth 100000 in
set_option maxHeartbeats 1000000 in
theorem r18best_bad (C : Array Value) (t : Nat → Nat → Int) (hC : TabC C t) (d s : Nat) (hd : d ≤ 255) (hs : s ≤ 255) (h : rightT t = false ∨ 4 < d ∨ 1 < s) (w : World) :
    Calls Tryd.prog 25 #[.agg C, .int .i64 (d : Int), .int .i64 (s : Int)] w fun e w' => e = .returned (.tuple #[.int .i64 0, .int .i64 0, .int .i64 2]) ∧ Below w.heap.size w w' := by
  have HR := Lib.hid (fun W => r18right C t hC W)
  obtain ⟨N, hN⟩ : ∃ N, rightT t = N := ⟨_, rfl⟩
  rw [hN] at HR h
  have HI := Lib.hid (show (Tryd.prog.info? 58).map (·.size) = some C.size by rw [hC.1]; kernel_rfl)
  have HH := Lib.hid h
  clear hN hC h
  go_enter Tryd.func25, Tryd.ntmps25
  go_upto_region 1 with fail
  obtain ⟨W1, hW1⟩ : ∃ W1, w.alloc (.cells C 58) = W1 := ⟨_, rfl⟩
  obtain ⟨g, hg⟩ : ∃ g, w.heap.size = g := ⟨_, rfl⟩
  have k1 : W1.heap[g]? = some (.cells C 58) := by rw [← hW1]; exact blk_new _ hg.symm
  have hB1 : Below w.heap.size w W1 := by rw [← hW1]; exact (by repeat (first | exact Below.refl _ _ | assumption | refine Below.drew ?_ | refine below_drewN ?_ _ | refine Below.alloc ?_ (by first | omega | (simp; done) | (simp; omega)) _ | refine Below.setCell ?_ (by first | omega | (simp; done) | (simp; omega)) _))
  rw [hW1, hg]
  have HK := Lib.hid k1
  have HG := Lib.hid hg
  clear hW1 k1 hg
  go_wp2_with (refine wpList_load_row rfl 58 (.tmp 3) rfl g rfl 58 C _ _ HK.out Tryd.underlying58 rfl HI.out ?_)
  refine (HR.out _).mono ?_
  rintro ee w2 ⟨rfl, hb2⟩
  have hB2 := below_via hB1 hb2
  clear hB1 hb2
  cases N
  · go_wp2
    go_ret3
    exact ⟨rfl, hB2⟩
  · by_cases h4 : 4 < d
    · have h5 : (4 : Int) < (d : Int) := by omega
      go_wp2
      go_ret3
      exact ⟨rfl, hB2⟩
    · have h5 : ¬ (4 : Int) < (d : Int) := by omega
      have h6 : (1 : Int) < (s : Int) := by rcases HH.out with h | h | h; cases h; exact absurd h h4; omega
      go_wp2
      go_ret3
      exact ⟨rfl, hB2⟩

set_option maxRecDepth 100000 in
set_option maxHeartbeats 1000000 in
theorem r18best_ok (C : Array Value) (t : Nat → Nat → Int) (hC : TabC C t) (d s : Nat) (hd : d < 5) (hs : s ≤ 1) (h : rightT t = true) (w : World) :
    Calls Tryd.prog 25 #[.agg C, .int .i64 (d : Int), .int .i64 (s : Int)] w fun e w' => e = .returned (.tuple #[.int .i64 (bstN t d s), .int .i64 (bstS t d s : Nat), .int .i64 0]) ∧ Below w.heap.size w w' := by
  have HR := Lib.hid (fun W => r18right C t hC W)
  rw [h] at HR
  have HI := Lib.hid (show (Tryd.prog.info? 58).map (·.size) = some C.size by rw [hC.1]; kernel_rfl)
  have HC := Lib.hid hC
  have HN := Lib.hid (show bstN t d s = if t d s < t d (s + 2) then t d (s + 2) else t d s from rfl)
  have HS := Lib.hid (show bstS t d s = if t d s < t d (s + 2) then s + 2 else s from rfl)
  clear h hC
  go_enter Tryd.func25, Tryd.ntmps25
  go_upto_region 1 with fail
  obtain ⟨W1, hW1⟩ : ∃ W1, w.alloc (.cells C 58) = W1 := ⟨_, rfl⟩
  obtain ⟨g, hg⟩ : ∃ g, w.heap.size = g := ⟨_, rfl⟩
  have k1 : W1.heap[g]? = some (.cells C 58) := by rw [← hW1]; exact blk_new _ hg.symm
  have hB1 : Below w.heap.size w W1 := by rw [← hW1]; exact (by repeat (first | exact Below.refl _ _ | assumption | refine Below.drew ?_ | refine below_drewN ?_ _ | refine Below.alloc ?_ (by first | omega | (simp; done) | (simp; omega)) _ | refine Below.setCell ?_ (by first | omega | (simp; done) | (simp; omega)) _))
  rw [hW1, hg]
  have HK := Lib.hid k1
  have HG := Lib.hid hg
  clear hW1 k1 hg
  go_wp2_with (refine wpList_load_row rfl 58 (.tmp 3) rfl g rfl 58 C _ _ HK.out Tryd.underlying58 rfl HI.out ?_)
  refine (HR.out _).mono ?_
  rintro ee w2 ⟨rfl, hb2⟩
  have hB2 := below_via hB1 hb2
  have K2 := blk_below HK.out hb2 (blk_lt HK.out)
  have e0 := (blk_cell K2 (d * 4 + s)).trans (HC.out.2 d s hd (by omega))
  have e1 := (blk_cell K2 (d * 4 + (s + 2))).trans (HC.out.2 d (s + 2) hd (by omega))
  have h5 : ¬ (4 : Int) < (d : Int) := by omega
  have h6 : ¬ (1 : Int) < (s : Int) := by omega
  have h7 : (d : Int) < 5 := by omega
  have h8 : (s : Int) < 4 := by omega
  have h9 : (s : Int) + 2 < 4 := by omega
  generalize t d s = x at e0 HN HS
  generalize t d (s + 2) = y at e1 HN HS
  clear K2 hB1 hb2
  have hw2 : IntKind.i64.wrap ((s : Int) + 2) = (s : Int) + 2 := IntWalk.i64_in _ (by omega)
  go_upto_region 4 with fail
  go_quiet (fail)
  by_cases hxy : x < y
  · go_wp2
    go_ret3
    refine ⟨?_, below_drewN hB2 _⟩
    rw [HN.out, HS.out, if_pos hxy, if_pos hxy]; rfl
  · go_wp2
    go_ret3
    refine ⟨?_, below_drewN hB2 _⟩
    rw [HN.out, HS.out, if_neg (by omega), if_neg (by omega)]; rfl


end Go.Proofs.YtilekdjjfdehcaaDoor
