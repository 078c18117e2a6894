/- The reference finesseref18: Value. -/
import Derived.Test.YtilekdjjfdehcaaDoorRef18V
namespace Go.Proofs.YtilekdjjfdehcaaDoor
open Go.RowKit

theorem VC.idx {C : Array Value} {V : Nat → Nat → Int} (h : VC C V) (b : Nat) (hb : b ≤ 37) (W : World) : (Instr.index 81 (.agg C) (.int .i64 (b : Int))).run Tryd.prog W = .ok (.agg #[.int .i64 (V b 0), .int .i64 (V b 1)]) W := by
  rw [run_index_agg (P := Tryd.prog) (w := W) 81 80 38 2 C .i64 b Tryd.underlying81 (by kernel_rfl) (fun _ => by kernel_rfl) (by omega)]
  have e : C.extract (b * 2) (b * 2 + 2) = #[.int .i64 (V b 0), .int .i64 (V b 1)] := by
    have hs := h.1
    apply Array.ext_getElem?
    intro i
    rw [Array.getElem?_extract]
    by_cases hi : i < 2
    · rw [if_pos (by omega)]
      have := h.2.2 b i hb (by omega)
      rw [this]
      match i, hi with
      | 0, _ => rfl
      | 1, _ => rfl
    · rw [if_neg (by omega), Array.getElem?_eq_none (by simp; omega)]
  rw [e]
theorem idx2 (a b : Int) (j : Nat) (hj : j < 2) (W : World) : (Instr.index 80 (.agg #[.int .i64 a, .int .i64 b]) (.int .i64 (j : Int))).run Tryd.prog W = .ok (.int .i64 (if j = 0 then a else b)) W := by
  refine run_index_one (P := Tryd.prog) (w := W) 80 3 2 _ .i64 j _ Tryd.underlying80 (by kernel_rfl) (fun _ => by kernel_rfl) ?_ hj
  match j, hj with
  | 0, _ => rfl
  | 1, _ => rfl

set_option maxRecDepth 100000 in
set_option maxHeartbeats 1000000 in
theorem r18value_bad (C : Array Value) (t : Nat → Nat → Int) (hC : TabC C t) (v b s : Nat) (hv : v ≤ 255) (hb : b ≤ 255) (hs : s ≤ 255) (h : rightT t = false ∨ 3 < v ∨ b < 3 ∨ 37 < b ∨ 1 < s) (w : World) :
    Calls Tryd.prog 28 #[.agg C, .int .i64 (v : Int), .int .i64 (b : Int), .int .i64 (s : Int)] w fun e w' => e = .returned (.tuple #[.int .i64 0, .int .i64 2]) ∧ Below w.heap.size w w' := by
  have HF := Lib.hid (fun W => r18final_bad C t hC v b s hv hb hs h W)
  unfold finBad at HF
  have HI := Lib.hid (show (Tryd.prog.info? 58).map (·.size) = some C.size by rw [hC.1]; kernel_rfl)
  clear h hC
  go_enter Tryd.func28, Tryd.ntmps28
  go_upto_region 1 with fail
  obtain ⟨W1, hW1⟩ : ∃ W1, w.alloc (.cells C 58) = W1 := ⟨_, rfl⟩
  obtain ⟨g, hg⟩ : ∃ g, w.heap.size = g := ⟨_, rfl⟩
  have HK := Lib.hid (show W1.heap[g]? = some (.cells C 58) by rw [← hW1]; exact blk_new _ hg.symm)
  have hB1 : Below w.heap.size w W1 := by rw [← hW1]; exact (by repeat (first | exact Below.refl _ _ | assumption | refine Below.drew ?_ | refine below_drewN ?_ _ | refine Below.alloc ?_ (by first | omega | (simp; done) | (simp; omega)) _ | refine Below.setCell ?_ (by first | omega | (simp; done) | (simp; omega)) _))
  rw [hW1, hg]
  clear hW1 hg
  go_wp2_with (refine wpList_load_row rfl 58 (.tmp 4) rfl g rfl 58 C _ _ HK.out Tryd.underlying58 rfl HI.out ?_)
  refine (HF.out _).mono ?_
  rintro ee w2 ⟨rfl, hb2⟩
  have hB2 := below_via hB1 hb2
  clear hB1 hb2 HK
  go_wp2
  go_ret2
  exact ⟨rfl, hB2.alloc hB2.size _⟩

set_option maxRecDepth 100000 in
set_option maxHeartbeats 1000000 in
theorem r18value_ok (C : Array Value) (t : Nat → Nat → Int) (hC : TabC C t) (v b s : Nat) (hv : v ≤ 3) (h3 : 3 ≤ b) (h37 : b ≤ 37) (hs : s ≤ 1) (h : rightT t = true) (w : World) :
    Calls Tryd.prog 28 #[.agg C, .int .i64 (v : Int), .int .i64 (b : Int), .int .i64 (s : Int)] w fun e w' => e = .returned (.tuple #[.int .i64 (lC (finG t v) b s).2, .int .i64 0]) ∧ Below w.heap.size w w' := by
  have HF := Lib.hid (fun W => r18final_ok C t hC v b s hv h3 h37 hs h W)
  have HV := Lib.hid (fun W => r18values C t hC v hv h W)
  have HI := Lib.hid (show (Tryd.prog.info? 58).map (·.size) = some C.size by rw [hC.1]; kernel_rfl)
  have Hy := Lib.hid (show ∀ s', s' ≤ 1 → valV (finG t v) 2 0 b s' = (lC (finG t v) b s').2 from fun s' h' => by unfold valV; rw [if_pos (by omega)])
  unfold RVal at HV
  unfold ocV at HF
  generalize finF t v b s = P at *
  generalize finG t v = f at *
  generalize lvl b = z1 at *
  generalize rsk t b s = z3 at *
  generalize bstS t (dnm b) s = z4 at *
  generalize bstN t (dnm b) s = z5 at *
  generalize dnm b = z2 at *
  clear h hC
  go_enter Tryd.func28, Tryd.ntmps28
  go_upto_region 1 with fail
  obtain ⟨W1, hW1⟩ : ∃ W1, w.alloc (.cells C 58) = W1 := ⟨_, rfl⟩
  obtain ⟨g, hg⟩ : ∃ g, w.heap.size = g := ⟨_, rfl⟩
  have HK := Lib.hid (show W1.heap[g]? = some (.cells C 58) by rw [← hW1]; exact blk_new _ hg.symm)
  have hB1 : Below w.heap.size w W1 := by rw [← hW1]; exact (by repeat (first | exact Below.refl _ _ | assumption | refine Below.drew ?_ | refine below_drewN ?_ _ | refine Below.alloc ?_ (by first | omega | (simp; done) | (simp; omega)) _ | refine Below.setCell ?_ (by first | omega | (simp; done) | (simp; omega)) _))
  rw [hW1, hg]
  clear hW1 hg
  go_wp2_with (refine wpList_load_row rfl 58 (.tmp 4) rfl g rfl 58 C _ _ HK.out Tryd.underlying58 rfl HI.out ?_)
  refine (HF.out _).mono ?_
  rintro ee w2 ⟨rfl, hb2⟩
  have hB2 := below_via hB1 hb2
  replace HK := Lib.hid (blk_below HK.out hb2 (blk_lt HK.out))
  clear hB1 hb2
  go_upto_region 4 with fail
  obtain ⟨W3, hW3⟩ : ∃ W3, w2.alloc (.cells #[.int .u8 z1, .int .u8 (z2 : Int), .int .u8 z3, .int .u8 (z4 : Int), .int .i64 z5, .int .i64 0] 30) = W3 := ⟨_, rfl⟩
  have hB3 : Below w.heap.size w W3 := by rw [← hW3]; exact hB2.alloc hB2.size _
  replace HK := Lib.hid (show W3.heap[g]? = some (.cells C 58) by rw [← hW3]; exact blk_alloc HK.out _)
  rw [hW3]
  clear hW3 hB2
  go_wp2_with (refine wpList_load_row rfl 58 (.tmp 4) rfl g rfl 58 C _ _ HK.out Tryd.underlying58 rfl HI.out ?_)
  refine (HV.out _).mono ?_
  rintro ee w4 ⟨B, rfl, hB, hb4⟩
  have hB4 := below_via hB3 hb4
  have hI1 := hB.idx b h37
  have hI2 := idx2 (valV f 2 0 b 0) (valV f 2 0 b 1) s (by omega)
  rw [Hy.out 0 (by omega), Hy.out 1 (by omega)] at hI1 hI2
  have He : Hid ((if s = 0 then (lC f b 0).2 else (lC f b 1).2) = (lC f b s).2) := Lib.hid (by
    rcases (show s = 0 ∨ s = 1 by omega) with rfl | rfl <;> rfl)
  rw [He.out] at hI2
  clear hB hb4 hB3 HK
  go_wp2
  go_ret2
  exact ⟨rfl, hB4⟩

end Go.Proofs.YtilekdjjfdehcaaDoor
