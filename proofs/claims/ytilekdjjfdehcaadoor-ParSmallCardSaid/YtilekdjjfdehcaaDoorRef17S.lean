/- The reference finesseref17: Score. -/
import Derived.Test.YtilekdjjfdehcaaDoorRef17P
namespace Go.Proofs.YtilekdjjfdehcaaDoor
open Go.RowKit

set_option maxRecDepth 100000 in
set_option maxHeartbeats 2000000 in
theorem r17score (l d r s t vul : Int) (hl : 1 ≤ l ∧ l ≤ 7) (hd : 0 ≤ d ∧ d ≤ 4) (hr : 0 ≤ r ∧ r ≤ 2) (hs : 0 ≤ s ∧ s ≤ 3) (ht : 0 ≤ t ∧ t ≤ 13) (hv : 0 ≤ vul ∧ vul ≤ 3) (w : World) :
    Calls Tryd.prog 36 #[.agg #[.int .u8 l, .int .u8 d, .int .u8 r, .int .u8 s], .int .i64 t, .int .u8 vul] w fun e w' => e = .returned (.tuple #[.int .i64 (scoreI l d r s t vul), .int .i64 0]) ∧ Below w.heap.size w w' := by
  obtain ⟨N, hN⟩ : ∃ N, scoreI l d r s t vul = N := ⟨_, rfl⟩
  rw [hN]
  have HS := Lib.hid hN
  clear hN
  have HQ := Lib.hid (fun W => r17result l d r s t (by omega) (by omega) (by omega) (by omega) W)
  rw [res_true l d r s t hl hd hr hs ht] at HQ
  have HV := Lib.hid (fun W => r17vul vul s (by omega) (by omega) W)
  have HP := Lib.hid (fun W => r17points l d r s t (vulB vul s) hl hd hr hs ht W)
  have hsc : scoreI l d r s t vul = if s % 2 = 1 then - ptsI l d r t (vulB vul s) else ptsI l d r t (vulB vul s) := rfl
  have hpb := ptsI_small l d r s t (vulB vul s) (res_true l d r s t hl hd hr hs ht) (by omega)
  rw [HS.out] at hsc
  generalize vulB vul s = b at HV HP hsc hpb
  generalize ptsI l d r t b = P at HP hsc hpb
  have Hsc := Lib.hid hsc
  clear hsc
  go_enter Tryd.func36, Tryd.ntmps36
  go_wp2_with fail
  refine (HQ.out _).mono ?_
  rintro ee w1 ⟨rfl, hb1⟩
  have k0 := blk_below (blk_new (w := w) (.cells #[.int .u8 l, .int .u8 d, .int .u8 r, .int .u8 s] 28) rfl) hb1 (by simp)
  have hb0 := below_box hb1
  obtain ⟨g, hg⟩ : ∃ g, w.heap.size = g := ⟨_, rfl⟩
  rw [hg] at k0
  have HK := Lib.hid k0
  clear hb1 k0
  rw [hg]
  have HG := Lib.hid hg
  clear hg
  have q0 := blk_cell HK.out 0
  have q1 := blk_cell HK.out 1
  have q2 := blk_cell HK.out 2
  have q3 := blk_cell HK.out 3
  go_upto_region 3 with fail
  go_region_held3 (fun w' => w'.cell? ⟨g, 0, none⟩ = some (.int .u8 l) ∧ w'.cell? ⟨g, 1, none⟩ = some (.int .u8 d) ∧ w'.cell? ⟨g, 2, none⟩ = some (.int .u8 r) ∧ w'.cell? ⟨g, 3, none⟩ = some (.int .u8 s)) ((first | exact ⟨q0, q1, q2, q3⟩ | exact ⟨keepB0 hba (blk_lt HK.out) q0, keepB0 hba (blk_lt HK.out) q1, keepB0 hba (blk_lt HK.out) q2, keepB0 hba (blk_lt HK.out) q3⟩)) ((first | (go_at_call 46; (with_reducible refine (HV.out _).mono ?_); rintro ee we ⟨rfl, rfl⟩) | (go_at_call 45; (with_reducible refine (HP.out _).mono ?_); rintro ee wa ⟨rfl, hba⟩)))
  have r3 := keepB0 hba (blk_lt HK.out) q3
  have hBz := Lib.hid (below_via hb0.drew hba)
  clear q0 q1 q2 q3
  have hss : s = 0 ∨ s = 1 ∨ s = 2 ∨ s = 3 := by omega
  rcases hss with rfl | rfl | rfl | rfl
  all_goals
    have e := Hsc.out
    simp at e
    subst e
    go_wp2
    go_ret2
    exact ⟨rfl, hBz.out⟩

end Go.Proofs.YtilekdjjfdehcaaDoor
