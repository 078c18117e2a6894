/- The reference finesseref17: Points. -/
import Derived.Test.YtilekdjjfdehcaaDoorRef17M
namespace Go.Proofs.YtilekdjjfdehcaaDoor
open Go.RowKit

theorem missI_succ (r : Int) (v : Bool) (k : Nat) : missI r (k + 1) v = missI r k v + lostI r ((k : Int) + 1) v := by
  unfold missI lostI
  have e : (k : Int) + 1 - 1 = k := by omega
  rw [e]
  show (if r = 2 then (sumT r v k + trickI r k v) * 2 else sumT r v k + trickI r k v) = _
  split <;> omega

theorem res_true (l d r s t : Int) (hl : 1 ≤ l ∧ l ≤ 7) (hd : 0 ≤ d ∧ d ≤ 4) (hr : 0 ≤ r ∧ r ≤ 2) (hs : 0 ≤ s ∧ s ≤ 3) (ht : 0 ≤ t ∧ t ≤ 13) : resultC l d r s t = true := by
  unfold resultC
  refine decide_eq_true ⟨by unfold rightC; exact decide_eq_true (.inr (by omega)), by omega, by omega, .inl (by omega)⟩

set_option maxRecDepth 100000 in
set_option maxHeartbeats 2000000 in
theorem r17points (l d r s t : Int) (v : Bool) (hl : 1 ≤ l ∧ l ≤ 7) (hd : 0 ≤ d ∧ d ≤ 4) (hr : 0 ≤ r ∧ r ≤ 2) (hs : 0 ≤ s ∧ s ≤ 3) (ht : 0 ≤ t ∧ t ≤ 13) (w : World) :
    Calls Tryd.prog 45 #[.agg #[.int .u8 l, .int .u8 d, .int .u8 r, .int .u8 s], .int .i64 t, .bool v] w fun e w' => e = .returned (.tuple #[.int .i64 (ptsI l d r t v), .int .i64 0]) ∧ Below w.heap.size w w' := by
  obtain ⟨N, hN⟩ : ∃ N, ptsI l d r t v = N := ⟨_, rfl⟩
  rw [hN]
  have HP := Lib.hid hN
  clear hN
  have HQ := Lib.hid (fun W => r17result l d r s t (by omega) (by omega) (by omega) (by omega) W)
  rw [res_true l d r s t hl hd hr hs ht] at HQ
  have HN := Lib.hid (fun W => r17need l d r s (by omega) (by omega) (by omega) (by omega) W)
  rw [need_six l d r s hl hd hr hs] at HN
  have hl0 : (l == 0) = false := beq_eq_false_iff_ne.2 (by omega)
  go_enter Tryd.func45, Tryd.ntmps45
  go_wp2_with fail
  refine (HQ.out _).mono ?_
  rintro ee w1 ⟨rfl, hb1⟩
  have k0 := blk_below (blk_new (w := w) (.cells #[.int .u8 l, .int .u8 d, .int .u8 r, .int .u8 s] 28) rfl) hb1 (by simp)
  have hb0 := below_box hb1
  obtain ⟨g, hg⟩ : ∃ g, w.heap.size = g := ⟨_, rfl⟩
  rw [hg] at k0
  have HK := Lib.hid k0
  clear hb1 k0
  rw [hg]
  have HG := Lib.hid hg
  clear hg
  have q0 := blk_cell HK.out 0
  have q1 := blk_cell HK.out 1
  have q2 := blk_cell HK.out 2
  have q3 := blk_cell HK.out 3
  go_wp2_with fail
  refine (HN.out _).mono ?_
  rintro ee w2 ⟨rfl, hb2⟩
  have HK2 := Lib.hid (blk_below HK.out hb2 (blk_lt HK.out))
  have hB2 := below_via hb0 hb2
  clear q0 q1 q2 q3 hb2
  have q0 := blk_cell HK2.out 0
  have q1 := blk_cell HK2.out 1
  have q2 := blk_cell HK2.out 2
  have q3 := blk_cell HK2.out 3
  by_cases hm : 6 + l ≤ t
  · have HM := Lib.hid (fun W => r17made l d r s t v hl hd hr hs (by omega) W)
    have e : madeI l d r (t - (6 + l)) v = N := by rw [← HP.out]; unfold ptsI; rw [if_neg (by omega), if_neg (by omega)]
    rw [e] at HM
    clear e
    go_wp2_with fail
    refine (HM.out _).mono ?_
    rintro ee w3 ⟨rfl, hb3⟩
    have hB3 := Lib.hid (below_via hB2 hb3)
    go_wp2
    go_ret2
    exact ⟨rfl, hB3.out⟩
  · have hPN : ∀ j : Nat, (j : Int) = 6 + l - t → - missI r j v = N := fun j hj => by
      rw [← HP.out]; unfold ptsI; rw [if_neg (by omega), if_pos (by omega), show (6 + l - t).toNat = j by omega]
    have HPN := Lib.hid hPN
    clear hPN
    have hz : missI r 0 v = 0 := by unfold missI; split <;> rfl
    go_upto_region 9 with fail
    go_loopw [9, 8] (fun i y wr => ∃ j : Nat, (j : Int) ≤ 6 + l - t ∧ i = .int .i64 ((j : Int) + 1) ∧ y = .int .i64 (- missI r j v) ∧ Below w2.heap.size w2 wr) (fun i _ _ => 40 - (intOf i).toNat)
    case atStart => exact ⟨0, by omega, rfl, by rw [hz]; rfl, Below.refl _ _⟩
    case round =>
      obtain ⟨j, hj, rfl, rfl, hb⟩ := hrel
      rename World => wx
      have HKx := Lib.hid (blk_below HK2.out hb (blk_lt HK2.out))
      clear q0 q1 q2 q3
      have q0 := blk_cell HKx.out 0
      have q1 := blk_cell HKx.out 1
      have q2 := blk_cell HKx.out 2
      have q3 := blk_cell HKx.out 3
      have hmj := missI_bd r v j
      have hms := missI_succ r v j
      go_wp2_with fail
      refine (HN.out _).mono ?_
      rintro ee wy ⟨rfl, hby⟩
      have HKy := Lib.hid (blk_below HKx.out hby (blk_lt HKx.out))
      have hby2 := hb.trans (hby.mono hb.size)
      clear q0 q1 q2 q3 hby
      have q2 := blk_cell HKy.out 2
      by_cases hlt : (j : Int) + 1 ≤ 6 + l - t
      · have HLo := Lib.hid (fun W => r17lost r ((j : Int) + 1) v hr (by omega) W)
        have hm2 := missI_bd r v (j + 1)
        generalize lostI r ((j : Int) + 1) v = z at HLo hms
        obtain ⟨y2, he⟩ : ∃ y2, missI r (j + 1) v = y2 := ⟨_, rfl⟩
        rw [he] at hms hm2
        have He := Lib.hid he
        clear he
        have hy2 : - missI r j v - z = - y2 := by omega
        go_wp2_with fail
        refine (HLo.out _).mono ?_
        rintro ee wz ⟨rfl, rfl⟩
        go_wp2
        go_roundw
        case rel => exact ⟨j + 1, by omega, by go_num, by rw [He.out]; first | rfl | rw [hy2] | exact congrArg (Value.int .i64) (by omega), hby2⟩
        case measure => simp [intOf]; omega
      · have hP := HPN.out j (by omega)
        have hBz := Lib.hid (below_via hB2 hby2)
        go_wp2
        go_ret2
        exact ⟨by first | rfl | rw [hP], hBz.out⟩

end Go.Proofs.YtilekdjjfdehcaaDoor
