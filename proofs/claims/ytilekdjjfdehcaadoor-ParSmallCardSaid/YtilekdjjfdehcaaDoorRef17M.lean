/- The reference finesseref17: made. -/
import Derived.Test.YtilekdjjfdehcaaDoorRef17C
namespace Go.Proofs.YtilekdjjfdehcaaDoor
open Go.RowKit

theorem need_six (l d r s : Int) (hl : 1 ≤ l ∧ l ≤ 7) (hd : 0 ≤ d ∧ d ≤ 4) (hr : 0 ≤ r ∧ r ≤ 2) (hs : 0 ≤ s ∧ s ≤ 3) : needC l d r s = 6 + l := by
  unfold needC
  rw [if_pos ⟨by unfold rightC; exact decide_eq_true (.inr (by omega)), by omega⟩]

set_option maxRecDepth 100000 in
set_option maxHeartbeats 2000000 in
theorem r17made (l d r s t : Int) (v : Bool) (hl : 1 ≤ l ∧ l ≤ 7) (hd : 0 ≤ d ∧ d ≤ 4) (hr : 0 ≤ r ∧ r ≤ 2) (hs : 0 ≤ s ∧ s ≤ 3) (ht : 6 + l ≤ t ∧ t ≤ 13) (w : World) :
    Calls Tryd.prog 54 #[.agg #[.int .u8 l, .int .u8 d, .int .u8 r, .int .u8 s], .int .i64 t, .bool v] w fun e w' => e = .returned (.int .i64 (madeI l d r (t - (6 + l)) v)) ∧ Below w.heap.size w w' := by
  have HC := Lib.hid (fun W => r17contract l d r s hl hr W)
  have HN := Lib.hid (fun W => r17need l d r s (by omega) (by omega) (by omega) (by omega) W)
  rw [need_six l d r s hl hd hr hs] at HN
  have HV := Lib.hid (fun W => r17value d W)
  have hcb := trickV_bd l d r hl
  have HM := Lib.hid (show ∀ o, madeI l d r o v = trickV l d r + bonusI (trickV l d r) l v + insI r + o * eachI d r v from fun _ => rfl)
  have hbb := bonusI_bd (trickV l d r) l v
  have hee := eachI_bd d r v hr
  have hvd := valI_bd d
  obtain ⟨c, hc⟩ : ∃ c, trickV l d r = c := ⟨_, rfl⟩
  rw [hc] at HC hcb HM hbb
  clear hc
  have HB := Lib.hid (show bonusI c l v = (if 100 ≤ c then (if v = true then 500 else 300) else 50) + (if l = 6 then (if v = true then 750 else 500) else if l = 7 then (if v = true then 1500 else 1000) else 0) from rfl)
  go_enter Tryd.func54, Tryd.ntmps54
  go_wp2_with fail
  refine (HC.out _).mono ?_
  rintro ee w1 ⟨rfl, hb1⟩
  have k0 := blk_below (blk_new (w := w) (.cells #[.int .u8 l, .int .u8 d, .int .u8 r, .int .u8 s] 28) rfl) hb1 (by simp)
  have hb0 := below_box hb1
  obtain ⟨g, hg⟩ : ∃ g, w.heap.size = g := ⟨_, rfl⟩
  rw [hg] at k0
  have HK := Lib.hid k0
  clear hb1 k0
  rw [hg]
  have HG := Lib.hid hg
  clear hg
  obtain ⟨c1, hc1⟩ : ∃ c1, c + (if 100 ≤ c then (if v = true then 500 else 300) else 50) = c1 := ⟨_, rfl⟩
  obtain ⟨b2, hb2⟩ : ∃ b2 : Int, (if l = 6 then (if v = true then 750 else 500) else if l = 7 then (if v = true then 1500 else 1000) else 0) = b2 := ⟨_, rfl⟩
  have hB : c + bonusI c l v = c1 + b2 := by rw [HB.out, ← hc1, ← hb2]; omega
  have HC1 := Lib.hid hc1
  have HB2 := Lib.hid hb2
  have hc1b : 70 ≤ c1 ∧ c1 ≤ 1380 := by rw [← hc1]; split <;> (try split) <;> omega
  have hb2b : 0 ≤ b2 ∧ b2 ≤ 1500 := by rw [← hb2]; (repeat' split) <;> omega
  rw [hB] at HM
  clear hc1 hb2 hB HB
  go_upto_if 13 with fail
  go_cut [7] (fun x wz => x = .int .i64 c1 ∧ wz = w1)
  case first =>
    by_cases h1 : c < 100
    · have e := HC1.out
      rw [if_neg (by omega)] at e
      have hw : IntKind.i64.wrap (c + 50) = c1 := (IntWalk.i64_in _ (by omega)).trans e
      clear e
      go_wp2_with fail
      go_meet
      exact ⟨rfl, rfl⟩
    · have e := HC1.out
      rw [if_pos (by omega)] at e
      cases v
      · have hw : IntKind.i64.wrap (c + 300) = c1 := (IntWalk.i64_in _ (by omega)).trans e
        clear e
        go_wp2_with fail
        go_meet
        exact ⟨rfl, rfl⟩
      · have hw : IntKind.i64.wrap (c + 500) = c1 := (IntWalk.i64_in _ (by omega)).trans e
        clear e
        go_wp2_with fail
        go_meet
        exact ⟨rfl, rfl⟩
  case rest =>
  obtain ⟨rfl, rfl⟩ := hcut
  rename World => w1
  have q0 := blk_cell HK.out 0
  have q1 := blk_cell HK.out 1
  have q2 := blk_cell HK.out 2
  have q3 := blk_cell HK.out 3
  have hlt : l = 6 ∨ l = 7 ∨ (¬ l = 6 ∧ ¬ l = 7) := by omega
  have hrr : r = 0 ∨ r = 1 ∨ r = 2 := by omega
  have hN0 : 0 ≤ t - (6 + l) := by omega
  rcases hlt with h6 | h6 | ⟨h6, h7⟩ <;> cases v <;> rcases hrr with rfl | rfl | rfl
  · have bl6 : (l == 6) = true := beq_iff_eq.2 h6
    have bl7 : (l == 7) = false := beq_eq_false_iff_ne.2 (by omega)
    obtain rfl : 500 = b2 := by rw [← HB2.out, if_pos h6]; rfl
    clear h6
    have hE : eachI d 0 false = valI d := rfl
    rw [hE] at HM
    generalize valI d = x at HM HV hvd
    obtain ⟨Z, hZ⟩ : ∃ Z, c1 + 500 + 0 = Z := ⟨_, rfl⟩
    have hMZ : ∀ k : Nat, (k : Int) = t - (6 + l) → madeI l d 0 (t - (6 + l)) false = Z + (k : Int) * x := fun k hk => by rw [HM.out, hk, ← hZ]; rfl
    have HMZ := Lib.hid hMZ
    clear hMZ hE
    have hst : ∀ k : Nat, (k : Int) ≤ 7 → Z + (k : Int) * x + x = Z + ((k + 1 : Nat) : Int) * x ∧ 0 ≤ Z + (k : Int) * x ∧ Z + (k : Int) * x ≤ 8000 := fun k hk => by
      rcases hvd with rfl | rfl <;> (push_cast; omega)
    go_wp2_with fail
    refine (HN.out _).mono ?_
    rintro ee w2 ⟨rfl, hb2⟩
    have HK2 := Lib.hid (blk_below HK.out hb2 (blk_lt HK.out))
    have hB2 := below_via hb0 hb2
    clear q0 q1 q2 q3 hb2
    have q1 := blk_cell HK2.out 1
    have q2 := blk_cell HK2.out 2
    go_upto_region 20 with fail
    go_loopw [8, 7] (fun i y wr => ∃ k : Nat, 6 + l + (k : Int) ≤ t ∧ i = .int .i64 (6 + l + (k : Int)) ∧ y = .int .i64 (Z + (k : Int) * x) ∧ wr = w2) (fun i _ _ => 20 - (intOf i).toNat)
    case atStart => exact ⟨0, by omega, congrArg (Value.int .i64) (by omega), congrArg (Value.int .i64) (by rw [← hZ]; simp), rfl⟩
    case round =>
      obtain ⟨k, hk, rfl, rfl, rfl⟩ := hrel
      obtain ⟨h1, h2, h3⟩ := hst k (by omega)
      by_cases hkt : 6 + l + (k : Int) < t
      · obtain ⟨y2, hy2⟩ : ∃ y2, Z + ((k + 1 : Nat) : Int) * x = y2 := ⟨_, rfl⟩
        have Hy2 := Lib.hid hy2
        rw [hy2] at h1
        clear hy2
        generalize Z + (k : Int) * x = y at *
        go_wp2_with fail
        refine (HV.out _).mono ?_
        rintro ee wv ⟨rfl, rfl⟩
        go_wp2
        go_roundw
        case rel => exact ⟨k + 1, by omega, by go_num, by rw [Hy2.out, ← h1], by first | rfl | trivial⟩
        case measure => simp [intOf]; omega
      · have hkk : (k : Int) = t - (6 + l) := by omega
        have hM := HMZ.out k hkk
        have HMr := Lib.hid hM
        generalize Z + (k : Int) * x = y at *
        go_wp2
        go_ret
        first | exact ⟨rfl, hB2⟩ | exact ⟨(congrArg (fun n => Ending.returned (Value.int IntKind.i64 n)) hM).symm, hB2⟩
  · have bl6 : (l == 6) = true := beq_iff_eq.2 h6
    have bl7 : (l == 7) = false := beq_eq_false_iff_ne.2 (by omega)
    obtain rfl : 500 = b2 := by rw [← HB2.out, if_pos h6]; rfl
    clear h6
    have hE : eachI d 1 false = 100 := rfl
    rw [hE] at HM
    obtain ⟨Z, hZ⟩ : ∃ Z, c1 + 500 + 50 = Z := ⟨_, rfl⟩
    have hMZ : ∀ k : Nat, (k : Int) = t - (6 + l) → madeI l d 1 (t - (6 + l)) false = Z + (k : Int) * 100 := fun k hk => by rw [HM.out, hk, ← hZ]; rfl
    have HMZ := Lib.hid hMZ
    clear hMZ hE
    have hst : ∀ k : Nat, (k : Int) ≤ 7 → Z + (k : Int) * 100 + 100 = Z + ((k + 1 : Nat) : Int) * 100 ∧ 0 ≤ Z + (k : Int) * 100 ∧ Z + (k : Int) * 100 ≤ 8000 := fun k hk => by
      push_cast; omega
    go_wp2_with fail
    refine (HN.out _).mono ?_
    rintro ee w2 ⟨rfl, hb2⟩
    have HK2 := Lib.hid (blk_below HK.out hb2 (blk_lt HK.out))
    have hB2 := below_via hb0 hb2
    clear q0 q1 q2 q3 hb2
    have q1 := blk_cell HK2.out 1
    have q2 := blk_cell HK2.out 2
    go_upto_region 20 with fail
    go_loopw [8, 7] (fun i y wr => ∃ k : Nat, 6 + l + (k : Int) ≤ t ∧ i = .int .i64 (6 + l + (k : Int)) ∧ y = .int .i64 (Z + (k : Int) * 100) ∧ wr = w2) (fun i _ _ => 20 - (intOf i).toNat)
    case atStart => exact ⟨0, by omega, congrArg (Value.int .i64) (by omega), congrArg (Value.int .i64) (by rw [← hZ]; simp), rfl⟩
    case round =>
      obtain ⟨k, hk, rfl, rfl, rfl⟩ := hrel
      obtain ⟨h1, h2, h3⟩ := hst k (by omega)
      by_cases hkt : 6 + l + (k : Int) < t
      · obtain ⟨y2, hy2⟩ : ∃ y2, Z + ((k + 1 : Nat) : Int) * 100 = y2 := ⟨_, rfl⟩
        have Hy2 := Lib.hid hy2
        rw [hy2] at h1
        clear hy2
        generalize Z + (k : Int) * 100 = y at *
        go_wp2
        go_roundw
        case rel => exact ⟨k + 1, by omega, by go_num, by rw [Hy2.out, ← h1], by first | rfl | trivial⟩
        case measure => simp [intOf]; omega
      · have hkk : (k : Int) = t - (6 + l) := by omega
        have hM := HMZ.out k hkk
        have HMr := Lib.hid hM
        generalize Z + (k : Int) * 100 = y at *
        go_wp2
        go_ret
        first | exact ⟨rfl, hB2⟩ | exact ⟨(congrArg (fun n => Ending.returned (Value.int IntKind.i64 n)) hM).symm, hB2⟩
  · have bl6 : (l == 6) = true := beq_iff_eq.2 h6
    have bl7 : (l == 7) = false := beq_eq_false_iff_ne.2 (by omega)
    obtain rfl : 500 = b2 := by rw [← HB2.out, if_pos h6]; rfl
    clear h6
    have hE : eachI d 2 false = 200 := rfl
    rw [hE] at HM
    obtain ⟨Z, hZ⟩ : ∃ Z, c1 + 500 + 100 = Z := ⟨_, rfl⟩
    have hMZ : ∀ k : Nat, (k : Int) = t - (6 + l) → madeI l d 2 (t - (6 + l)) false = Z + (k : Int) * 200 := fun k hk => by rw [HM.out, hk, ← hZ]; rfl
    have HMZ := Lib.hid hMZ
    clear hMZ hE
    have hst : ∀ k : Nat, (k : Int) ≤ 7 → Z + (k : Int) * 200 + 200 = Z + ((k + 1 : Nat) : Int) * 200 ∧ 0 ≤ Z + (k : Int) * 200 ∧ Z + (k : Int) * 200 ≤ 8000 := fun k hk => by
      push_cast; omega
    go_wp2_with fail
    refine (HN.out _).mono ?_
    rintro ee w2 ⟨rfl, hb2⟩
    have HK2 := Lib.hid (blk_below HK.out hb2 (blk_lt HK.out))
    have hB2 := below_via hb0 hb2
    clear q0 q1 q2 q3 hb2
    have q1 := blk_cell HK2.out 1
    have q2 := blk_cell HK2.out 2
    go_upto_region 20 with fail
    go_loopw [8, 7] (fun i y wr => ∃ k : Nat, 6 + l + (k : Int) ≤ t ∧ i = .int .i64 (6 + l + (k : Int)) ∧ y = .int .i64 (Z + (k : Int) * 200) ∧ wr = w2) (fun i _ _ => 20 - (intOf i).toNat)
    case atStart => exact ⟨0, by omega, congrArg (Value.int .i64) (by omega), congrArg (Value.int .i64) (by rw [← hZ]; simp), rfl⟩
    case round =>
      obtain ⟨k, hk, rfl, rfl, rfl⟩ := hrel
      obtain ⟨h1, h2, h3⟩ := hst k (by omega)
      by_cases hkt : 6 + l + (k : Int) < t
      · obtain ⟨y2, hy2⟩ : ∃ y2, Z + ((k + 1 : Nat) : Int) * 200 = y2 := ⟨_, rfl⟩
        have Hy2 := Lib.hid hy2
        rw [hy2] at h1
        clear hy2
        generalize Z + (k : Int) * 200 = y at *
        go_wp2
        go_roundw
        case rel => exact ⟨k + 1, by omega, by go_num, by rw [Hy2.out, ← h1], by first | rfl | trivial⟩
        case measure => simp [intOf]; omega
      · have hkk : (k : Int) = t - (6 + l) := by omega
        have hM := HMZ.out k hkk
        have HMr := Lib.hid hM
        generalize Z + (k : Int) * 200 = y at *
        go_wp2
        go_ret
        first | exact ⟨rfl, hB2⟩ | exact ⟨(congrArg (fun n => Ending.returned (Value.int IntKind.i64 n)) hM).symm, hB2⟩
  · have bl6 : (l == 6) = true := beq_iff_eq.2 h6
    have bl7 : (l == 7) = false := beq_eq_false_iff_ne.2 (by omega)
    obtain rfl : 750 = b2 := by rw [← HB2.out, if_pos h6]; rfl
    clear h6
    have hE : eachI d 0 true = valI d := rfl
    rw [hE] at HM
    generalize valI d = x at HM HV hvd
    obtain ⟨Z, hZ⟩ : ∃ Z, c1 + 750 + 0 = Z := ⟨_, rfl⟩
    have hMZ : ∀ k : Nat, (k : Int) = t - (6 + l) → madeI l d 0 (t - (6 + l)) true = Z + (k : Int) * x := fun k hk => by rw [HM.out, hk, ← hZ]; rfl
    have HMZ := Lib.hid hMZ
    clear hMZ hE
    have hst : ∀ k : Nat, (k : Int) ≤ 7 → Z + (k : Int) * x + x = Z + ((k + 1 : Nat) : Int) * x ∧ 0 ≤ Z + (k : Int) * x ∧ Z + (k : Int) * x ≤ 8000 := fun k hk => by
      rcases hvd with rfl | rfl <;> (push_cast; omega)
    go_wp2_with fail
    refine (HN.out _).mono ?_
    rintro ee w2 ⟨rfl, hb2⟩
    have HK2 := Lib.hid (blk_below HK.out hb2 (blk_lt HK.out))
    have hB2 := below_via hb0 hb2
    clear q0 q1 q2 q3 hb2
    have q1 := blk_cell HK2.out 1
    have q2 := blk_cell HK2.out 2
    go_upto_region 20 with fail
    go_loopw [8, 7] (fun i y wr => ∃ k : Nat, 6 + l + (k : Int) ≤ t ∧ i = .int .i64 (6 + l + (k : Int)) ∧ y = .int .i64 (Z + (k : Int) * x) ∧ wr = w2) (fun i _ _ => 20 - (intOf i).toNat)
    case atStart => exact ⟨0, by omega, congrArg (Value.int .i64) (by omega), congrArg (Value.int .i64) (by rw [← hZ]; simp), rfl⟩
    case round =>
      obtain ⟨k, hk, rfl, rfl, rfl⟩ := hrel
      obtain ⟨h1, h2, h3⟩ := hst k (by omega)
      by_cases hkt : 6 + l + (k : Int) < t
      · obtain ⟨y2, hy2⟩ : ∃ y2, Z + ((k + 1 : Nat) : Int) * x = y2 := ⟨_, rfl⟩
        have Hy2 := Lib.hid hy2
        rw [hy2] at h1
        clear hy2
        generalize Z + (k : Int) * x = y at *
        go_wp2_with fail
        refine (HV.out _).mono ?_
        rintro ee wv ⟨rfl, rfl⟩
        go_wp2
        go_roundw
        case rel => exact ⟨k + 1, by omega, by go_num, by rw [Hy2.out, ← h1], by first | rfl | trivial⟩
        case measure => simp [intOf]; omega
      · have hkk : (k : Int) = t - (6 + l) := by omega
        have hM := HMZ.out k hkk
        have HMr := Lib.hid hM
        generalize Z + (k : Int) * x = y at *
        go_wp2
        go_ret
        first | exact ⟨rfl, hB2⟩ | exact ⟨(congrArg (fun n => Ending.returned (Value.int IntKind.i64 n)) hM).symm, hB2⟩
  · have bl6 : (l == 6) = true := beq_iff_eq.2 h6
    have bl7 : (l == 7) = false := beq_eq_false_iff_ne.2 (by omega)
    obtain rfl : 750 = b2 := by rw [← HB2.out, if_pos h6]; rfl
    clear h6
    have hE : eachI d 1 true = 200 := rfl
    rw [hE] at HM
    obtain ⟨Z, hZ⟩ : ∃ Z, c1 + 750 + 50 = Z := ⟨_, rfl⟩
    have hMZ : ∀ k : Nat, (k : Int) = t - (6 + l) → madeI l d 1 (t - (6 + l)) true = Z + (k : Int) * 200 := fun k hk => by rw [HM.out, hk, ← hZ]; rfl
    have HMZ := Lib.hid hMZ
    clear hMZ hE
    have hst : ∀ k : Nat, (k : Int) ≤ 7 → Z + (k : Int) * 200 + 200 = Z + ((k + 1 : Nat) : Int) * 200 ∧ 0 ≤ Z + (k : Int) * 200 ∧ Z + (k : Int) * 200 ≤ 8000 := fun k hk => by
      push_cast; omega
    go_wp2_with fail
    refine (HN.out _).mono ?_
    rintro ee w2 ⟨rfl, hb2⟩
    have HK2 := Lib.hid (blk_below HK.out hb2 (blk_lt HK.out))
    have hB2 := below_via hb0 hb2
    clear q0 q1 q2 q3 hb2
    have q1 := blk_cell HK2.out 1
    have q2 := blk_cell HK2.out 2
    go_upto_region 20 with fail
    go_loopw [8, 7] (fun i y wr => ∃ k : Nat, 6 + l + (k : Int) ≤ t ∧ i = .int .i64 (6 + l + (k : Int)) ∧ y = .int .i64 (Z + (k : Int) * 200) ∧ wr = w2) (fun i _ _ => 20 - (intOf i).toNat)
    case atStart => exact ⟨0, by omega, congrArg (Value.int .i64) (by omega), congrArg (Value.int .i64) (by rw [← hZ]; simp), rfl⟩
    case round =>
      obtain ⟨k, hk, rfl, rfl, rfl⟩ := hrel
      obtain ⟨h1, h2, h3⟩ := hst k (by omega)
      by_cases hkt : 6 + l + (k : Int) < t
      · obtain ⟨y2, hy2⟩ : ∃ y2, Z + ((k + 1 : Nat) : Int) * 200 = y2 := ⟨_, rfl⟩
        have Hy2 := Lib.hid hy2
        rw [hy2] at h1
        clear hy2
        generalize Z + (k : Int) * 200 = y at *
        go_wp2
        go_roundw
        case rel => exact ⟨k + 1, by omega, by go_num, by rw [Hy2.out, ← h1], by first | rfl | trivial⟩
        case measure => simp [intOf]; omega
      · have hkk : (k : Int) = t - (6 + l) := by omega
        have hM := HMZ.out k hkk
        have HMr := Lib.hid hM
        generalize Z + (k : Int) * 200 = y at *
        go_wp2
        go_ret
        first | exact ⟨rfl, hB2⟩ | exact ⟨(congrArg (fun n => Ending.returned (Value.int IntKind.i64 n)) hM).symm, hB2⟩
  · have bl6 : (l == 6) = true := beq_iff_eq.2 h6
    have bl7 : (l == 7) = false := beq_eq_false_iff_ne.2 (by omega)
    obtain rfl : 750 = b2 := by rw [← HB2.out, if_pos h6]; rfl
    clear h6
    have hE : eachI d 2 true = 400 := rfl
    rw [hE] at HM
    obtain ⟨Z, hZ⟩ : ∃ Z, c1 + 750 + 100 = Z := ⟨_, rfl⟩
    have hMZ : ∀ k : Nat, (k : Int) = t - (6 + l) → madeI l d 2 (t - (6 + l)) true = Z + (k : Int) * 400 := fun k hk => by rw [HM.out, hk, ← hZ]; rfl
    have HMZ := Lib.hid hMZ
    clear hMZ hE
    have hst : ∀ k : Nat, (k : Int) ≤ 7 → Z + (k : Int) * 400 + 400 = Z + ((k + 1 : Nat) : Int) * 400 ∧ 0 ≤ Z + (k : Int) * 400 ∧ Z + (k : Int) * 400 ≤ 8000 := fun k hk => by
      push_cast; omega
    go_wp2_with fail
    refine (HN.out _).mono ?_
    rintro ee w2 ⟨rfl, hb2⟩
    have HK2 := Lib.hid (blk_below HK.out hb2 (blk_lt HK.out))
    have hB2 := below_via hb0 hb2
    clear q0 q1 q2 q3 hb2
    have q1 := blk_cell HK2.out 1
    have q2 := blk_cell HK2.out 2
    go_upto_region 20 with fail
    go_loopw [8, 7] (fun i y wr => ∃ k : Nat, 6 + l + (k : Int) ≤ t ∧ i = .int .i64 (6 + l + (k : Int)) ∧ y = .int .i64 (Z + (k : Int) * 400) ∧ wr = w2) (fun i _ _ => 20 - (intOf i).toNat)
    case atStart => exact ⟨0, by omega, congrArg (Value.int .i64) (by omega), congrArg (Value.int .i64) (by rw [← hZ]; simp), rfl⟩
    case round =>
      obtain ⟨k, hk, rfl, rfl, rfl⟩ := hrel
      obtain ⟨h1, h2, h3⟩ := hst k (by omega)
      by_cases hkt : 6 + l + (k : Int) < t
      · obtain ⟨y2, hy2⟩ : ∃ y2, Z + ((k + 1 : Nat) : Int) * 400 = y2 := ⟨_, rfl⟩
        have Hy2 := Lib.hid hy2
        rw [hy2] at h1
        clear hy2
        generalize Z + (k : Int) * 400 = y at *
        go_wp2
        go_roundw
        case rel => exact ⟨k + 1, by omega, by go_num, by rw [Hy2.out, ← h1], by first | rfl | trivial⟩
        case measure => simp [intOf]; omega
      · have hkk : (k : Int) = t - (6 + l) := by omega
        have hM := HMZ.out k hkk
        have HMr := Lib.hid hM
        generalize Z + (k : Int) * 400 = y at *
        go_wp2
        go_ret
        first | exact ⟨rfl, hB2⟩ | exact ⟨(congrArg (fun n => Ending.returned (Value.int IntKind.i64 n)) hM).symm, hB2⟩
  · have bl6 : (l == 6) = false := beq_eq_false_iff_ne.2 (by omega)
    have bl7 : (l == 7) = true := beq_iff_eq.2 h6
    obtain rfl : 1000 = b2 := by rw [← HB2.out, if_neg (by omega), if_pos h6]; rfl
    clear h6
    have hE : eachI d 0 false = valI d := rfl
    rw [hE] at HM
    generalize valI d = x at HM HV hvd
    obtain ⟨Z, hZ⟩ : ∃ Z, c1 + 1000 + 0 = Z := ⟨_, rfl⟩
    have hMZ : ∀ k : Nat, (k : Int) = t - (6 + l) → madeI l d 0 (t - (6 + l)) false = Z + (k : Int) * x := fun k hk => by rw [HM.out, hk, ← hZ]; rfl
    have HMZ := Lib.hid hMZ
    clear hMZ hE
    have hst : ∀ k : Nat, (k : Int) ≤ 7 → Z + (k : Int) * x + x = Z + ((k + 1 : Nat) : Int) * x ∧ 0 ≤ Z + (k : Int) * x ∧ Z + (k : Int) * x ≤ 8000 := fun k hk => by
      rcases hvd with rfl | rfl <;> (push_cast; omega)
    go_wp2_with fail
    refine (HN.out _).mono ?_
    rintro ee w2 ⟨rfl, hb2⟩
    have HK2 := Lib.hid (blk_below HK.out hb2 (blk_lt HK.out))
    have hB2 := below_via hb0 hb2
    clear q0 q1 q2 q3 hb2
    have q1 := blk_cell HK2.out 1
    have q2 := blk_cell HK2.out 2
    go_upto_region 20 with fail
    go_loopw [8, 7] (fun i y wr => ∃ k : Nat, 6 + l + (k : Int) ≤ t ∧ i = .int .i64 (6 + l + (k : Int)) ∧ y = .int .i64 (Z + (k : Int) * x) ∧ wr = w2) (fun i _ _ => 20 - (intOf i).toNat)
    case atStart => exact ⟨0, by omega, congrArg (Value.int .i64) (by omega), congrArg (Value.int .i64) (by rw [← hZ]; simp), rfl⟩
    case round =>
      obtain ⟨k, hk, rfl, rfl, rfl⟩ := hrel
      obtain ⟨h1, h2, h3⟩ := hst k (by omega)
      by_cases hkt : 6 + l + (k : Int) < t
      · obtain ⟨y2, hy2⟩ : ∃ y2, Z + ((k + 1 : Nat) : Int) * x = y2 := ⟨_, rfl⟩
        have Hy2 := Lib.hid hy2
        rw [hy2] at h1
        clear hy2
        generalize Z + (k : Int) * x = y at *
        go_wp2_with fail
        refine (HV.out _).mono ?_
        rintro ee wv ⟨rfl, rfl⟩
        go_wp2
        go_roundw
        case rel => exact ⟨k + 1, by omega, by go_num, by rw [Hy2.out, ← h1], by first | rfl | trivial⟩
        case measure => simp [intOf]; omega
      · have hkk : (k : Int) = t - (6 + l) := by omega
        have hM := HMZ.out k hkk
        have HMr := Lib.hid hM
        generalize Z + (k : Int) * x = y at *
        go_wp2
        go_ret
        first | exact ⟨rfl, hB2⟩ | exact ⟨(congrArg (fun n => Ending.returned (Value.int IntKind.i64 n)) hM).symm, hB2⟩
  · have bl6 : (l == 6) = false := beq_eq_false_iff_ne.2 (by omega)
    have bl7 : (l == 7) = true := beq_iff_eq.2 h6
    obtain rfl : 1000 = b2 := by rw [← HB2.out, if_neg (by omega), if_pos h6]; rfl
    clear h6
    have hE : eachI d 1 false = 100 := rfl
    rw [hE] at HM
    obtain ⟨Z, hZ⟩ : ∃ Z, c1 + 1000 + 50 = Z := ⟨_, rfl⟩
    have hMZ : ∀ k : Nat, (k : Int) = t - (6 + l) → madeI l d 1 (t - (6 + l)) false = Z + (k : Int) * 100 := fun k hk => by rw [HM.out, hk, ← hZ]; rfl
    have HMZ := Lib.hid hMZ
    clear hMZ hE
    have hst : ∀ k : Nat, (k : Int) ≤ 7 → Z + (k : Int) * 100 + 100 = Z + ((k + 1 : Nat) : Int) * 100 ∧ 0 ≤ Z + (k : Int) * 100 ∧ Z + (k : Int) * 100 ≤ 8000 := fun k hk => by
      push_cast; omega
    go_wp2_with fail
    refine (HN.out _).mono ?_
    rintro ee w2 ⟨rfl, hb2⟩
    have HK2 := Lib.hid (blk_below HK.out hb2 (blk_lt HK.out))
    have hB2 := below_via hb0 hb2
    clear q0 q1 q2 q3 hb2
    have q1 := blk_cell HK2.out 1
    have q2 := blk_cell HK2.out 2
    go_upto_region 20 with fail
    go_loopw [8, 7] (fun i y wr => ∃ k : Nat, 6 + l + (k : Int) ≤ t ∧ i = .int .i64 (6 + l + (k : Int)) ∧ y = .int .i64 (Z + (k : Int) * 100) ∧ wr = w2) (fun i _ _ => 20 - (intOf i).toNat)
    case atStart => exact ⟨0, by omega, congrArg (Value.int .i64) (by omega), congrArg (Value.int .i64) (by rw [← hZ]; simp), rfl⟩
    case round =>
      obtain ⟨k, hk, rfl, rfl, rfl⟩ := hrel
      obtain ⟨h1, h2, h3⟩ := hst k (by omega)
      by_cases hkt : 6 + l + (k : Int) < t
      · obtain ⟨y2, hy2⟩ : ∃ y2, Z + ((k + 1 : Nat) : Int) * 100 = y2 := ⟨_, rfl⟩
        have Hy2 := Lib.hid hy2
        rw [hy2] at h1
        clear hy2
        generalize Z + (k : Int) * 100 = y at *
        go_wp2
        go_roundw
        case rel => exact ⟨k + 1, by omega, by go_num, by rw [Hy2.out, ← h1], by first | rfl | trivial⟩
        case measure => simp [intOf]; omega
      · have hkk : (k : Int) = t - (6 + l) := by omega
        have hM := HMZ.out k hkk
        have HMr := Lib.hid hM
        generalize Z + (k : Int) * 100 = y at *
        go_wp2
        go_ret
        first | exact ⟨rfl, hB2⟩ | exact ⟨(congrArg (fun n => Ending.returned (Value.int IntKind.i64 n)) hM).symm, hB2⟩
  · have bl6 : (l == 6) = false := beq_eq_false_iff_ne.2 (by omega)
    have bl7 : (l == 7) = true := beq_iff_eq.2 h6
    obtain rfl : 1000 = b2 := by rw [← HB2.out, if_neg (by omega), if_pos h6]; rfl
    clear h6
    have hE : eachI d 2 false = 200 := rfl
    rw [hE] at HM
    obtain ⟨Z, hZ⟩ : ∃ Z, c1 + 1000 + 100 = Z := ⟨_, rfl⟩
    have hMZ : ∀ k : Nat, (k : Int) = t - (6 + l) → madeI l d 2 (t - (6 + l)) false = Z + (k : Int) * 200 := fun k hk => by rw [HM.out, hk, ← hZ]; rfl
    have HMZ := Lib.hid hMZ
    clear hMZ hE
    have hst : ∀ k : Nat, (k : Int) ≤ 7 → Z + (k : Int) * 200 + 200 = Z + ((k + 1 : Nat) : Int) * 200 ∧ 0 ≤ Z + (k : Int) * 200 ∧ Z + (k : Int) * 200 ≤ 8000 := fun k hk => by
      push_cast; omega
    go_wp2_with fail
    refine (HN.out _).mono ?_
    rintro ee w2 ⟨rfl, hb2⟩
    have HK2 := Lib.hid (blk_below HK.out hb2 (blk_lt HK.out))
    have hB2 := below_via hb0 hb2
    clear q0 q1 q2 q3 hb2
    have q1 := blk_cell HK2.out 1
    have q2 := blk_cell HK2.out 2
    go_upto_region 20 with fail
    go_loopw [8, 7] (fun i y wr => ∃ k : Nat, 6 + l + (k : Int) ≤ t ∧ i = .int .i64 (6 + l + (k : Int)) ∧ y = .int .i64 (Z + (k : Int) * 200) ∧ wr = w2) (fun i _ _ => 20 - (intOf i).toNat)
    case atStart => exact ⟨0, by omega, congrArg (Value.int .i64) (by omega), congrArg (Value.int .i64) (by rw [← hZ]; simp), rfl⟩
    case round =>
      obtain ⟨k, hk, rfl, rfl, rfl⟩ := hrel
      obtain ⟨h1, h2, h3⟩ := hst k (by omega)
      by_cases hkt : 6 + l + (k : Int) < t
      · obtain ⟨y2, hy2⟩ : ∃ y2, Z + ((k + 1 : Nat) : Int) * 200 = y2 := ⟨_, rfl⟩
        have Hy2 := Lib.hid hy2
        rw [hy2] at h1
        clear hy2
        generalize Z + (k : Int) * 200 = y at *
        go_wp2
        go_roundw
        case rel => exact ⟨k + 1, by omega, by go_num, by rw [Hy2.out, ← h1], by first | rfl | trivial⟩
        case measure => simp [intOf]; omega
      · have hkk : (k : Int) = t - (6 + l) := by omega
        have hM := HMZ.out k hkk
        have HMr := Lib.hid hM
        generalize Z + (k : Int) * 200 = y at *
        go_wp2
        go_ret
        first | exact ⟨rfl, hB2⟩ | exact ⟨(congrArg (fun n => Ending.returned (Value.int IntKind.i64 n)) hM).symm, hB2⟩
  · have bl6 : (l == 6) = false := beq_eq_false_iff_ne.2 (by omega)
    have bl7 : (l == 7) = true := beq_iff_eq.2 h6
    obtain rfl : 1500 = b2 := by rw [← HB2.out, if_neg (by omega), if_pos h6]; rfl
    clear h6
    have hE : eachI d 0 true = valI d := rfl
    rw [hE] at HM
    generalize valI d = x at HM HV hvd
    obtain ⟨Z, hZ⟩ : ∃ Z, c1 + 1500 + 0 = Z := ⟨_, rfl⟩
    have hMZ : ∀ k : Nat, (k : Int) = t - (6 + l) → madeI l d 0 (t - (6 + l)) true = Z + (k : Int) * x := fun k hk => by rw [HM.out, hk, ← hZ]; rfl
    have HMZ := Lib.hid hMZ
    clear hMZ hE
    have hst : ∀ k : Nat, (k : Int) ≤ 7 → Z + (k : Int) * x + x = Z + ((k + 1 : Nat) : Int) * x ∧ 0 ≤ Z + (k : Int) * x ∧ Z + (k : Int) * x ≤ 8000 := fun k hk => by
      rcases hvd with rfl | rfl <;> (push_cast; omega)
    go_wp2_with fail
    refine (HN.out _).mono ?_
    rintro ee w2 ⟨rfl, hb2⟩
    have HK2 := Lib.hid (blk_below HK.out hb2 (blk_lt HK.out))
    have hB2 := below_via hb0 hb2
    clear q0 q1 q2 q3 hb2
    have q1 := blk_cell HK2.out 1
    have q2 := blk_cell HK2.out 2
    go_upto_region 20 with fail
    go_loopw [8, 7] (fun i y wr => ∃ k : Nat, 6 + l + (k : Int) ≤ t ∧ i = .int .i64 (6 + l + (k : Int)) ∧ y = .int .i64 (Z + (k : Int) * x) ∧ wr = w2) (fun i _ _ => 20 - (intOf i).toNat)
    case atStart => exact ⟨0, by omega, congrArg (Value.int .i64) (by omega), congrArg (Value.int .i64) (by rw [← hZ]; simp), rfl⟩
    case round =>
      obtain ⟨k, hk, rfl, rfl, rfl⟩ := hrel
      obtain ⟨h1, h2, h3⟩ := hst k (by omega)
      by_cases hkt : 6 + l + (k : Int) < t
      · obtain ⟨y2, hy2⟩ : ∃ y2, Z + ((k + 1 : Nat) : Int) * x = y2 := ⟨_, rfl⟩
        have Hy2 := Lib.hid hy2
        rw [hy2] at h1
        clear hy2
        generalize Z + (k : Int) * x = y at *
        go_wp2_with fail
        refine (HV.out _).mono ?_
        rintro ee wv ⟨rfl, rfl⟩
        go_wp2
        go_roundw
        case rel => exact ⟨k + 1, by omega, by go_num, by rw [Hy2.out, ← h1], by first | rfl | trivial⟩
        case measure => simp [intOf]; omega
      · have hkk : (k : Int) = t - (6 + l) := by omega
        have hM := HMZ.out k hkk
        have HMr := Lib.hid hM
        generalize Z + (k : Int) * x = y at *
        go_wp2
        go_ret
        first | exact ⟨rfl, hB2⟩ | exact ⟨(congrArg (fun n => Ending.returned (Value.int IntKind.i64 n)) hM).symm, hB2⟩
  · have bl6 : (l == 6) = false := beq_eq_false_iff_ne.2 (by omega)
    have bl7 : (l == 7) = true := beq_iff_eq.2 h6
    obtain rfl : 1500 = b2 := by rw [← HB2.out, if_neg (by omega), if_pos h6]; rfl
    clear h6
    have hE : eachI d 1 true = 200 := rfl
    rw [hE] at HM
    obtain ⟨Z, hZ⟩ : ∃ Z, c1 + 1500 + 50 = Z := ⟨_, rfl⟩
    have hMZ : ∀ k : Nat, (k : Int) = t - (6 + l) → madeI l d 1 (t - (6 + l)) true = Z + (k : Int) * 200 := fun k hk => by rw [HM.out, hk, ← hZ]; rfl
    have HMZ := Lib.hid hMZ
    clear hMZ hE
    have hst : ∀ k : Nat, (k : Int) ≤ 7 → Z + (k : Int) * 200 + 200 = Z + ((k + 1 : Nat) : Int) * 200 ∧ 0 ≤ Z + (k : Int) * 200 ∧ Z + (k : Int) * 200 ≤ 8000 := fun k hk => by
      push_cast; omega
    go_wp2_with fail
    refine (HN.out _).mono ?_
    rintro ee w2 ⟨rfl, hb2⟩
    have HK2 := Lib.hid (blk_below HK.out hb2 (blk_lt HK.out))
    have hB2 := below_via hb0 hb2
    clear q0 q1 q2 q3 hb2
    have q1 := blk_cell HK2.out 1
    have q2 := blk_cell HK2.out 2
    go_upto_region 20 with fail
    go_loopw [8, 7] (fun i y wr => ∃ k : Nat, 6 + l + (k : Int) ≤ t ∧ i = .int .i64 (6 + l + (k : Int)) ∧ y = .int .i64 (Z + (k : Int) * 200) ∧ wr = w2) (fun i _ _ => 20 - (intOf i).toNat)
    case atStart => exact ⟨0, by omega, congrArg (Value.int .i64) (by omega), congrArg (Value.int .i64) (by rw [← hZ]; simp), rfl⟩
    case round =>
      obtain ⟨k, hk, rfl, rfl, rfl⟩ := hrel
      obtain ⟨h1, h2, h3⟩ := hst k (by omega)
      by_cases hkt : 6 + l + (k : Int) < t
      · obtain ⟨y2, hy2⟩ : ∃ y2, Z + ((k + 1 : Nat) : Int) * 200 = y2 := ⟨_, rfl⟩
        have Hy2 := Lib.hid hy2
        rw [hy2] at h1
        clear hy2
        generalize Z + (k : Int) * 200 = y at *
        go_wp2
        go_roundw
        case rel => exact ⟨k + 1, by omega, by go_num, by rw [Hy2.out, ← h1], by first | rfl | trivial⟩
        case measure => simp [intOf]; omega
      · have hkk : (k : Int) = t - (6 + l) := by omega
        have hM := HMZ.out k hkk
        have HMr := Lib.hid hM
        generalize Z + (k : Int) * 200 = y at *
        go_wp2
        go_ret
        first | exact ⟨rfl, hB2⟩ | exact ⟨(congrArg (fun n => Ending.returned (Value.int IntKind.i64 n)) hM).symm, hB2⟩
  · have bl6 : (l == 6) = false := beq_eq_false_iff_ne.2 (by omega)
    have bl7 : (l == 7) = true := beq_iff_eq.2 h6
    obtain rfl : 1500 = b2 := by rw [← HB2.out, if_neg (by omega), if_pos h6]; rfl
    clear h6
    have hE : eachI d 2 true = 400 := rfl
    rw [hE] at HM
    obtain ⟨Z, hZ⟩ : ∃ Z, c1 + 1500 + 100 = Z := ⟨_, rfl⟩
    have hMZ : ∀ k : Nat, (k : Int) = t - (6 + l) → madeI l d 2 (t - (6 + l)) true = Z + (k : Int) * 400 := fun k hk => by rw [HM.out, hk, ← hZ]; rfl
    have HMZ := Lib.hid hMZ
    clear hMZ hE
    have hst : ∀ k : Nat, (k : Int) ≤ 7 → Z + (k : Int) * 400 + 400 = Z + ((k + 1 : Nat) : Int) * 400 ∧ 0 ≤ Z + (k : Int) * 400 ∧ Z + (k : Int) * 400 ≤ 8000 := fun k hk => by
      push_cast; omega
    go_wp2_with fail
    refine (HN.out _).mono ?_
    rintro ee w2 ⟨rfl, hb2⟩
    have HK2 := Lib.hid (blk_below HK.out hb2 (blk_lt HK.out))
    have hB2 := below_via hb0 hb2
    clear q0 q1 q2 q3 hb2
    have q1 := blk_cell HK2.out 1
    have q2 := blk_cell HK2.out 2
    go_upto_region 20 with fail
    go_loopw [8, 7] (fun i y wr => ∃ k : Nat, 6 + l + (k : Int) ≤ t ∧ i = .int .i64 (6 + l + (k : Int)) ∧ y = .int .i64 (Z + (k : Int) * 400) ∧ wr = w2) (fun i _ _ => 20 - (intOf i).toNat)
    case atStart => exact ⟨0, by omega, congrArg (Value.int .i64) (by omega), congrArg (Value.int .i64) (by rw [← hZ]; simp), rfl⟩
    case round =>
      obtain ⟨k, hk, rfl, rfl, rfl⟩ := hrel
      obtain ⟨h1, h2, h3⟩ := hst k (by omega)
      by_cases hkt : 6 + l + (k : Int) < t
      · obtain ⟨y2, hy2⟩ : ∃ y2, Z + ((k + 1 : Nat) : Int) * 400 = y2 := ⟨_, rfl⟩
        have Hy2 := Lib.hid hy2
        rw [hy2] at h1
        clear hy2
        generalize Z + (k : Int) * 400 = y at *
        go_wp2
        go_roundw
        case rel => exact ⟨k + 1, by omega, by go_num, by rw [Hy2.out, ← h1], by first | rfl | trivial⟩
        case measure => simp [intOf]; omega
      · have hkk : (k : Int) = t - (6 + l) := by omega
        have hM := HMZ.out k hkk
        have HMr := Lib.hid hM
        generalize Z + (k : Int) * 400 = y at *
        go_wp2
        go_ret
        first | exact ⟨rfl, hB2⟩ | exact ⟨(congrArg (fun n => Ending.returned (Value.int IntKind.i64 n)) hM).symm, hB2⟩
  · have bl6 : (l == 6) = false := beq_eq_false_iff_ne.2 h6
    have bl7 : (l == 7) = false := beq_eq_false_iff_ne.2 h7
    obtain rfl : (0 : Int) = b2 := by rw [← HB2.out, if_neg h6, if_neg h7]
    clear h6 h7
    have hE : eachI d 0 false = valI d := rfl
    rw [hE] at HM
    generalize valI d = x at HM HV hvd
    obtain ⟨Z, hZ⟩ : ∃ Z, c1 + 0 + 0 = Z := ⟨_, rfl⟩
    have hMZ : ∀ k : Nat, (k : Int) = t - (6 + l) → madeI l d 0 (t - (6 + l)) false = Z + (k : Int) * x := fun k hk => by rw [HM.out, hk, ← hZ]; rfl
    have HMZ := Lib.hid hMZ
    clear hMZ hE
    have hst : ∀ k : Nat, (k : Int) ≤ 7 → Z + (k : Int) * x + x = Z + ((k + 1 : Nat) : Int) * x ∧ 0 ≤ Z + (k : Int) * x ∧ Z + (k : Int) * x ≤ 8000 := fun k hk => by
      rcases hvd with rfl | rfl <;> (push_cast; omega)
    go_wp2_with fail
    refine (HN.out _).mono ?_
    rintro ee w2 ⟨rfl, hb2⟩
    have HK2 := Lib.hid (blk_below HK.out hb2 (blk_lt HK.out))
    have hB2 := below_via hb0 hb2
    clear q0 q1 q2 q3 hb2
    have q1 := blk_cell HK2.out 1
    have q2 := blk_cell HK2.out 2
    go_upto_region 20 with fail
    go_loopw [8, 7] (fun i y wr => ∃ k : Nat, 6 + l + (k : Int) ≤ t ∧ i = .int .i64 (6 + l + (k : Int)) ∧ y = .int .i64 (Z + (k : Int) * x) ∧ wr = w2) (fun i _ _ => 20 - (intOf i).toNat)
    case atStart => exact ⟨0, by omega, congrArg (Value.int .i64) (by omega), congrArg (Value.int .i64) (by rw [← hZ]; simp), rfl⟩
    case round =>
      obtain ⟨k, hk, rfl, rfl, rfl⟩ := hrel
      obtain ⟨h1, h2, h3⟩ := hst k (by omega)
      by_cases hkt : 6 + l + (k : Int) < t
      · obtain ⟨y2, hy2⟩ : ∃ y2, Z + ((k + 1 : Nat) : Int) * x = y2 := ⟨_, rfl⟩
        have Hy2 := Lib.hid hy2
        rw [hy2] at h1
        clear hy2
        generalize Z + (k : Int) * x = y at *
        go_wp2_with fail
        refine (HV.out _).mono ?_
        rintro ee wv ⟨rfl, rfl⟩
        go_wp2
        go_roundw
        case rel => exact ⟨k + 1, by omega, by go_num, by rw [Hy2.out, ← h1], by first | rfl | trivial⟩
        case measure => simp [intOf]; omega
      · have hkk : (k : Int) = t - (6 + l) := by omega
        have hM := HMZ.out k hkk
        have HMr := Lib.hid hM
        generalize Z + (k : Int) * x = y at *
        go_wp2
        go_ret
        first | exact ⟨rfl, hB2⟩ | exact ⟨(congrArg (fun n => Ending.returned (Value.int IntKind.i64 n)) hM).symm, hB2⟩
  · have bl6 : (l == 6) = false := beq_eq_false_iff_ne.2 h6
    have bl7 : (l == 7) = false := beq_eq_false_iff_ne.2 h7
    obtain rfl : (0 : Int) = b2 := by rw [← HB2.out, if_neg h6, if_neg h7]
    clear h6 h7
    have hE : eachI d 1 false = 100 := rfl
    rw [hE] at HM
    obtain ⟨Z, hZ⟩ : ∃ Z, c1 + 0 + 50 = Z := ⟨_, rfl⟩
    have hMZ : ∀ k : Nat, (k : Int) = t - (6 + l) → madeI l d 1 (t - (6 + l)) false = Z + (k : Int) * 100 := fun k hk => by rw [HM.out, hk, ← hZ]; rfl
    have HMZ := Lib.hid hMZ
    clear hMZ hE
    have hst : ∀ k : Nat, (k : Int) ≤ 7 → Z + (k : Int) * 100 + 100 = Z + ((k + 1 : Nat) : Int) * 100 ∧ 0 ≤ Z + (k : Int) * 100 ∧ Z + (k : Int) * 100 ≤ 8000 := fun k hk => by
      push_cast; omega
    go_wp2_with fail
    refine (HN.out _).mono ?_
    rintro ee w2 ⟨rfl, hb2⟩
    have HK2 := Lib.hid (blk_below HK.out hb2 (blk_lt HK.out))
    have hB2 := below_via hb0 hb2
    clear q0 q1 q2 q3 hb2
    have q1 := blk_cell HK2.out 1
    have q2 := blk_cell HK2.out 2
    go_upto_region 20 with fail
    go_loopw [8, 7] (fun i y wr => ∃ k : Nat, 6 + l + (k : Int) ≤ t ∧ i = .int .i64 (6 + l + (k : Int)) ∧ y = .int .i64 (Z + (k : Int) * 100) ∧ wr = w2) (fun i _ _ => 20 - (intOf i).toNat)
    case atStart => exact ⟨0, by omega, congrArg (Value.int .i64) (by omega), congrArg (Value.int .i64) (by rw [← hZ]; simp), rfl⟩
    case round =>
      obtain ⟨k, hk, rfl, rfl, rfl⟩ := hrel
      obtain ⟨h1, h2, h3⟩ := hst k (by omega)
      by_cases hkt : 6 + l + (k : Int) < t
      · obtain ⟨y2, hy2⟩ : ∃ y2, Z + ((k + 1 : Nat) : Int) * 100 = y2 := ⟨_, rfl⟩
        have Hy2 := Lib.hid hy2
        rw [hy2] at h1
        clear hy2
        generalize Z + (k : Int) * 100 = y at *
        go_wp2
        go_roundw
        case rel => exact ⟨k + 1, by omega, by go_num, by rw [Hy2.out, ← h1], by first | rfl | trivial⟩
        case measure => simp [intOf]; omega
      · have hkk : (k : Int) = t - (6 + l) := by omega
        have hM := HMZ.out k hkk
        have HMr := Lib.hid hM
        generalize Z + (k : Int) * 100 = y at *
        go_wp2
        go_ret
        first | exact ⟨rfl, hB2⟩ | exact ⟨(congrArg (fun n => Ending.returned (Value.int IntKind.i64 n)) hM).symm, hB2⟩
  · have bl6 : (l == 6) = false := beq_eq_false_iff_ne.2 h6
    have bl7 : (l == 7) = false := beq_eq_false_iff_ne.2 h7
    obtain rfl : (0 : Int) = b2 := by rw [← HB2.out, if_neg h6, if_neg h7]
    clear h6 h7
    have hE : eachI d 2 false = 200 := rfl
    rw [hE] at HM
    obtain ⟨Z, hZ⟩ : ∃ Z, c1 + 0 + 100 = Z := ⟨_, rfl⟩
    have hMZ : ∀ k : Nat, (k : Int) = t - (6 + l) → madeI l d 2 (t - (6 + l)) false = Z + (k : Int) * 200 := fun k hk => by rw [HM.out, hk, ← hZ]; rfl
    have HMZ := Lib.hid hMZ
    clear hMZ hE
    have hst : ∀ k : Nat, (k : Int) ≤ 7 → Z + (k : Int) * 200 + 200 = Z + ((k + 1 : Nat) : Int) * 200 ∧ 0 ≤ Z + (k : Int) * 200 ∧ Z + (k : Int) * 200 ≤ 8000 := fun k hk => by
      push_cast; omega
    go_wp2_with fail
    refine (HN.out _).mono ?_
    rintro ee w2 ⟨rfl, hb2⟩
    have HK2 := Lib.hid (blk_below HK.out hb2 (blk_lt HK.out))
    have hB2 := below_via hb0 hb2
    clear q0 q1 q2 q3 hb2
    have q1 := blk_cell HK2.out 1
    have q2 := blk_cell HK2.out 2
    go_upto_region 20 with fail
    go_loopw [8, 7] (fun i y wr => ∃ k : Nat, 6 + l + (k : Int) ≤ t ∧ i = .int .i64 (6 + l + (k : Int)) ∧ y = .int .i64 (Z + (k : Int) * 200) ∧ wr = w2) (fun i _ _ => 20 - (intOf i).toNat)
    case atStart => exact ⟨0, by omega, congrArg (Value.int .i64) (by omega), congrArg (Value.int .i64) (by rw [← hZ]; simp), rfl⟩
    case round =>
      obtain ⟨k, hk, rfl, rfl, rfl⟩ := hrel
      obtain ⟨h1, h2, h3⟩ := hst k (by omega)
      by_cases hkt : 6 + l + (k : Int) < t
      · obtain ⟨y2, hy2⟩ : ∃ y2, Z + ((k + 1 : Nat) : Int) * 200 = y2 := ⟨_, rfl⟩
        have Hy2 := Lib.hid hy2
        rw [hy2] at h1
        clear hy2
        generalize Z + (k : Int) * 200 = y at *
        go_wp2
        go_roundw
        case rel => exact ⟨k + 1, by omega, by go_num, by rw [Hy2.out, ← h1], by first | rfl | trivial⟩
        case measure => simp [intOf]; omega
      · have hkk : (k : Int) = t - (6 + l) := by omega
        have hM := HMZ.out k hkk
        have HMr := Lib.hid hM
        generalize Z + (k : Int) * 200 = y at *
        go_wp2
        go_ret
        first | exact ⟨rfl, hB2⟩ | exact ⟨(congrArg (fun n => Ending.returned (Value.int IntKind.i64 n)) hM).symm, hB2⟩
  · have bl6 : (l == 6) = false := beq_eq_false_iff_ne.2 h6
    have bl7 : (l == 7) = false := beq_eq_false_iff_ne.2 h7
    obtain rfl : (0 : Int) = b2 := by rw [← HB2.out, if_neg h6, if_neg h7]
    clear h6 h7
    have hE : eachI d 0 true = valI d := rfl
    rw [hE] at HM
    generalize valI d = x at HM HV hvd
    obtain ⟨Z, hZ⟩ : ∃ Z, c1 + 0 + 0 = Z := ⟨_, rfl⟩
    have hMZ : ∀ k : Nat, (k : Int) = t - (6 + l) → madeI l d 0 (t - (6 + l)) true = Z + (k : Int) * x := fun k hk => by rw [HM.out, hk, ← hZ]; rfl
    have HMZ := Lib.hid hMZ
    clear hMZ hE
    have hst : ∀ k : Nat, (k : Int) ≤ 7 → Z + (k : Int) * x + x = Z + ((k + 1 : Nat) : Int) * x ∧ 0 ≤ Z + (k : Int) * x ∧ Z + (k : Int) * x ≤ 8000 := fun k hk => by
      rcases hvd with rfl | rfl <;> (push_cast; omega)
    go_wp2_with fail
    refine (HN.out _).mono ?_
    rintro ee w2 ⟨rfl, hb2⟩
    have HK2 := Lib.hid (blk_below HK.out hb2 (blk_lt HK.out))
    have hB2 := below_via hb0 hb2
    clear q0 q1 q2 q3 hb2
    have q1 := blk_cell HK2.out 1
    have q2 := blk_cell HK2.out 2
    go_upto_region 20 with fail
    go_loopw [8, 7] (fun i y wr => ∃ k : Nat, 6 + l + (k : Int) ≤ t ∧ i = .int .i64 (6 + l + (k : Int)) ∧ y = .int .i64 (Z + (k : Int) * x) ∧ wr = w2) (fun i _ _ => 20 - (intOf i).toNat)
    case atStart => exact ⟨0, by omega, congrArg (Value.int .i64) (by omega), congrArg (Value.int .i64) (by rw [← hZ]; simp), rfl⟩
    case round =>
      obtain ⟨k, hk, rfl, rfl, rfl⟩ := hrel
      obtain ⟨h1, h2, h3⟩ := hst k (by omega)
      by_cases hkt : 6 + l + (k : Int) < t
      · obtain ⟨y2, hy2⟩ : ∃ y2, Z + ((k + 1 : Nat) : Int) * x = y2 := ⟨_, rfl⟩
        have Hy2 := Lib.hid hy2
        rw [hy2] at h1
        clear hy2
        generalize Z + (k : Int) * x = y at *
        go_wp2_with fail
        refine (HV.out _).mono ?_
        rintro ee wv ⟨rfl, rfl⟩
        go_wp2
        go_roundw
        case rel => exact ⟨k + 1, by omega, by go_num, by rw [Hy2.out, ← h1], by first | rfl | trivial⟩
        case measure => simp [intOf]; omega
      · have hkk : (k : Int) = t - (6 + l) := by omega
        have hM := HMZ.out k hkk
        have HMr := Lib.hid hM
        generalize Z + (k : Int) * x = y at *
        go_wp2
        go_ret
        first | exact ⟨rfl, hB2⟩ | exact ⟨(congrArg (fun n => Ending.returned (Value.int IntKind.i64 n)) hM).symm, hB2⟩
  · have bl6 : (l == 6) = false := beq_eq_false_iff_ne.2 h6
    have bl7 : (l == 7) = false := beq_eq_false_iff_ne.2 h7
    obtain rfl : (0 : Int) = b2 := by rw [← HB2.out, if_neg h6, if_neg h7]
    clear h6 h7
    have hE : eachI d 1 true = 200 := rfl
    rw [hE] at HM
    obtain ⟨Z, hZ⟩ : ∃ Z, c1 + 0 + 50 = Z := ⟨_, rfl⟩
    have hMZ : ∀ k : Nat, (k : Int) = t - (6 + l) → madeI l d 1 (t - (6 + l)) true = Z + (k : Int) * 200 := fun k hk => by rw [HM.out, hk, ← hZ]; rfl
    have HMZ := Lib.hid hMZ
    clear hMZ hE
    have hst : ∀ k : Nat, (k : Int) ≤ 7 → Z + (k : Int) * 200 + 200 = Z + ((k + 1 : Nat) : Int) * 200 ∧ 0 ≤ Z + (k : Int) * 200 ∧ Z + (k : Int) * 200 ≤ 8000 := fun k hk => by
      push_cast; omega
    go_wp2_with fail
    refine (HN.out _).mono ?_
    rintro ee w2 ⟨rfl, hb2⟩
    have HK2 := Lib.hid (blk_below HK.out hb2 (blk_lt HK.out))
    have hB2 := below_via hb0 hb2
    clear q0 q1 q2 q3 hb2
    have q1 := blk_cell HK2.out 1
    have q2 := blk_cell HK2.out 2
    go_upto_region 20 with fail
    go_loopw [8, 7] (fun i y wr => ∃ k : Nat, 6 + l + (k : Int) ≤ t ∧ i = .int .i64 (6 + l + (k : Int)) ∧ y = .int .i64 (Z + (k : Int) * 200) ∧ wr = w2) (fun i _ _ => 20 - (intOf i).toNat)
    case atStart => exact ⟨0, by omega, congrArg (Value.int .i64) (by omega), congrArg (Value.int .i64) (by rw [← hZ]; simp), rfl⟩
    case round =>
      obtain ⟨k, hk, rfl, rfl, rfl⟩ := hrel
      obtain ⟨h1, h2, h3⟩ := hst k (by omega)
      by_cases hkt : 6 + l + (k : Int) < t
      · obtain ⟨y2, hy2⟩ : ∃ y2, Z + ((k + 1 : Nat) : Int) * 200 = y2 := ⟨_, rfl⟩
        have Hy2 := Lib.hid hy2
        rw [hy2] at h1
        clear hy2
        generalize Z + (k : Int) * 200 = y at *
        go_wp2
        go_roundw
        case rel => exact ⟨k + 1, by omega, by go_num, by rw [Hy2.out, ← h1], by first | rfl | trivial⟩
        case measure => simp [intOf]; omega
      · have hkk : (k : Int) = t - (6 + l) := by omega
        have hM := HMZ.out k hkk
        have HMr := Lib.hid hM
        generalize Z + (k : Int) * 200 = y at *
        go_wp2
        go_ret
        first | exact ⟨rfl, hB2⟩ | exact ⟨(congrArg (fun n => Ending.returned (Value.int IntKind.i64 n)) hM).symm, hB2⟩
  · have bl6 : (l == 6) = false := beq_eq_false_iff_ne.2 h6
    have bl7 : (l == 7) = false := beq_eq_false_iff_ne.2 h7
    obtain rfl : (0 : Int) = b2 := by rw [← HB2.out, if_neg h6, if_neg h7]
    clear h6 h7
    have hE : eachI d 2 true = 400 := rfl
    rw [hE] at HM
    obtain ⟨Z, hZ⟩ : ∃ Z, c1 + 0 + 100 = Z := ⟨_, rfl⟩
    have hMZ : ∀ k : Nat, (k : Int) = t - (6 + l) → madeI l d 2 (t - (6 + l)) true = Z + (k : Int) * 400 := fun k hk => by rw [HM.out, hk, ← hZ]; rfl
    have HMZ := Lib.hid hMZ
    clear hMZ hE
    have hst : ∀ k : Nat, (k : Int) ≤ 7 → Z + (k : Int) * 400 + 400 = Z + ((k + 1 : Nat) : Int) * 400 ∧ 0 ≤ Z + (k : Int) * 400 ∧ Z + (k : Int) * 400 ≤ 8000 := fun k hk => by
      push_cast; omega
    go_wp2_with fail
    refine (HN.out _).mono ?_
    rintro ee w2 ⟨rfl, hb2⟩
    have HK2 := Lib.hid (blk_below HK.out hb2 (blk_lt HK.out))
    have hB2 := below_via hb0 hb2
    clear q0 q1 q2 q3 hb2
    have q1 := blk_cell HK2.out 1
    have q2 := blk_cell HK2.out 2
    go_upto_region 20 with fail
    go_loopw [8, 7] (fun i y wr => ∃ k : Nat, 6 + l + (k : Int) ≤ t ∧ i = .int .i64 (6 + l + (k : Int)) ∧ y = .int .i64 (Z + (k : Int) * 400) ∧ wr = w2) (fun i _ _ => 20 - (intOf i).toNat)
    case atStart => exact ⟨0, by omega, congrArg (Value.int .i64) (by omega), congrArg (Value.int .i64) (by rw [← hZ]; simp), rfl⟩
    case round =>
      obtain ⟨k, hk, rfl, rfl, rfl⟩ := hrel
      obtain ⟨h1, h2, h3⟩ := hst k (by omega)
      by_cases hkt : 6 + l + (k : Int) < t
      · obtain ⟨y2, hy2⟩ : ∃ y2, Z + ((k + 1 : Nat) : Int) * 400 = y2 := ⟨_, rfl⟩
        have Hy2 := Lib.hid hy2
        rw [hy2] at h1
        clear hy2
        generalize Z + (k : Int) * 400 = y at *
        go_wp2
        go_roundw
        case rel => exact ⟨k + 1, by omega, by go_num, by rw [Hy2.out, ← h1], by first | rfl | trivial⟩
        case measure => simp [intOf]; omega
      · have hkk : (k : Int) = t - (6 + l) := by omega
        have hM := HMZ.out k hkk
        have HMr := Lib.hid hM
        generalize Z + (k : Int) * 400 = y at *
        go_wp2
        go_ret
        first | exact ⟨rfl, hB2⟩ | exact ⟨(congrArg (fun n => Ending.returned (Value.int IntKind.i64 n)) hM).symm, hB2⟩

end Go.Proofs.YtilekdjjfdehcaaDoor
