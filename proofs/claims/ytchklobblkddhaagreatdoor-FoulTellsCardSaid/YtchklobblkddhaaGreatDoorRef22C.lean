/- The reference finesseref22: played, first, outcomes, share, Right. The reference finesseref22: outcomes, share, Right; Right is the program's. The reference finesseref22: Right. -/
import Derived.Test.YtchklobblkddhaaGreatDoorRef17S
import Derived.Test.YtchklobblkddhaaGreatDoorAdjAwardW
import Derived.Test.YtchklobblkddhaaGreatDoorAdjAwakeW
namespace Go.Proofs.YtchklobblkddhaaGreatDoor
open Go.RowKit

/-! ### The reference finesseref22: played, first, outcomes, share, Right. -/
theorem scB_zero (l d r s t : Int) : scB l d r s t 0 = resultC l d r s t := by unfold scB; simp
set_option maxRecDepth 100000 in
set_option maxHeartbeats 1000000 in
theorem r22played (x : Oc) (hx : OcOk x) (w : World) :
    Calls Tryz.prog 72 #[.agg #[.int .u8 x.l, .int .u8 x.d, .int .u8 x.r, .int .u8 x.s, .int .i64 x.t, .int .i64 x.w]] w fun e w' => e = .returned (.bool (outB x)) ∧ Below w.heap.size w w' := by
  have HS := Lib.hid (fun W => r17score_any x.l x.d x.r x.s x.t 0 hx.1 hx.2.1 hx.2.2.1 hx.2.2.2.1 (by omega) W)
  rw [scB_zero] at HS
  have e : outB x = resultC x.l x.d x.r x.s x.t := rfl
  rw [e]
  generalize resultC x.l x.d x.r x.s x.t = N at HS
  obtain ⟨x1, x2, x3, x4, x5, x6⟩ := x
  dsimp only at HS
  generalize scoreI x1 x2 x3 x4 x5 0 = z at HS
  clear hx e
  go_enter Tryz.func72, Tryz.ntmps72
  go_wp2_with fail
  refine (HS.out _).mono ?_
  rintro ee w1 ⟨rfl, hb1⟩
  have hb0 := below_box hb1
  clear hb1
  cases N
  all_goals
    go_wp2
    go_ret
    exact ⟨rfl, hb0⟩

/-- The first n outcomes are played out, with or without weights, the others are zero. -/
def goodB (o : Nat → Oc) (n : Nat) (wt : Bool) (i : Nat) : Bool := if n ≤ i then zB (o i) else if wt then okW (o i) else wholeB (o i)
def firstB (o : Nat → Oc) (n : Nat) (wt : Bool) : Bool := (List.range 4).all fun i => goodB o n wt i
theorem firstB_iff (o : Nat → Oc) (n : Nat) (wt : Bool) : firstB o n wt = true ↔ ∀ i, i < 4 → goodB o n wt i = true := by
  unfold firstB
  rw [List.all_eq_true]
  exact ⟨fun h i hi => h i (List.mem_range.2 hi), fun h i hi => h i (List.mem_range.1 hi)⟩

set_option maxRecDepth 100000 in
set_option maxHeartbeats 2000000 in
theorem r22first (C : Array Value) (k f a0 a1 : Int) (o : Nat → Oc) (n : Nat) (wt : Bool) (hC : EnC C k f o a0 a1) (ho : ∀ i, i < 4 → OcOk (o i)) (w : World) :
    Calls Tryz.prog 53 #[.agg C, .int .i64 (n : Int), .bool wt] w fun e w' => e = .returned (.bool (firstB o n wt)) ∧ Below w.heap.size w w' := by
  obtain ⟨N, hN⟩ : ∃ N, firstB o n wt = N := ⟨_, rfl⟩
  rw [hN]
  have HN := Lib.hid hN
  have HC := Lib.hid hC
  have HOk := Lib.hid ho
  have HBad := Lib.hid (show ∀ i, i < 4 → goodB o n wt i = false → false = N from fun i hi hg => by
    rw [← HN.out]
    cases hq : firstB o n wt with
    | false => rfl
    | true => rw [(firstB_iff o n wt).1 hq i hi] at hg; cases hg)
  clear hN hC ho
  go_enter Tryz.func53, Tryz.ntmps53
  go_upto_region 1 with fail
  obtain ⟨W1, hW1⟩ : ∃ W1, w.alloc (.cells C 51) = W1 := ⟨_, rfl⟩
  obtain ⟨g, hg⟩ : ∃ g, w.heap.size = g := ⟨_, rfl⟩
  have k1 : W1.heap[g]? = some (.cells C 51) := by rw [← hW1]; exact blk_new _ hg.symm
  have hB1 : Below w.heap.size w W1 := by rw [← hW1]; exact (by repeat (first | exact Below.refl _ _ | assumption | refine Below.drew ?_ | refine below_drewN ?_ _ | refine Below.alloc ?_ (by first | omega | (simp; done) | (simp; omega)) _ | refine Below.setCell ?_ (by first | omega | (simp; done) | (simp; omega)) _))
  rw [hW1, hg]
  have HK := Lib.hid k1
  clear hW1 k1 hg
  go_wp2
  go_loopw [7] (fun i wr => ∃ j : Nat, j ≤ 4 ∧ i = .int .i64 (j : Int) ∧ Hid (∀ i, i < j → goodB o n wt i = true) ∧ Hid (wr.heap[g]? = some (.cells C 51 (0, 0))) ∧ Below w.heap.size w wr) (fun i _ => 4 - (intOf i).toNat)
  case atStart => exact ⟨0, by omega, rfl, (fun i h => by omega : ∀ i, i < 0 → goodB o n wt i = true), HK.out, hB1⟩
  case round =>
    clear HK hB1
    obtain ⟨j, hj, rfl, hz, HK, hB⟩ := hrel
    rename World => wx
    by_cases hlt : j < 4
    · obtain ⟨d0, d1, d2, d3, d4, d5⟩ := HC.out.2.2.2.2.2 j hlt
      have e0 := (blk_cell HK.out (7 + j * 6)).trans d0
      have e1 := (blk_cell HK.out (7 + j * 6 + 1)).trans d1
      have e2 := (blk_cell HK.out (7 + j * 6 + 2)).trans d2
      have e3 := (blk_cell HK.out (7 + j * 6 + 3)).trans d3
      have e4 := (blk_cell HK.out (7 + j * 6 + 4)).trans d4
      have e5 := (blk_cell HK.out (7 + j * 6 + 5)).trans d5
      have hox := HOk.out j hlt
      have HP := Lib.hid (fun W => r22played (o j) hox W)
      have HG := Lib.hid (show goodB o n wt j = if n ≤ j then zB (o j) else if wt then okW (o j) else wholeB (o j) from rfl)
      have HX := Lib.hid (show zB (o j) = decide ((o j).l = 0 ∧ (o j).d = 0 ∧ (o j).r = 0 ∧ (o j).s = 0 ∧ (o j).t = 0 ∧ (o j).w = 0) from rfl)
      have HY := Lib.hid (show okW (o j) = (outB (o j) && decide (1 ≤ (o j).w) && decide ((o j).w ≤ 100)) from rfl)
      have HV := Lib.hid (show wholeB (o j) = (outB (o j) && decide ((o j).w = 0)) from rfl)
      clear d0 d1 d2 d3 d4 d5 hox
      generalize zB (o j) = bz at *
      generalize okW (o j) = bo at *
      generalize wholeB (o j) = bw at *
      generalize outB (o j) = P at *
      generalize o j = x at *
      obtain ⟨x1, x2, x3, x4, x5, x6⟩ := x
      dsimp only at e0 e1 e2 e3 e4 e5 HX HY HV HP
      have c3 : (0 : Int) ≤ (j : Int) := by omega
      have c4 : (j : Int) < 4 := by omega
      go_upto_region 5 with fail
      obtain ⟨W2, hW2⟩ : ∃ W, wx.alloc (.cells #[.int .u8 x1, .int .u8 x2, .int .u8 x3, .int .u8 x4, .int .i64 x5, .int .i64 x6] 47) = W := ⟨_, rfl⟩
      obtain ⟨gx, hgx⟩ : ∃ g, wx.heap.size = g := ⟨_, rfl⟩
      have hb : Below wx.heap.size wx W2 := by rw [← hW2]; exact (Below.refl _ _).alloc (Nat.le_refl _) _
      have M := Lib.hid (show W2.heap[gx]? = some (.cells #[.int .u8 x1, .int .u8 x2, .int .u8 x3, .int .u8 x4, .int .i64 x5, .int .i64 x6] 47) by rw [← hW2]; exact blk_new _ hgx.symm)
      rw [hW2, hgx]
      clear hW2 hgx e0 e1 e2 e3 e4 e5
      replace hB := below_via hB hb
      replace HK := Lib.hid (blk_below HK.out hb (blk_lt HK.out))
      clear hb
      have HNx := Lib.hid (show goodB o n wt j = true → ∀ i, i < j + 1 → goodB o n wt i = true from fun hg i hi => by
        by_cases h : i < j
        · exact hz.out i h
        · obtain rfl : i = j := by omega
          exact hg)
      have m0 := blk_cell M.out 0
      have m1 := blk_cell M.out 1
      have m2 := blk_cell M.out 2
      have m3 := blk_cell M.out 3
      have m4 := blk_cell M.out 4
      have m5 := blk_cell M.out 5
      by_cases hnj : n ≤ j
      · have c5 : (n : Int) ≤ (j : Int) := by omega
        have HG2 := Lib.hid (HG.out.trans ((if_pos hnj).trans HX.out))
        clear HG HX HY HV HP
        by_cases hzz : x1 = 0 ∧ x2 = 0 ∧ x3 = 0 ∧ x4 = 0 ∧ x5 = 0 ∧ x6 = 0
        · have Hg := Lib.hid (HNx.out (HG2.out.trans (decide_eq_true hzz)))
          obtain ⟨rfl, rfl, rfl, rfl, rfl, rfl⟩ := hzz
          go_wp2
          go_roundw
          case rel => exact ⟨j + 1, by omega, by go_num, Hg.out, HK.out, hB⟩
          case measure => simp [intOf]; omega
        · obtain rfl := HBad.out j hlt (HG2.out.trans (decide_eq_false hzz))
          have HZ := Lib.hid hzz
          clear hzz
          go_wp2
          all_goals first
            | exact absurd ⟨by assumption, by assumption, by assumption, by assumption, by assumption, by assumption⟩ HZ.out
            | (go_ret; exact ⟨rfl, hB⟩)
      · have c5 : ¬ (n : Int) ≤ (j : Int) := by omega
        have HG2 := Lib.hid (HG.out.trans (if_neg hnj))
        clear HG HX
        go_wp2_with fail
        refine (HP.out _).mono ?_
        rintro ee w3 ⟨rfl, hb⟩
        replace hB := below_via hB hb
        replace HK := Lib.hid (blk_below HK.out hb (blk_lt HK.out))
        replace M := Lib.hid (blk_below M.out hb (blk_lt M.out))
        clear hb HP m0 m1 m2 m3 m4 m5
        have m5 := blk_cell M.out 5
        have hcs : P = false ∨ (P = true ∧ wt = true ∧ x6 < 1) ∨ (P = true ∧ wt = true ∧ ¬ x6 < 1 ∧ 100 < x6) ∨ (P = true ∧ wt = true ∧ ¬ x6 < 1 ∧ ¬ 100 < x6) ∨ (P = true ∧ wt = false ∧ x6 = 0) ∨ (P = true ∧ wt = false ∧ ¬ x6 = 0) := by
          cases P <;> cases wt <;> simp <;> omega
        rcases hcs with rfl | ⟨rfl, rfl, h1⟩ | ⟨rfl, rfl, h1, h2⟩ | ⟨rfl, rfl, h1, h2⟩ | ⟨rfl, rfl, h1⟩ | ⟨rfl, rfl, h1⟩
        · obtain rfl := HBad.out j hlt (HG2.out.trans (by rw [HY.out, HV.out]; cases wt <;> rfl))
          clear HG2 HY HV
          go_wp2
          go_ret
          exact ⟨rfl, hB⟩
        · obtain rfl := HBad.out j hlt (HG2.out.trans (by rw [if_pos rfl, HY.out, decide_eq_false (show ¬ 1 ≤ x6 by omega)]; rfl))
          clear HG2 HY HV
          go_wp2
          go_ret
          exact ⟨rfl, hB⟩
        · obtain rfl := HBad.out j hlt (HG2.out.trans (by rw [if_pos rfl, HY.out, decide_eq_false (show ¬ x6 ≤ 100 by omega)]; simp))
          clear HG2 HY HV
          go_wp2
          go_ret
          exact ⟨rfl, hB⟩
        · have Hg := Lib.hid (HNx.out (HG2.out.trans (by rw [if_pos rfl, HY.out, decide_eq_true (show 1 ≤ x6 by omega), decide_eq_true (show x6 ≤ 100 by omega)]; rfl)))
          clear HG2 HY HV
          go_wp2
          go_roundw
          case rel => exact ⟨j + 1, by omega, by go_num, Hg.out, HK.out, hB⟩
          case measure => simp [intOf]; omega
        · subst h1
          have Hg := Lib.hid (HNx.out (HG2.out.trans (by rw [if_neg (by decide), HV.out]; rfl)))
          clear HG2 HY HV
          go_wp2
          go_roundw
          case rel => exact ⟨j + 1, by omega, by go_num, Hg.out, HK.out, hB⟩
          case measure => simp [intOf]; omega
        · have t6 : (x6 == 0) = false := beq_eq_false_iff_ne.2 h1
          obtain rfl := HBad.out j hlt (HG2.out.trans (by rw [if_neg (by decide), HV.out, decide_eq_false h1]; rfl))
          clear HG2 HY HV
          go_wp2
          go_ret
          exact ⟨rfl, hB⟩
    · obtain rfl : j = 4 := by omega
      obtain rfl : true = N := by rw [← HN.out]; exact ((firstB_iff o n wt).2 (fun i hi => hz.out i hi)).symm
      go_wp2
      go_ret
      exact ⟨rfl, hB⟩

/-! ### The reference finesseref22: outcomes, share, Right; Right is the program's. -/
def condO (o : Nat → Oc) (n : Nat) : Bool := firstB o n true && decide (wSum o n = 100)
/-- How many outcomes have weights that add up to 100. -/
def outcN (o : Nat → Oc) : Nat := if condO o 2 then 2 else if condO o 3 then 3 else if condO o 4 then 4 else 0
theorem outcN_some (o : Nat → Oc) (n : Nat) (h2 : 2 ≤ n) (h4 : n ≤ 4) (hb : ∀ m, 2 ≤ m → m < n → condO o m = false) (h : condO o n = true) : outcN o = n := by
  unfold outcN
  rcases (show n = 2 ∨ n = 3 ∨ n = 4 by omega) with rfl | rfl | rfl
  · rw [if_pos h]
  · rw [if_neg (by rw [hb 2 (by omega) (by omega)]; decide), if_pos h]
  · rw [if_neg (by rw [hb 2 (by omega) (by omega)]; decide), if_neg (by rw [hb 3 (by omega) (by omega)]; decide), if_pos h]
theorem outcN_none (o : Nat → Oc) (hb : ∀ m, 2 ≤ m → m < 5 → condO o m = false) : outcN o = 0 := by
  unfold outcN
  rw [if_neg (by rw [hb 2 (by omega) (by omega)]; decide), if_neg (by rw [hb 3 (by omega) (by omega)]; decide), if_neg (by rw [hb 4 (by omega) (by omega)]; decide)]
theorem outcN_le (o : Nat → Oc) : outcN o ≤ 4 := by unfold outcN; (repeat' split) <;> omega
theorem okW_w2 {x : Oc} (h : okW x = true) : 1 ≤ x.w := of_decide_eq_true (Bool.and_eq_true_iff.1 (Bool.and_eq_true_iff.1 h).1).2
theorem first_w {o : Nat → Oc} {n : Nat} (h : firstB o n true = true) (i : Nat) (hi : i < n) (h4 : i < 4) : okW (o i) = true := by
  have := (firstB_iff o n true).1 h i h4
  unfold goodB at this
  rw [if_neg (by omega), if_pos rfl] at this
  exact this

set_option maxRecDepth 100000 in
set_option maxHeartbeats 2000000 in
theorem r22outcomes (C : Array Value) (k f a0 a1 : Int) (o : Nat → Oc) (hC : EnC C k f o a0 a1) (ho : ∀ i, i < 4 → OcOk (o i)) (w : World) :
    Calls Tryz.prog 54 #[.agg C] w fun e w' => e = .returned (.int .i64 (outcN o : Int)) ∧ Below w.heap.size w w' := by
  obtain ⟨N, hN⟩ : ∃ N, outcN o = N := ⟨_, rfl⟩
  rw [hN]
  have HN := Lib.hid hN
  have HC := Lib.hid hC
  have HI := Lib.hid hC.size
  have HF := Lib.hid (fun n W => r22first C k f a0 a1 o n true hC ho W)
  clear hN hC ho
  go_enter Tryz.func54, Tryz.ntmps54
  go_upto_region 1 with fail
  obtain ⟨W1, hW1⟩ : ∃ W1, w.alloc (.cells C 51) = W1 := ⟨_, rfl⟩
  obtain ⟨g, hg⟩ : ∃ g, w.heap.size = g := ⟨_, rfl⟩
  have HK := Lib.hid (show W1.heap[g]? = some (.cells C 51 (0, 0)) by rw [← hW1]; exact blk_new _ hg.symm)
  have hB : Below w.heap.size w W1 := by rw [← hW1]; exact (by repeat (first | exact Below.refl _ _ | assumption | refine Below.drew ?_ | refine below_drewN ?_ _ | refine Below.alloc ?_ (by first | omega | (simp; done) | (simp; omega)) _ | refine Below.setCell ?_ (by first | omega | (simp; done) | (simp; omega)) _))
  rw [hW1, hg]
  clear hW1 hg
  go_wp2_with fail
  go_loopw [3] (fun i wr => ∃ n : Nat, 2 ≤ n ∧ n ≤ 5 ∧ i = .int .i64 (n : Int) ∧ Hid (∀ m, 2 ≤ m → m < n → condO o m = false) ∧ Hid (wr.heap[g]? = some (.cells C 51 (0, 0))) ∧ Below w.heap.size w wr) (fun i _ => 5 - (intOf i).toNat)
  case atStart => exact ⟨2, by omega, by omega, rfl, (fun m h1 h2 => by omega : ∀ m, 2 ≤ m → m < 2 → condO o m = false), HK.out, hB⟩
  case round =>
    clear HK hB
    obtain ⟨n, h2, h5, rfl, hz, HK, hB⟩ := hrel
    rename World => wx
    by_cases hlt : n ≤ 4
    · have c0 : (n : Int) ≤ 4 := by omega
      have HFn := Lib.hid (HF.out n)
      have HCo := Lib.hid (show condO o n = (firstB o n true && decide (wSum o n = 100)) from rfl)
      have HNx := Lib.hid (show condO o n = false → ∀ m, 2 ≤ m → m < n + 1 → condO o m = false from fun hc m h1 h2 => by
        by_cases h : m < n
        · exact hz.out m h1 h
        · obtain rfl : m = n := by omega
          exact hc)
      have Hsm := Lib.hid (show condO o n = true → n = N from fun hc => by rw [← HN.out, outcN_some o n h2 hlt hz.out hc])
      have Hbd := Lib.hid (show firstB o n true = true → ∀ i, i < n → 1 ≤ (o i).w ∧ (o i).w ≤ 100 from fun hf i hi => by
        have h := first_w hf i hi (by omega)
        exact ⟨okW_w2 h, of_decide_eq_true (Bool.and_eq_true_iff.1 h).2⟩)
      generalize condO o n = cn at HCo HNx Hsm
      generalize firstB o n true = fb at HFn HCo Hbd
      go_wp2_with (refine wpList_load_row rfl 51 (.tmp 1) rfl g rfl 51 C _ _ HK.out Tryz.underlying51 rfl HI.out ?_)
      refine (HFn.out _).mono ?_
      rintro ee w3 ⟨rfl, hb⟩
      replace hB := below_via hB hb
      replace HK := Lib.hid (blk_below HK.out hb (blk_lt HK.out))
      clear hb HFn
      cases fb
      · have Hc := Lib.hid (HNx.out (HCo.out.trans rfl))
        clear HCo HNx Hsm
        go_wp2
        go_roundw
        case rel => exact ⟨n + 1, by omega, by omega, by go_num, Hc.out, HK.out, hB⟩
        case measure => simp [intOf]; omega
      · have hbd := Hbd.out rfl
        have HBd := Lib.hid hbd
        clear hbd
        go_wp2_with fail
        go_loopw [5, 4] (fun i q wr => ∃ m : Nat, m ≤ n ∧ i = .int .i64 (m : Int) ∧ q = .int .i64 (wSum o m) ∧ 0 ≤ wSum o m ∧ wSum o m ≤ 100 * (m : Int) ∧ wr = w3) (fun i _ _ => n - (intOf i).toNat)
        case atStart => exact ⟨0, by omega, rfl, rfl, by show (0 : Int) ≤ 0; omega, by show (0 : Int) ≤ _; omega, rfl⟩
        case round =>
          obtain ⟨m, hm, rfl, rfl, hs0, hs1, rfl⟩ := hrel
          by_cases hmn : m < n
          · obtain ⟨d0, d1, d2, d3, d4, d5⟩ := HC.out.2.2.2.2.2 m (by omega)
            have e5 := (blk_cell HK.out (7 + m * 6 + 5)).trans d5
            have hwb := HBd.out m hmn
            have Hs := Lib.hid (show wSum o (m + 1) = wSum o m + (o m).w from rfl)
            generalize (o m).w = ww at e5 hwb Hs
            generalize wSum o m = q at hs0 hs1 Hs ⊢
            have c1 : (m : Int) < (n : Int) := by omega
            have c2 : (m : Int) < 4 := by omega
            have c3 : (0 : Int) ≤ (m : Int) := by omega
            clear d0 d1 d2 d3 d4 d5
            go_wp2
            go_roundw
            case rel => exact ⟨m + 1, by omega, by go_num, int_eq Hs.out.symm, by rw [Hs.out]; omega, by rw [Hs.out]; omega, by first | rfl | trivial⟩
            case measure => simp [intOf]; omega
          · obtain rfl : m = n := by omega
            by_cases hsum : wSum o m = 100
            · have hN := Hsm.out (by rw [HCo.out, decide_eq_true hsum]; rfl)
              have HNe := Lib.hid hN
              rw [hsum]
              clear hsum hs0 hs1 HCo HNx Hsm hN
              go_wp2
              go_ret
              exact ⟨by rw [HNe.out]; rfl, hB⟩
            · have Hc := Lib.hid (HNx.out (by rw [HCo.out, decide_eq_false hsum]; rfl))
              have t1 : (wSum o m == 100) = false := beq_eq_false_iff_ne.2 hsum
              generalize wSum o m = q at t1 ⊢
              clear hsum hs0 hs1 HCo HNx Hsm
              go_wp2
              go_roundw
              case rel => exact ⟨m + 1, by omega, by omega, by go_num, Hc.out, HK.out, hB⟩
              case measure => simp [intOf]; omega
    · obtain rfl : n = 5 := by omega
      obtain rfl : 0 = N := by rw [← HN.out]; exact (outcN_none o hz.out).symm
      go_wp2
      go_ret
      exact ⟨rfl, hB⟩

set_option maxHeartbeats 1000000 in
theorem r22share (n : Int) (w : World) : Calls Tryz.prog 55 #[.int .i64 n] w fun e w' => e = .returned (.bool (shareB n)) ∧ w = w' := by
  by_cases h : n = 0 ∨ n = 30 ∨ n = 40 ∨ n = 50 ∨ n = 60 ∨ n = 70 ∨ n = 100
  · rcases h with rfl | rfl | rfl | rfl | rfl | rfl | rfl
    all_goals
      rw [show shareB _ = true by decide]
      go_enter Tryz.func55, Tryz.ntmps55
      go_wp2
      go_ret
      exact ⟨rfl, rfl⟩
  · rw [show shareB n = false from decide_eq_false h]
    have t0 : (n == 0) = false := beq_eq_false_iff_ne.2 (fun e => h (by omega))
    have t1 : (n == 30) = false := beq_eq_false_iff_ne.2 (fun e => h (by omega))
    have t2 : (n == 40) = false := beq_eq_false_iff_ne.2 (fun e => h (by omega))
    have t3 : (n == 50) = false := beq_eq_false_iff_ne.2 (fun e => h (by omega))
    have t4 : (n == 60) = false := beq_eq_false_iff_ne.2 (fun e => h (by omega))
    have t5 : (n == 70) = false := beq_eq_false_iff_ne.2 (fun e => h (by omega))
    have t6 : (n == 100) = false := beq_eq_false_iff_ne.2 (fun e => h (by omega))
    clear h
    go_enter Tryz.func55, Tryz.ntmps55
    go_wp2
    go_ret
    exact ⟨rfl, rfl⟩

/-- Right is the program's. -/
theorem first_none (o : Nat → Oc) : firstB o 0 false = restB o 0 := by
  rw [Bool.eq_iff_iff, firstB_iff, restB_iff]
  unfold goodB
  exact ⟨fun h i hi _ => by have := h i hi; rwa [if_pos (by omega)] at this, fun h i hi => by rw [if_pos (by omega)]; exact h i hi (by omega)⟩
theorem first_one (o : Nat → Oc) : firstB o 1 false = (wholeB (o 0) && restB o 1) := by
  rw [Bool.eq_iff_iff, firstB_iff, Bool.and_eq_true, restB_iff]
  unfold goodB
  refine ⟨fun h => ⟨by have := h 0 (by omega); rwa [if_neg (by omega), if_neg (by decide)] at this, fun i hi h1 => by have := h i hi; rwa [if_pos h1] at this⟩, fun h i hi => ?_⟩
  by_cases h0 : i = 0
  · subst h0; rw [if_neg (by omega), if_neg (by decide)]; exact h.1
  · rw [if_pos (by omega)]; exact h.2 i hi (by omega)
theorem first_two (o : Nat → Oc) : firstB o 2 false = (wholeB (o 0) && wholeB (o 1) && restB o 2) := by
  rw [Bool.eq_iff_iff, firstB_iff, Bool.and_eq_true, Bool.and_eq_true, restB_iff]
  unfold goodB
  refine ⟨fun h => ⟨⟨by have := h 0 (by omega); rwa [if_neg (by omega), if_neg (by decide)] at this, by have := h 1 (by omega); rwa [if_neg (by omega), if_neg (by decide)] at this⟩, fun i hi h1 => by have := h i hi; rwa [if_pos h1] at this⟩, fun h i hi => ?_⟩
  by_cases h0 : i < 2
  · rw [if_neg (by omega), if_neg (by decide)]
    rcases (show i = 0 ∨ i = 1 by omega) with rfl | rfl
    · exact h.1.1
    · exact h.1.2
  · rw [if_pos (by omega)]; exact h.2 i hi (by omega)
/-- Where the first n outcomes have weights and the others are zero, n have a weight. -/
theorem first_parts {o : Nat → Oc} {n : Nat} (h4 : n ≤ 4) (h : firstB o n true = true) : partsN o = n := by
  have hw : ∀ i, i < n → (o i).w ≠ 0 := fun i hi => by have := okW_w2 (first_w h i hi (by omega)); omega
  have hp : ∀ j, j ≤ n → partsTo o j = j := fun j => by
    induction j with
    | zero => intro _; rfl
    | succ j ih => intro hj; exact parts_next o j (ih (by omega)) (hw j (by omega))
  by_cases h0 : n = 4
  · subst h0; exact hp 4 (Nat.le_refl _)
  · have hz : (o n).w = 0 := by
      have := (firstB_iff o n true).1 h n (by omega)
      unfold goodB at this
      rw [if_pos (Nat.le_refl _)] at this
      exact (of_decide_eq_true (show decide _ = true from this)).2.2.2.2.2
    have := parts_stop o n (hp n (Nat.le_refl _)) hz (4 - n)
    rwa [show n + (4 - n) = 4 by omega] at this
theorem first_of {o : Nat → Oc} {n : Nat} (h1 : allW o n = true) (h2 : restB o n = true) : firstB o n true = true := by
  rw [firstB_iff]
  intro i hi
  unfold goodB
  by_cases h : n ≤ i
  · rw [if_pos h]; exact (restB_iff o n).1 h2 i hi h
  · rw [if_neg h, if_pos rfl]; exact (allW_iff o n).1 h1 i (by omega)
/-- The outcomes have weights that add up to 100, and are from two to four. -/
def sumB (o : Nat → Oc) : Bool := allW o (partsN o) && (decide (2 ≤ partsN o) && decide (wSum o (partsN o) = 100) && restB o (partsN o))
theorem outc_parts (o : Nat → Oc) (h : 0 < outcN o) : outcN o = partsN o ∧ sumB o = true := by
  have key : ∀ n, 2 ≤ n → n ≤ 4 → condO o n = true → n = partsN o ∧ sumB o = true := fun n h2 h4 hc => by
    obtain ⟨c1, c2⟩ := Bool.and_eq_true_iff.1 hc
    have e := first_parts h4 c1
    refine ⟨e.symm, ?_⟩
    unfold sumB
    rw [e, c2, decide_eq_true h2, (allW_iff o n).2 (fun i hi => first_w c1 i hi (by omega)), (restB_iff o n).2 (fun i hi hn => by
      have := (firstB_iff o n true).1 c1 i hi
      unfold goodB at this
      rwa [if_pos hn] at this)]
    rfl
  unfold outcN at h ⊢
  by_cases h2 : condO o 2 = true
  · rw [if_pos h2]; exact key 2 (by omega) (by omega) h2
  · rw [if_neg h2] at h ⊢
    by_cases h3 : condO o 3 = true
    · rw [if_pos h3]; exact key 3 (by omega) (by omega) h3
    · rw [if_neg h3] at h ⊢
      by_cases h4 : condO o 4 = true
      · rw [if_pos h4]; exact key 4 (by omega) (by omega) h4
      · rw [if_neg h4] at h; omega
theorem outc_sum (o : Nat → Oc) (h : sumB o = true) : 0 < outcN o := by
  obtain ⟨h1, h2⟩ := Bool.and_eq_true_iff.1 h
  obtain ⟨h3, h4⟩ := Bool.and_eq_true_iff.1 h2
  obtain ⟨h5, h6⟩ := Bool.and_eq_true_iff.1 h3
  have h7 := of_decide_eq_true h5
  have hle : partsN o ≤ 4 := parts_le o 4
  have hc : condO o (partsN o) = true := by
    unfold condO
    rw [first_of h1 h4, h6]; rfl
  unfold outcN
  rcases (show partsN o = 2 ∨ partsN o = 3 ∨ partsN o = 4 by omega) with e | e | e <;> rw [e] at hc
  · rw [if_pos hc]; decide
  · split
    · decide
    · first | (rw [if_pos hc]; decide) | decide
  · split
    · decide
    · split
      · decide
      · first | (rw [if_pos hc]; decide) | decide
theorem outc_dec (o : Nat → Oc) : decide (0 < outcN o) = sumB o := by
  rw [Bool.eq_iff_iff, decide_eq_true_iff]
  exact ⟨fun h => (outc_parts o h).2, outc_sum o⟩
theorem weighted_sum (o : Nat → Oc) (a0 a1 : Int) : weightedB o a0 a1 = (sumB o && decide (a0 = 0 ∧ a1 = 0)) := by
  unfold weightedB sumB
  simp only [Bool.and_assoc]
/-- What the reference tests. -/
def rightR (k f : Int) (o : Nat → Oc) (a0 a1 : Int) : Bool :=
  decide (f ≤ 3) && (if k = 4 then (firstB o 0 false && shareB a0 && shareB a1) else decide (a0 = 0 ∧ a1 = 0) && (if k = 0 then firstB o 0 false else if k = 1 then firstB o 1 false else if k = 2 then decide (0 < outcN o) else if k = 3 then firstB o 2 false else false))
theorem rightR_eq (k f : Int) (o : Nat → Oc) (a0 a1 : Int) : rightR k f o a0 a1 = rightE k f o a0 a1 := by
  unfold rightR rightE
  congr 1
  rw [first_none, first_one, first_two, outc_dec]
  by_cases k4 : k = 4
  · rw [if_pos k4, if_neg (by omega), if_neg (by omega), if_neg (by omega), if_neg (by omega), if_pos k4]
    unfold awardB
    rw [Bool.and_assoc, Bool.and_comm]
  rw [if_neg k4]
  by_cases k0 : k = 0
  · rw [if_pos k0, if_pos k0]; unfold voidB; rw [Bool.and_comm]
  rw [if_neg k0, if_neg k0]
  by_cases k1 : k = 1
  · rw [if_pos k1, if_pos k1]; unfold playedB; rw [Bool.and_comm]
  rw [if_neg k1, if_neg k1]
  by_cases k2 : k = 2
  · rw [if_pos k2, if_pos k2, weighted_sum, Bool.and_comm]
  rw [if_neg k2, if_neg k2]
  by_cases k3 : k = 3
  · rw [if_pos k3, if_pos k3]; unfold splitB; rw [Bool.and_comm]
  · rw [if_neg k3, if_neg k3, if_neg k4, Bool.and_comm]; rfl

/-! ### The reference finesseref22: Right. -/
set_option maxRecDepth 100000 in
set_option maxHeartbeats 2000000 in
theorem r22right (C : Array Value) (k f a0 a1 : Int) (o : Nat → Oc) (hC : EnC C k f o a0 a1) (ho : ∀ i, i < 4 → OcOk (o i)) (hf : 0 ≤ f ∧ f ≤ 255) (hk : 0 ≤ k ∧ k ≤ 255) (w : World) :
    Calls Tryz.prog 32 #[.agg C] w fun e w' => e = .returned (.bool (rightE k f o a0 a1)) ∧ Below w.heap.size w w' := by
  rw [← rightR_eq]
  have HR := Lib.hid (show rightR k f o a0 a1 = (decide (f ≤ 3) && (if k = 4 then (firstB o 0 false && shareB a0 && shareB a1) else decide (a0 = 0 ∧ a1 = 0) && (if k = 0 then firstB o 0 false else if k = 1 then firstB o 1 false else if k = 2 then decide (0 < outcN o) else if k = 3 then firstB o 2 false else false))) from rfl)
  obtain ⟨N, hN⟩ : ∃ N, rightR k f o a0 a1 = N := ⟨_, rfl⟩
  rw [hN] at HR ⊢
  have HI := Lib.hid hC.size
  have H0 := Lib.hid (fun W => (show Calls Tryz.prog 53 #[.agg C, .int .i64 0, .bool false] W _ from r22first C k f a0 a1 o 0 false hC ho W))
  have H1 := Lib.hid (fun W => (show Calls Tryz.prog 53 #[.agg C, .int .i64 1, .bool false] W _ from r22first C k f a0 a1 o 1 false hC ho W))
  have H2 := Lib.hid (fun W => (show Calls Tryz.prog 53 #[.agg C, .int .i64 2, .bool false] W _ from r22first C k f a0 a1 o 2 false hC ho W))
  have HO := Lib.hid (fun W => r22outcomes C k f a0 a1 o hC ho W)
  have S0 := Lib.hid (fun W => r22share a0 W)
  have S1 := Lib.hid (fun W => r22share a1 W)
  obtain ⟨-, c4, c5, c31, c32, -⟩ := hC
  generalize firstB o 0 false = b0 at *
  generalize firstB o 1 false = b1 at *
  generalize firstB o 2 false = b2 at *
  generalize outcN o = on at *
  generalize shareB a0 = s0 at *
  generalize shareB a1 = s1 at *
  clear hN ho
  go_enter Tryz.func32, Tryz.ntmps32
  go_upto_region 1 with fail
  obtain ⟨W1, hW1⟩ : ∃ W1, w.alloc (.cells C 51) = W1 := ⟨_, rfl⟩
  obtain ⟨g, hg⟩ : ∃ g, w.heap.size = g := ⟨_, rfl⟩
  have k1 : W1.heap[g]? = some (.cells C 51 (0, 0)) := by rw [← hW1]; exact blk_new _ hg.symm
  have HK := Lib.hid k1
  have hB : Below w.heap.size w W1 := by rw [← hW1]; exact (by repeat (first | exact Below.refl _ _ | assumption | refine Below.drew ?_ | refine below_drewN ?_ _ | refine Below.alloc ?_ (by first | omega | (simp; done) | (simp; omega)) _ | refine Below.setCell ?_ (by first | omega | (simp; done) | (simp; omega)) _))
  rw [hW1, hg]
  have q4 := (blk_cell k1 4).trans c4
  have q5 := (blk_cell k1 5).trans c5
  have q31 := (blk_cell k1 31).trans c31
  have q32 := (blk_cell k1 32).trans c32
  clear hW1 k1 hg
  by_cases hf3 : 3 < f
  · obtain rfl : false = N := by rw [HR.out, decide_eq_false (show ¬ f ≤ 3 by omega)]; rfl
    clear HR
    go_wp2
    go_ret
    exact ⟨rfl, hB⟩
  have HR2 := Lib.hid (HR.out.trans (by rw [decide_eq_true (show f ≤ 3 by omega), Bool.true_and]))
  clear HR
  by_cases hk4 : k = 4
  · subst hk4
    have HR3 := Lib.hid (HR2.out.trans (if_pos rfl))
    clear HR2
    go_upto_region 13 with fail
    go_wp2_with (refine wpList_load_row rfl 51 (.tmp 1) rfl g rfl 51 C _ _ HK.out Tryz.underlying51 rfl HI.out ?_)
    refine (H0.out _).mono ?_
    rintro ee w2 ⟨rfl, hb⟩
    replace hB := below_via hB hb
    replace HK := Lib.hid (blk_below HK.out hb (blk_lt HK.out))
    clear hb q4 q5 q31 q32
    cases b0
    · obtain rfl : false = N := HR3.out.symm
      go_wp2
      go_ret
      exact ⟨rfl, hB⟩
    have q31 := (blk_cell HK.out 31).trans c31
    go_wp2_with fail
    refine (S0.out _).mono ?_
    rintro ee w3 ⟨rfl, rfl⟩
    cases s0
    · obtain rfl : false = N := HR3.out.symm
      go_wp2
      go_ret
      exact ⟨rfl, hB⟩
    have q32 := (blk_cell HK.out 32).trans c32
    go_wp2_with fail
    refine (S1.out _).mono ?_
    rintro ee w4 ⟨rfl, rfl⟩
    obtain rfl : s1 = N := HR3.out.symm
    go_wp2
    go_ret
    exact ⟨rfl, hB⟩
  have HR3 := Lib.hid (HR2.out.trans (if_neg hk4))
  have t4 : (k == 4) = false := beq_eq_false_iff_ne.2 hk4
  have t4' : (k != 4) = true := by rw [bne, t4]; rfl
  clear HR2
  by_cases ha0 : a0 = 0
  · by_cases ha1 : a1 = 0
    · subst ha0
      subst ha1
      have HR4 := Lib.hid (HR3.out.trans (by rw [decide_eq_true (show (0 : Int) = 0 ∧ (0 : Int) = 0 from ⟨rfl, rfl⟩), Bool.true_and]))
      clear HR3
      have hkk : k = 0 ∨ k = 1 ∨ k = 2 ∨ k = 3 ∨ 4 < k := by omega
      rcases hkk with rfl | rfl | rfl | rfl | hk5
      · obtain rfl : b0 = N := HR4.out.symm
        go_upto_region 5 with fail
        go_wp2_with (refine wpList_load_row rfl 51 (.tmp 1) rfl g rfl 51 C _ _ HK.out Tryz.underlying51 rfl HI.out ?_)
        refine (H0.out _).mono ?_
        rintro ee w2 ⟨rfl, hb⟩
        replace hB := below_via hB hb
        clear hb
        go_wp2
        go_ret
        exact ⟨rfl, hB⟩
      · obtain rfl : b1 = N := HR4.out.symm
        go_upto_region 7 with fail
        go_wp2_with (refine wpList_load_row rfl 51 (.tmp 1) rfl g rfl 51 C _ _ HK.out Tryz.underlying51 rfl HI.out ?_)
        refine (H1.out _).mono ?_
        rintro ee w2 ⟨rfl, hb⟩
        replace hB := below_via hB hb
        clear hb
        go_wp2
        go_ret
        exact ⟨rfl, hB⟩
      · have hd : decide (0 < on) = N := HR4.out.symm
        go_upto_region 9 with fail
        go_wp2_with (refine wpList_load_row rfl 51 (.tmp 1) rfl g rfl 51 C _ _ HK.out Tryz.underlying51 rfl HI.out ?_)
        refine (HO.out _).mono ?_
        rintro ee w2 ⟨rfl, hb⟩
        replace hB := below_via hB hb
        clear hb
        have Hd := Lib.hid hd
        clear hd
        go_wp2
        go_ret
        exact ⟨by rw [← Hd.out]; rfl, hB⟩
      · obtain rfl : b2 = N := HR4.out.symm
        go_upto_region 11 with fail
        go_wp2_with (refine wpList_load_row rfl 51 (.tmp 1) rfl g rfl 51 C _ _ HK.out Tryz.underlying51 rfl HI.out ?_)
        refine (H2.out _).mono ?_
        rintro ee w2 ⟨rfl, hb⟩
        replace hB := below_via hB hb
        clear hb
        go_wp2
        go_ret
        exact ⟨rfl, hB⟩
      · obtain rfl : false = N := by rw [HR4.out, if_neg (by omega), if_neg (by omega), if_neg (by omega), if_neg (by omega)]
        have v0 : (k == 0) = false := beq_eq_false_iff_ne.2 (by omega)
        have v1 : (k == 1) = false := beq_eq_false_iff_ne.2 (by omega)
        have v2 : (k == 2) = false := beq_eq_false_iff_ne.2 (by omega)
        have v3 : (k == 3) = false := beq_eq_false_iff_ne.2 (by omega)
        go_wp2
        go_ret
        exact ⟨rfl, hB⟩
    · obtain rfl : false = N := by rw [HR3.out, decide_eq_false (fun h => ha1 h.2)]; rfl
      have u1 : (a1 == 0) = false := beq_eq_false_iff_ne.2 ha1
      have u1' : (a1 != 0) = true := by rw [bne, u1]; rfl
      subst ha0
      clear HR3
      go_wp2
      go_ret
      exact ⟨rfl, hB⟩
  · obtain rfl : false = N := by rw [HR3.out, decide_eq_false (fun h => ha0 h.1)]; rfl
    have u1 : (a0 == 0) = false := beq_eq_false_iff_ne.2 ha0
    have u1' : (a0 != 0) = true := by rw [bne, u1]; rfl
    clear HR3
    go_wp2
    go_ret
    exact ⟨rfl, hB⟩

end Go.Proofs.YtchklobblkddhaaGreatDoor
