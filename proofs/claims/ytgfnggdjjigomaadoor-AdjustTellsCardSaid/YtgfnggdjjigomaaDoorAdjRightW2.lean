/- The walks of the package adjust: parts, weighted, awarded, Right. -/
import Derived.Test.YtgfnggdjjigomaaDoorAdjRightW
namespace Go.Proofs.YtgfnggdjjigomaaDoor
open Go.RowKit

theorem parts_stop (o : Nat → Oc) (j : Nat) (h : partsTo o j = j) (hw : (o j).w = 0) : ∀ n, partsTo o (j + n) = j := by
  intro n
  induction n with
  | zero => exact h
  | succ n ih =>
    show (if partsTo o (j + n) = j + n ∧ (o (j + n)).w ≠ 0 then j + n + 1 else partsTo o (j + n)) = j
    rw [ih]
    by_cases h0 : n = 0
    · subst h0; rw [if_neg (fun h => h.2 hw)]
    · rw [if_neg (fun h => by have := h.1; omega)]
theorem parts_next (o : Nat → Oc) (j : Nat) (h : partsTo o j = j) (hw : (o j).w ≠ 0) : partsTo o (j + 1) = j + 1 := by
  show (if partsTo o j = j ∧ (o j).w ≠ 0 then j + 1 else partsTo o j) = j + 1
  rw [if_pos ⟨h, hw⟩]
theorem parts_le (o : Nat → Oc) (n : Nat) : partsTo o n ≤ n := by
  induction n with
  | zero => exact Nat.le_refl _
  | succ n ih => show (if partsTo o n = n ∧ (o n).w ≠ 0 then n + 1 else partsTo o n) ≤ n + 1; split <;> omega

set_option maxRecDepth 100000 in
set_option maxHeartbeats 1000000 in
theorem parts_any (C : Array Value) (k f a0 a1 : Int) (o : Nat → Oc) (hC : EnC C k f o a0 a1) (w : World) :
    Calls Tryd.prog 32 #[.agg C] w fun e w' => e = .returned (.int .i64 (partsN o : Int)) ∧ Below w.heap.size w w' := by
  obtain ⟨N, hN⟩ : ∃ N, partsN o = N := ⟨_, rfl⟩
  rw [hN]
  have HN := Lib.hid hN
  have HC := Lib.hid hC
  clear hN hC
  go_enter Tryd.func32, Tryd.ntmps32
  go_upto_region 1 with fail
  obtain ⟨W1, hW1⟩ : ∃ W1, w.alloc (.cells C 29) = W1 := ⟨_, rfl⟩
  have k1 : W1.heap[w.heap.size]? = some (.cells C 29) := by rw [← hW1]; exact blk_new _ rfl
  have hB1 : Below w.heap.size w W1 := by rw [← hW1]; exact (by repeat (first | exact Below.refl _ _ | assumption | refine Below.drew ?_ | refine below_drewN ?_ _ | refine Below.alloc ?_ (by first | omega | (simp; done) | (simp; omega)) _ | refine Below.setCell ?_ (by first | omega | (simp; done) | (simp; omega)) _))
  rw [hW1]
  have HK := Lib.hid k1
  clear hW1 k1
  go_wp2
  go_loop [3] (fun i => ∃ j : Nat, j ≤ 4 ∧ i = .int .i64 (j : Int) ∧ Hid (partsTo o j = j)) (fun i => 4 - (intOf i).toNat)
  case atStart => exact ⟨0, by omega, rfl, rfl⟩
  case round =>
    obtain ⟨j, hj, rfl, hp⟩ := hrel
    by_cases hlt : j < 4
    · obtain ⟨-, -, -, -, -, e5⟩ := HC.out.cells HK.out j hlt
      have c1 : (0 : Int) ≤ (j : Int) := by omega
      have c2 : (j : Int) < 4 := by omega
      have t1 : decide ((j : Int) < 4) = true := decide_eq_true c2
      have HS := Lib.hid (fun h => parts_stop o j hp.out h (4 - j))
      have HX := Lib.hid (fun h => parts_next o j hp.out h)
      obtain ⟨x, hx⟩ : ∃ x, (o j).w = x := ⟨_, rfl⟩
      rw [hx] at e5 HS HX
      clear hx
      by_cases h0 : x = 0
      · have t2 : (x != 0) = false := by rw [h0]; rfl
        have t3 : (x == 0) = true := by rw [h0]; rfl
        obtain rfl : j = N := by rw [← HN.out]; have := HS.out h0; rw [show j + (4 - j) = 4 by omega] at this; exact this.symm
        clear h0
        go_wp2
        go_ret
        exact ⟨rfl, hB1⟩
      · have t2 : (x != 0) = true := by simpa using h0
        have t3 : (x == 0) = false := beq_eq_false_iff_ne.2 h0
        have Hx := Lib.hid (HX.out h0)
        clear h0
        go_wp2
        go_round
        case rel => exact ⟨j + 1, by omega, by go_num, Hx.out⟩
        case measure => simp [intOf]; omega
    · obtain rfl : j = 4 := by omega
      obtain rfl : 4 = N := by rw [← HN.out]; exact hp.out.symm
      have t1 : decide (((4 : Nat) : Int) < 4) = false := rfl
      have t2 : ¬ (((4 : Nat) : Int) < 4) := by omega
      go_wp2
      go_ret
      exact ⟨rfl, hB1⟩

theorem allW_iff (o : Nat → Oc) (n : Nat) : allW o n = true ↔ ∀ i, i < n → okW (o i) = true := by
  unfold allW
  rw [List.all_eq_true]
  exact ⟨fun h i hi => h i (List.mem_range.2 hi), fun h i hi => h i (List.mem_range.1 hi)⟩
theorem okW_bd {x : Oc} (h : okW x = true) : 1 ≤ x.w ∧ x.w ≤ 100 := by
  unfold okW at h
  rw [Bool.and_eq_true, Bool.and_eq_true] at h
  exact ⟨of_decide_eq_true h.1.2, of_decide_eq_true h.2⟩
theorem wSum_bd (o : Nat → Oc) (n : Nat) (h : ∀ i, i < n → okW (o i) = true) : 0 ≤ wSum o n ∧ wSum o n ≤ 100 * n := by
  induction n with
  | zero => exact ⟨Int.le_refl _, Int.le_refl _⟩
  | succ n ih =>
    have h1 := ih (fun i hi => h i (by omega))
    have h2 := okW_bd (h n (by omega))
    show 0 ≤ wSum o n + (o n).w ∧ wSum o n + (o n).w ≤ _
    omega

set_option maxRecDepth 100000 in
set_option maxHeartbeats 4000000 in
theorem weighted_any (C : Array Value) (k f a0 a1 : Int) (o : Nat → Oc) (hC : EnC C k f o a0 a1) (ho : ∀ i, i < 4 → OcOk (o i)) (w : World) (hL : LaidS w) :
    Calls Tryd.prog 41 #[.agg C] w fun e w' => e = .returned (.bool (weightedB o a0 a1)) ∧ Below w.heap.size w w' := by
  have HP := Lib.hid (fun W => parts_any C k f a0 a1 o hC W)
  have hn4 : partsN o ≤ 4 := parts_le o 4
  have HU := Lib.hid (fun W => unaw_any C k f a0 a1 o hC W)
  have HR := Lib.hid (fun W => rest_any C k f a0 a1 o (partsN o) hC hn4 W)
  have HO := Lib.hid (fun i hi W hW => out_any (o i) (ho i hi) W hW)
  have HI := Lib.hid hC.size
  have HC := Lib.hid hC
  have HL := Lib.hid hL
  obtain ⟨N, hN⟩ : ∃ N, weightedB o a0 a1 = N := ⟨_, rfl⟩
  rw [hN]
  unfold weightedB at hN
  obtain ⟨n, hn⟩ : ∃ n, partsN o = n := ⟨_, rfl⟩
  rw [hn] at HP HR hn4 hN
  have HN := Lib.hid hN
  clear hC ho hL hN hn
  go_enter Tryd.func41, Tryd.ntmps41
  go_upto_region 1 with fail
  obtain ⟨W1, hW1⟩ : ∃ W1, w.alloc (.cells C 29) = W1 := ⟨_, rfl⟩
  obtain ⟨g, hg⟩ : ∃ g, w.heap.size = g := ⟨_, rfl⟩
  have k1 : W1.heap[g]? = some (.cells C 29) := by rw [← hW1]; exact blk_new _ hg.symm
  have hB1 : Below g w W1 := by rw [← hW1, ← hg]; exact (by repeat (first | exact Below.refl _ _ | assumption | refine Below.drew ?_ | refine below_drewN ?_ _ | refine Below.alloc ?_ (by first | omega | (simp; done) | (simp; omega)) _ | refine Below.setCell ?_ (by first | omega | (simp; done) | (simp; omega)) _))
  rw [hW1, hg]
  have HK := Lib.hid k1
  have HG := Lib.hid hg
  have g1 := blk_lt k1
  clear hW1 k1 hg
  go_wp2_with (refine wpList_load_row_w (by rfl) 29 (.tmp 1) rfl g rfl 29 C _ _ HK.out Tryd.underlying29 rfl HI.out ?_)
  refine (HP.out _).mono ?_
  rintro ee w2 ⟨rfl, hb2⟩
  have HK2 := Lib.hid (blk_below HK.out hb2 g1)
  have g2 := blk_lt HK2.out
  have hB2 := hB1.trans (hb2.mono (by omega))
  have HL2 := Lib.hid (HL.out.below hB2 (by have := HL.out.lt; rw [HG.out] at this; exact this))
  clear hB1 hb2 HK g1
  have c0 : (0 : Int) ≤ (n : Int) := by omega
  have c1 : (n : Int) ≤ 4 := by omega
  go_wp2
  go_loopw [4, 13] (fun t i wr => ∃ j : Nat, j ≤ n ∧ i = .int .i64 (j : Int) ∧ Hid (∀ i, i < j → okW (o i) = true) ∧ t = .int .i64 (wSum o j) ∧ Below (g + 1) w2 wr) (fun _ i _ => n - (intOf i).toNat)
  case atStart => exact ⟨0, by omega, rfl, (fun i hi => absurd hi (Nat.not_lt_zero i) : ∀ i, i < 0 → okW (o i) = true), rfl, Below.refl _ _⟩
  case round =>
    obtain ⟨j, hj, rfl, hz, rfl, hbel⟩ := hrel
    have hsr := hbel.size
    have HB := Lib.hid (show ∀ W, Below (g + 1) w2 W → Below w.heap.size w W from fun W h => by rw [HG.out]; exact hB2.trans (h.mono (by omega)))
    have kr := blk_below HK2.out hbel (by omega)
    have HKr := Lib.hid kr
    have gr := blk_lt kr
    have hLr := Lib.hid (HL2.out.below hbel (by have := HL.out.lt; rw [HG.out] at this; omega))
    have hsb := wSum_bd o j hz.out
    by_cases hlt : j < n
    · obtain ⟨e0, e1, e2, e3, e4, e5⟩ := HC.out.cells kr j (by omega)
      have HOj := Lib.hid (HO.out j (by omega))
      have Hok := Lib.hid (show okW (o j) = (outB (o j) && decide (1 ≤ (o j).w) && decide ((o j).w ≤ 100)) from rfl)
      have Hs := Lib.hid (show wSum o (j + 1) = wSum o j + (o j).w from rfl)
      have HA := Lib.hid (show okW (o j) = false → false = N from fun h => by
        rw [← HN.out]
        cases hq : allW o n with
        | false => rfl
        | true => rw [(allW_iff o n).1 hq j hlt] at h; cases h)
      obtain ⟨x, hx⟩ : ∃ x, o j = x := ⟨_, rfl⟩
      rw [hx] at e0 e1 e2 e3 e4 e5 HOj Hok Hs HA
      have Hx := Lib.hid hx
      clear hx kr
      obtain ⟨x1, x2, x3, x4, x5, x6⟩ := x
      dsimp only at e0 e1 e2 e3 e4 e5 HOj Hok Hs HA
      generalize wSum o j = t at hsb Hs ⊢
      have c3 : (0 : Int) ≤ (j : Int) := by omega
      have c4 : (j : Int) < (n : Int) := by omega
      generalize outB _ = z at HOj Hok
      go_upto_region 5 with fail
      obtain ⟨W3, hW3⟩ : ∃ W3, wr.alloc (.cells #[.int .u8 x1, .int .u8 x2, .int .u8 x3, .int .u8 x4, .int .i64 x5, .int .i64 x6] 25) = W3 := ⟨_, rfl⟩
      obtain ⟨G, hG⟩ : ∃ G, wr.heap.size = G := ⟨_, rfl⟩
      have n3 : W3.heap[G]? = some (.cells #[.int .u8 x1, .int .u8 x2, .int .u8 x3, .int .u8 x4, .int .i64 x5, .int .i64 x6] 25) := by rw [← hW3]; exact blk_new _ hG.symm
      have b3 : Below (g + 1) w2 W3 := by rw [← hW3]; exact hbel.alloc (by omega) _
      have HL3 := Lib.hid (show LaidS W3 by rw [← hW3]; exact hLr.out.go (by repeat (first | exact Below.refl _ _ | assumption | refine Below.drew ?_ | refine below_drewN ?_ _ | refine Below.alloc ?_ (by first | omega | (simp; done) | (simp; omega)) _ | refine Below.setCell ?_ (by first | omega | (simp; done) | (simp; omega)) _)))
      rw [hW3, hG]
      have q0 := blk_cell n3 0
      have q1 := blk_cell n3 1
      have q2 := blk_cell n3 2
      have q3 := blk_cell n3 3
      have q4 := blk_cell n3 4
      have q5 := blk_cell n3 5
      have hgG : g + 1 ≤ W3.heap.size := by have := b3.size; omega
      clear hW3 hG e0 e1 e2 e3 e4 e5
      go_wp2_with fail
      refine (HOj.out _ HL3.out).mono ?_
      rintro ee w4 ⟨rfl, hb4⟩
      have q5 := blk_cell (blk_below n3 hb4 (blk_lt n3)) 5
      have b4 := b3.trans (hb4.mono hgG)
      have Hbz := Lib.hid (HB.out _ b4)
      clear q0 q1 q2 q3 q4 n3 hb4 b3 HL3
      cases z
      · obtain rfl := HA.out (by rw [Hok.out]; rfl)
        go_wp2
        go_ret
        exact ⟨rfl, Hbz.out⟩
      by_cases hx1 : x6 < 1
      · obtain rfl := HA.out (by rw [Hok.out, decide_eq_false (by omega : ¬ 1 ≤ x6)]; rfl)
        go_wp2
        go_ret
        exact ⟨rfl, Hbz.out⟩
      by_cases hx2 : 100 < x6
      · obtain rfl := HA.out (by rw [Hok.out, decide_eq_false (by omega : ¬ x6 ≤ 100)]; simp)
        go_wp2
        go_ret
        exact ⟨rfl, Hbz.out⟩
      have Hn : Hid (∀ i, i < j + 1 → okW (o i) = true) := Lib.hid (fun i hi => by
        by_cases h : i < j
        · exact hz.out i h
        · obtain rfl : i = j := by omega
          rw [Hx.out, Hok.out, decide_eq_true (by omega : 1 ≤ x6), decide_eq_true (by omega : x6 ≤ 100)]; rfl)
      go_wp2
      go_roundw
      case rel => exact ⟨j + 1, by omega, by go_num, Hn.out, int_eq Hs.out.symm, b4⟩
      case measure => simp [intOf]; omega
    · obtain rfl : j = n := by omega
      have t0 : decide ((j : Int) < (j : Int)) = false := decide_eq_false (by omega)
      have hall := (allW_iff o j).2 hz.out
      have HN2 := Lib.hid (show (decide (2 ≤ j) && decide (wSum o j = 100) && restB o j && decide (a0 = 0 ∧ a1 = 0)) = N by rw [← HN.out, hall, Bool.true_and])
      generalize restB o j = x at HR HN2
      generalize decide (a0 = 0 ∧ a1 = 0) = y at HU HN2
      generalize wSum o j = t at hsb HN2 ⊢
      have Hbr := Lib.hid (HB.out _ hbel)
      clear hall kr HN
      by_cases h2 : 2 ≤ j
      · have c3 : (2 : Int) ≤ (j : Int) := by omega
        have t1 : decide ((j : Int) ≥ 2) = true := decide_eq_true c3
        have HN3 := Lib.hid (show (decide (t = 100) && x && y) = N by rw [← HN2.out, decide_eq_true h2, Bool.true_and])
        by_cases ht : t = 100
        · subst ht
          have HN4 := Lib.hid (show (x && y) = N by rw [← HN3.out]; rfl)
          go_wp2_with (refine wpList_load_row_w (by rfl) 29 (.tmp 1) rfl g rfl 29 C _ _ HKr.out Tryd.underlying29 rfl HI.out ?_)
          refine (HR.out _).mono ?_
          rintro ee w4 ⟨rfl, hb4⟩
          have HK4 := Lib.hid (blk_below HKr.out hb4 gr)
          have hB4 := below_via Hbr.out hb4
          cases x
          · obtain rfl : false = N := HN4.out
            go_wp2
            go_ret
            exact ⟨rfl, hB4⟩
          · obtain rfl : y = N := by rw [← HN4.out, Bool.true_and]
            go_wp2_with (refine wpList_load_row_w (by rfl) 29 (.tmp 1) rfl g rfl 29 C _ _ HK4.out Tryd.underlying29 rfl HI.out ?_)
            refine (HU.out _).mono ?_
            rintro ee w5 ⟨rfl, hb5⟩
            go_wp2
            go_ret
            exact ⟨rfl, below_via hB4 hb5⟩
        · have t2 : (t == 100) = false := beq_eq_false_iff_ne.2 ht
          obtain rfl : false = N := by rw [← HN3.out, decide_eq_false ht]; rfl
          clear ht
          go_wp2
          go_ret
          exact ⟨rfl, Hbr.out⟩
      · have c3 : ¬ (2 : Int) ≤ (j : Int) := by omega
        have t1 : decide ((j : Int) ≥ 2) = false := decide_eq_false c3
        obtain rfl : false = N := by rw [← HN2.out, decide_eq_false h2]; rfl
        go_wp2
        go_ret
        exact ⟨rfl, Hbr.out⟩

end Go.Proofs.YtgfnggdjjigomaaDoor
