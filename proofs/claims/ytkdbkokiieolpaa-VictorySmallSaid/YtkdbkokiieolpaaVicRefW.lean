/- The walks of the reference of victory points: Right, Usual, Points. -/
import Derived.Test.YtkdbkokiieolpaaVicAwake
import Derived.Test.YtkdbkokiieolpaaVicLaw2
namespace Go.Proofs.Ytkdbkokiieolpaa
open Go.RowKit

set_option maxHeartbeats 1000000 in
theorem rightR_any (s : List Int) (A : Option Addr) (c : Nat) (w : World) (hl : Rd w w.heap.size 1 A s.length (iC s)) (hm : s.length ≤ 4611686018427387904) :
    Calls Try.prog 24 #[.slice A s.length c] w fun e w' => e = .returned (.bool (rightS s)) ∧ Below w.heap.size w w' := by
  by_cases h1 : s.length = 0
  · have hf : rightS s = false := by unfold rightS; simp; omega
    have hz : ((s.length : Int) == 0) = true := beq_iff_eq.2 (by omega)
    rw [hf]; clear hf
    go_enter Try.func24, Try.ntmps24
    go_wp2
    go_ret
    exact ⟨rfl, Below.refl _ _⟩
  have hz : ((s.length : Int) == 0) = false := beq_eq_false_iff_ne.2 (by omega)
  by_cases h2 : 50 < s.length
  · have hf : rightS s = false := by unfold rightS; simp; omega
    rw [hf]; clear hf
    go_enter Try.func24, Try.ntmps24
    go_wp2
    go_ret
    exact ⟨rfl, Below.refl _ _⟩
  have hu := Lib.hid (show rightS s = up 0 s by unfold rightS; rw [decide_eq_true (by omega), decide_eq_true (by omega)]; rfl)
  go_enter Try.func24, Try.ntmps24
  go_wp2
  go_loopw [3] (fun i wr => ∃ (k : Nat) (x : Int), k ≤ s.length ∧ i = .int .i64 (k : Int) ∧ Hid (k = 0 ∧ x = 0 ∨ 0 < k ∧ s.getD (k - 1) 0 = x) ∧ Hid (rightS s = up x (s.drop k)) ∧ 0 ≤ x ∧ Below w.heap.size w wr) (fun i _ => s.length - (intOf i).toNat)
  case atStart => exact ⟨0, 0, by omega, rfl, .inl ⟨rfl, rfl⟩, hu.out, by omega, Below.refl _ _⟩
  case round =>
    obtain ⟨k, x, hk, rfl, hx, hr, hx1, hb⟩ := hrel
    by_cases hlt : k < s.length
    · obtain ⟨b, off, rfl, hbw, hc⟩ := rd_i hl k hlt
      have hc1 := (bcell hb b (off + k) hbw).trans hc
      have Hr := Lib.hid (show rightS s = (decide (x < s[k]) && decide (s[k] ≤ 1000000) && up s[k] (s.drop (k + 1))) by rw [hr.out, List.drop_eq_getElem_cons hlt, up_cons])
      have hn := Lib.hid (show s.getD (k + 1 - 1) 0 = s[k] by rw [Nat.add_sub_cancel, getD_at s k hlt])
      have j1 : (k : Int) < (s.length : Int) := by omega
      have j2 : (0 : Int) ≤ (k : Int) := by omega
      rcases hx.out with ⟨rfl, rfl⟩ | ⟨h0, hx0⟩
      · have hd1 : wr.cell? ⟨b, off, none⟩ = some (.int .i64 s[0]) := hc1
        clear hc hc1
        have i0 : decide ((0 : Int) < 0) = false := rfl
        generalize s[0] = y at hd1 Hr hn
        by_cases h3 : y < 1
        · have hf := Lib.hid (show rightS s = false by rw [Hr.out, decide_eq_false (by omega)]; rfl)
          have t1 : decide (y < 1) = true := decide_eq_true h3
          go_wp2
          go_quiet (fail)
          go_wp2
          go_ret
          exact ⟨by rw [hf.out]; rfl, (by repeat (first | exact Below.refl _ _ | assumption | refine Below.drew ?_ | refine below_drewN ?_ _ | refine Below.alloc ?_ (by first | omega | (simp; done) | (simp; omega)) _ | refine Below.setCell ?_ (by first | omega | (simp; done) | (simp; omega)) _))⟩
        have t1 : decide (y < 1) = false := decide_eq_false h3
        by_cases h4 : 1000000 < y
        · have hf := Lib.hid (show rightS s = false by rw [Hr.out, decide_eq_false (show ¬ y ≤ 1000000 by omega)]; simp)
          have t2 : decide (1000000 < y) = true := decide_eq_true h4
          go_wp2
          go_quiet (fail)
          go_wp2
          go_ret
          exact ⟨by rw [hf.out]; rfl, (by repeat (first | exact Below.refl _ _ | assumption | refine Below.drew ?_ | refine below_drewN ?_ _ | refine Below.alloc ?_ (by first | omega | (simp; done) | (simp; omega)) _ | refine Below.setCell ?_ (by first | omega | (simp; done) | (simp; omega)) _))⟩
        have t2 : decide (1000000 < y) = false := decide_eq_false h4
        have hf := Lib.hid (show rightS s = up y (s.drop (0 + 1)) by rw [Hr.out, decide_eq_true (show 0 < y by omega), decide_eq_true (show y ≤ 1000000 by omega)]; rfl)
        go_wp2
        go_quiet (fail)
        go_wp2
        go_roundw
        case rel => exact ⟨1, y, by omega, rfl, .inr ⟨by omega, hn.out⟩, hf.out, by omega, (by repeat (first | exact Below.refl _ _ | assumption | refine Below.drew ?_ | refine below_drewN ?_ _ | refine Below.alloc ?_ (by first | omega | (simp; done) | (simp; omega)) _ | refine Below.setCell ?_ (by first | omega | (simp; done) | (simp; omega)) _))⟩
        case measure => simp [intOf]; omega
      · obtain ⟨q, rfl⟩ : ∃ q, k = q + 1 := ⟨k - 1, by omega⟩
        have hq : s[q]'(by omega) = x := by rw [← hx0, Nat.add_sub_cancel, getD_at s q (by omega)]
        obtain ⟨b', off', e', hbw', hc'⟩ := rd_i hl q (by omega)
        obtain ⟨rfl, rfl⟩ : b = b' ∧ off = off' := by injection e' with e'; injection e' with e1 e2; exact ⟨e1, e2⟩
        have hc2 := (bcell hb b (off + q) hbw').trans hc'
        rw [hq] at hc2
        have j3 : (q : Int) < (s.length : Int) := by omega
        have j4 : (0 : Int) ≤ (q : Int) := by omega
        have i0 : decide ((0 : Int) < (q : Int) + 1) = true := decide_eq_true (by omega)
        clear hc hc' hx0 hx h0 hq e'
        generalize s[q + 1] = y at hc1 Hr hn
        by_cases h3 : y < 1
        · have hf := Lib.hid (show rightS s = false by rw [Hr.out, decide_eq_false (show ¬ x < y by omega)]; rfl)
          have t1 : decide (y < 1) = true := decide_eq_true h3
          go_wp2
          go_quiet (fail)
          go_wp2
          go_ret
          exact ⟨by rw [hf.out]; rfl, (by repeat (first | exact Below.refl _ _ | assumption | refine Below.drew ?_ | refine below_drewN ?_ _ | refine Below.alloc ?_ (by first | omega | (simp; done) | (simp; omega)) _ | refine Below.setCell ?_ (by first | omega | (simp; done) | (simp; omega)) _))⟩
        have t1 : decide (y < 1) = false := decide_eq_false h3
        by_cases h4 : 1000000 < y
        · have hf := Lib.hid (show rightS s = false by rw [Hr.out, decide_eq_false (show ¬ y ≤ 1000000 by omega)]; simp)
          have t2 : decide (1000000 < y) = true := decide_eq_true h4
          go_wp2
          go_quiet (fail)
          go_wp2
          go_ret
          exact ⟨by rw [hf.out]; rfl, (by repeat (first | exact Below.refl _ _ | assumption | refine Below.drew ?_ | refine below_drewN ?_ _ | refine Below.alloc ?_ (by first | omega | (simp; done) | (simp; omega)) _ | refine Below.setCell ?_ (by first | omega | (simp; done) | (simp; omega)) _))⟩
        have t2 : decide (1000000 < y) = false := decide_eq_false h4
        by_cases h5 : y ≤ x
        · have hf := Lib.hid (show rightS s = false by rw [Hr.out, decide_eq_false (show ¬ x < y by omega)]; rfl)
          have t3 : decide (y ≤ x) = true := decide_eq_true h5
          go_wp2
          go_quiet (fail)
          go_wp2
          go_ret
          exact ⟨by rw [hf.out]; rfl, (by repeat (first | exact Below.refl _ _ | assumption | refine Below.drew ?_ | refine below_drewN ?_ _ | refine Below.alloc ?_ (by first | omega | (simp; done) | (simp; omega)) _ | refine Below.setCell ?_ (by first | omega | (simp; done) | (simp; omega)) _))⟩
        have t3 : decide (y ≤ x) = false := decide_eq_false h5
        have hf := Lib.hid (show rightS s = up y (s.drop (q + 1 + 1)) by rw [Hr.out, decide_eq_true (show x < y by omega), decide_eq_true (show y ≤ 1000000 by omega)]; rfl)
        go_wp2
        go_quiet (fail)
        go_wp2
        go_roundw
        case rel => exact ⟨q + 1 + 1, y, by omega, by go_num, .inr ⟨by omega, hn.out⟩, hf.out, by omega, (by repeat (first | exact Below.refl _ _ | assumption | refine Below.drew ?_ | refine below_drewN ?_ _ | refine Below.alloc ?_ (by first | omega | (simp; done) | (simp; omega)) _ | refine Below.setCell ?_ (by first | omega | (simp; done) | (simp; omega)) _))⟩
        case measure => simp [intOf]; omega
    · obtain rfl : k = s.length := by omega
      have hf := Lib.hid (show rightS s = true by rw [hr.out, List.drop_length]; rfl)
      go_wp2
      go_ret
      exact ⟨by rw [hf.out]; rfl, hb⟩

/-! ### Usual -/
set_option maxHeartbeats 1000000 in
theorem usualR_bad (b : Int) (w : World) (hb : b < 1 ∨ 128 < b) :
    Calls Try.prog 17 #[.int .i64 b] w fun e w' => e = .returned (.tuple #[.slice none 0 0, .int .i64 2]) ∧ w = w' := by
  rcases hb with hb | hb
  · go_enter Try.func17, Try.ntmps17
    go_wp2
    go_ret2
    exact ⟨rfl, rfl⟩
  · go_enter Try.func17, Try.ntmps17
    go_wp2
    go_ret2
    exact ⟨rfl, rfl⟩

set_option maxHeartbeats 1000000 in
theorem usualR_any (b : Int) (w : World) (hb : 1 ≤ b ∧ b ≤ 128) :
    Calls Try.prog 17 #[.int .i64 b] w fun e w' => ∃ v L, e = .returned (.tuple #[v, .int .i64 0]) ∧ w'.ownsRow w.heap.size 3 1 v 10 (iC L) ∧ L.length = 10 ∧ isUsual b L ∧ Below w.heap.size w w' := by
  obtain ⟨i0, hi, hz0, hz1, hz2⟩ := info_parts info_int
  go_enter Try.func17, Try.ntmps17
  go_wp2
  go_loopw [4, 5] (fun v k wr => ∃ (n : Nat) (L : List Int) (xs : List Value), n ≤ 10 ∧ k = .int .i64 ((n : Int) + 1) ∧ Hid (L.length = n) ∧ Hid (xs = iC L) ∧ wr.ownsRow w.heap.size 3 1 v n xs ∧ Hid (isUsual b L) ∧ Below w.heap.size w wr) (fun _ k _ => 11 - (intOf k).toNat)
  case atStart => exact ⟨0, [], [], by omega, rfl, rfl, rfl, own_nil, (fun j h => by simp at h), Below.refl _ _⟩
  case round =>
    obtain ⟨n, L, xs, hn, rfl, hL, hxs, hown, hus, hbel⟩ := hrel
    by_cases hlt : n < 10
    · have hw := want_bd b (n + 1) hb (by omega)
      have hw1 : 0 ≤ 9 * ((n : Int) + 1) * ((n : Int) + 1) ∧ 9 * ((n : Int) + 1) * ((n : Int) + 1) ≤ 900 := ⟨hw.1, hw.2.1⟩
      have hw2 : 0 ≤ 9 * ((n : Int) + 1) * ((n : Int) + 1) * b ∧ 9 * ((n : Int) + 1) * ((n : Int) + 1) * b ≤ 115200 := ⟨hw.2.2.1, hw.2.2.2⟩
      have hdn : decide ((n : Int) + 1 < 11) = true := decide_eq_true (by omega)
      clear hw
      go_wp2
      go_loop [6] (fun m => ∃ y : Int, m = .int .i64 y ∧ 1 ≤ y ∧ y ≤ 170 ∧ Hid (below4 (want b (n + 1)) y)) (fun m => (171 - intOf m).toNat)
      case atStart => exact ⟨1, rfl, by omega, by omega, ⟨by omega, .inl rfl⟩⟩
      case round =>
        obtain ⟨y, rfl, hy1, hy2, hby⟩ := hrel
        have hq := sq4_bd y (by omega)
        by_cases ht : 4 * y * y < 9 * ((n : Int) + 1) * ((n : Int) + 1) * b
        · have hb2 := Lib.hid (below4_succ _ y hby.out ht)
          have hbd := below4_bd _ _ hw2.2 hb2.out
          go_wp2
          go_round
          case rel => exact ⟨y + 1, rfl, by omega, by omega, hb2⟩
          case measure => simp [intOf]; omega
        · have hlv := Lib.hid (show least4 (want b (n + 1)) y from ⟨hby.out, by unfold want; omega⟩)
          have ht' : 9 * ((n : Int) + 1) * ((n : Int) + 1) * b ≤ 4 * y * y := by omega
          clear ht
          go_wp2_with (at_builtin; refine wpList_append_own _ rfl _ _ 24 rfl w.heap.size 3 i0 (.int .i64 0) 1 8 Try.underlying24 hi hz0 hz1 hz2 rfl (by decide) _ _ _ rfl (hown.alloc _) _ 1 1 [.int .i64 y] rfl rfl ?c1 ?c2 ?c3 ?c4 ?c5 ?_)
          case c2 => simp [Value.oneCell']
          case c3 => unfold maxLen; omega
          case c4 => omega
          case c5 => have := hbel.size; simp; omega
          intro v' w1 hown1 hgrow _
          go_wp2
          go_roundw
          case rel =>
            refine ⟨n + 1, L ++ [y], _, by omega, by go_num, ?_, ?_, hown1, ?_, (hbel.alloc hbel.size _).grown hgrow (by have := hbel.size; simp; omega) (fun g hg => (hown.lt g hg).1)⟩
            · show (L ++ [y]).length = n + 1; rw [List.length_append, hL.out]; rfl
            · show _ = iC (L ++ [y]); rw [hxs.out]; unfold iC; rw [List.map_append]; rfl
            · exact isUsual_snoc b L y hus.out (by rw [hL.out]; exact hlv.out)
          case measure => simp [intOf]; omega
    · obtain rfl : n = 10 := by omega
      go_wp2
      go_ret2
      exact ⟨_, L, rfl, by rw [← show _ = _ from hxs.out]; exact hown, hL.out, hus.out, hbel⟩

/-! ### Points -/
theorem moreS_two (s : List Int) (m : Int) (hr : rightS s = true) : moreS s m = cntS s m - cntS s (-m) := by
  have hp := right_pos s hr
  unfold moreS far
  by_cases h : m < 0
  · rw [if_pos h, if_pos h, cntS_zero_of s m (fun y hy => by have := hp y hy; omega)]; omega
  · rw [if_neg h, if_neg h, cntS_zero_of s (-m) (fun y hy => by have := hp y hy; omega)]; omega

set_option maxHeartbeats 1000000 in
theorem pointsR_any (s : List Int) (m : Int) (A : Option Addr) (c : Nat) (w : World) (hl : Rd w w.heap.size 1 A s.length (iC s)) (hn : s.length ≤ 4611686018427387904) :
    Calls Try.prog 23 #[.slice A s.length c, .int .i64 m] w fun e w' => e = .returned (.tuple #[.int .i64 (ptsA s m), .int .i64 (ptsB s m), .int .i64 (ptsE s m)]) ∧ Below w.heap.size w w' := by
  by_cases hr : rightS s = true
  · have Hr := Lib.hid hr
    by_cases h1 : m < -1000000
    · obtain ⟨e1, e2, e3⟩ := okM_false s m (by unfold okM; rw [hr, decide_eq_false (show ¬ -1000000 ≤ m by omega)]; rfl)
      rw [e1, e2, e3]; clear e1 e2 e3 hr
      go_enter Try.func23, Try.ntmps23
      go_wp2_with fail
      refine (rightR_any s A c _ hl hn).mono ?_
      rintro e w1 ⟨rfl, hb1⟩
      rw [Hr.out]
      go_wp2
      go_ret3
      exact ⟨rfl, hb1⟩
    by_cases h2 : 1000000 < m
    · obtain ⟨e1, e2, e3⟩ := okM_false s m (by unfold okM; rw [decide_eq_false (show ¬ m ≤ 1000000 by omega)]; simp)
      rw [e1, e2, e3]; clear e1 e2 e3 hr
      go_enter Try.func23, Try.ntmps23
      go_wp2_with fail
      refine (rightR_any s A c _ hl hn).mono ?_
      rintro e w1 ⟨rfl, hb1⟩
      rw [Hr.out]
      go_wp2
      go_ret3
      exact ⟨rfl, hb1⟩
    have hA := Lib.hid (ptsA_eq s m hr (by omega))
    have hB := Lib.hid (ptsB_eq s m hr (by omega))
    have hE := Lib.hid (ptsE_ok s m hr (by omega))
    have hM := Lib.hid (moreS_two s m hr)
    have h50 : s.length ≤ 50 := ((rightS_iff s).1 hr).2.1
    clear hr
    go_enter Try.func23, Try.ntmps23
    go_wp2_with fail
    refine (rightR_any s A c _ hl hn).mono ?_
    rintro e w1 ⟨rfl, hb1⟩
    rw [Hr.out]
    have hl1 := (hl.below hb1).more hb1.size
    clear hl
    go_wp2
    go_loop [7, 8, 9] (fun a b i => ∃ k : Nat, k ≤ s.length ∧ i = .int .i64 (k : Int) ∧ a = .int .i64 (s.length + (cntTo s m k - cntTo s (-m) k)) ∧ b = .int .i64 (s.length - (cntTo s m k - cntTo s (-m) k))) (fun _ _ i => s.length - (intOf i).toNat)
    case atStart => exact ⟨0, by omega, rfl, by simp [cntTo], by simp [cntTo]⟩
    case round =>
      obtain ⟨k, hk, rfl, rfl, rfl⟩ := hrel
      by_cases hlt : k < s.length
      · obtain ⟨b, off, rfl, hbw, hc⟩ := rd_i hl1 k hlt
        have Hs1 := Lib.hid (cntTo_succ s m k hlt)
        have Hs2 := Lib.hid (cntTo_succ s (-m) k hlt)
        have b1 := cntTo_bd s m k hk
        have b2 := cntTo_bd s (-m) k hk
        have b3 := cntTo_bd s m (k + 1) hlt
        have b4 := cntTo_bd s (-m) (k + 1) hlt
        generalize s[k] = y at hc Hs1 Hs2
        go_wp2
        all_goals
          go_round
          case rel =>
            have g1 := Hs1.out
            have g2 := Hs2.out
            exact ⟨k + 1, by omega, by go_num, int_eq (by first | (rw [if_pos (by omega)] at g1; omega) | (rw [if_neg (by omega)] at g1; omega) | (split at g1 <;> split at g2 <;> omega)), int_eq (by split at g1 <;> split at g2 <;> omega)⟩
          case measure => simp [intOf]; omega
      · obtain rfl : k = s.length := by omega
        go_wp2
        go_ret3
        exact ⟨by rw [hA.out, hB.out, hE.out, hM.out]; rfl, hb1⟩
  · have hr' : rightS s = false := by simpa using hr
    obtain ⟨e1, e2, e3⟩ := okM_false s m (by unfold okM; rw [hr']; rfl)
    rw [e1, e2, e3]
    have Hr := Lib.hid hr'
    clear e1 e2 e3 hr hr'
    go_enter Try.func23, Try.ntmps23
    go_wp2_with fail
    refine (rightR_any s A c _ hl hn).mono ?_
    rintro e w1 ⟨rfl, hb1⟩
    rw [Hr.out]
    go_wp2
    go_ret3
    exact ⟨rfl, hb1⟩

end Go.Proofs.Ytkdbkokiieolpaa
