/- The walks of the package victory: Margins, Total. -/
import Derived.Test.YtkdbkokiieolpaaVicW
namespace Go.Proofs.Ytkdbkokiieolpaa
open Go.RowKit

theorem marBad (s : List Int) (p : Int) (h : marE s p ≠ 0) : marL s p = 0 ∧ marH s p = 0 := by
  unfold marL marH; rw [if_neg h, if_neg h]; exact ⟨rfl, rfl⟩
theorem getD_at (s : List Int) (k : Nat) (h : k < s.length) : s.getD k 0 = s[k] := by simp [List.getD, List.getElem?_eq_getElem h]
theorem mem_bd (s : List Int) (hr : rightS s = true) (k : Nat) (h : k < s.length) : 1 ≤ s[k] ∧ s[k] ≤ 1000000 := by
  have := up_bd s 0 ((rightS_iff s).1 hr).2.2 s[k] (List.getElem_mem h)
  omega

set_option maxHeartbeats 1000000 in
theorem margins_any (s : List Int) (p : Int) (A : Option Addr) (c : Nat) (w : World) (hl : Rd w w.heap.size 1 A s.length (iC s)) (hn : s.length ≤ 4611686018427387904) :
    Calls Try.prog 13 #[.slice A s.length c, .int .i64 p] w fun e w' => e = .returned (.tuple #[.int .i64 (marL s p), .int .i64 (marH s p), .int .i64 (marE s p)]) ∧ ∃ n, w' = w.drewN n := by
  by_cases hr : rightS s = true
  · have Hr := Lib.hid hr
    have h50 := (rightS_iff s).1 hr
    have hs1 : 1 ≤ s.length ∧ s.length ≤ 50 := ⟨h50.1, h50.2.1⟩
    have hb := mem_bd s hr
    clear h50
    by_cases h0 : p < 0
    · have e3 : marE s p = 6 := by unfold marE; rw [if_pos hr, if_neg (by unfold okP; omega)]
      obtain ⟨e1, e2⟩ := marBad s p (by omega)
      rw [e1, e2, e3]; clear e1 e2 e3 hr hb
      go_enter Try.func13, Try.ntmps13
      go_wp2_with fail
      refine (right_any s A c _ hl hn).mono ?_
      rintro e _ ⟨rfl, rfl⟩
      rw [Hr.out]
      go_wp2
      go_ret3
      exact ⟨rfl, 0, rfl⟩
    by_cases h2 : 2 * (s.length : Int) < p
    · have e3 : marE s p = 6 := by unfold marE; rw [if_pos hr, if_neg (by unfold okP; omega)]
      obtain ⟨e1, e2⟩ := marBad s p (by omega)
      rw [e1, e2, e3]; clear e1 e2 e3 hr hb
      go_enter Try.func13, Try.ntmps13
      go_wp2_with fail
      refine (right_any s A c _ hl hn).mono ?_
      rintro e _ ⟨rfl, rfl⟩
      rw [Hr.out]
      go_wp2
      go_ret3
      exact ⟨rfl, 0, rfl⟩
    have e3 : marE s p = 0 := by unfold marE; rw [if_pos hr, if_pos (by unfold okP; omega)]
    obtain ⟨r, hre⟩ : ∃ r : Nat, reach s p = r := ⟨(reach s p).toNat, by unfold reach; split <;> omega⟩
    have hrn : r ≤ s.length := by unfold reach at hre; split at hre <;> omega
    have hrp : (p : Int) = s.length + r ∨ (p : Int) = s.length - r := by unfold reach at hre; split at hre <;> omega
    by_cases hlt : r < s.length
    · have eu : upTo s r = s[r] - 1 := by unfold upTo; rw [if_pos (by omega), Int.toNat_natCast, getD_at s r hlt]
      obtain ⟨b, off, rfl, hbw, hc⟩ := rd_i hl r hlt
      have hbr := hb r hlt
      by_cases hgt : (s.length : Int) < p
      · obtain ⟨q, rfl⟩ : ∃ q, r = q + 1 := ⟨r - 1, by omega⟩
        have ea : atL s ((q + 1 : Nat) : Int) = s[q] := by unfold atL; rw [show (((q + 1 : Nat) : Int) - 1).toNat = q by omega, getD_at s q (by omega)]
        obtain ⟨b', off', e', _, hc'⟩ := rd_i hl q (by omega)
        obtain ⟨rfl, rfl⟩ : b = b' ∧ off = off' := by injection e' with e'; injection e' with e1 e2; exact ⟨e1, e2⟩
        have hbq := hb q (by omega)
        rw [show marL s p = s[q] by unfold marL; rw [if_pos e3, if_pos (by omega), hre, ea], show marH s p = s[q + 1] - 1 by unfold marH; rw [if_pos e3, if_neg (by omega), hre, eu], e3]
        have hd : p - (s.length : Int) = (q : Int) + 1 := by omega
        clear ea eu e3 hre hr hb hrp e'
        generalize s[q + 1] = y at *
        generalize s[q] = x at *
        go_enter Try.func13, Try.ntmps13
        go_wp2_with fail
        refine (right_any s _ c _ hl hn).mono ?_
        rintro e _ ⟨rfl, rfl⟩
        rw [Hr.out]
        go_wp2
        go_ret3
        exact ⟨rfl, 0, rfl⟩
      by_cases hlt2 : p < (s.length : Int)
      · obtain ⟨q, rfl⟩ : ∃ q, r = q + 1 := ⟨r - 1, by omega⟩
        have ea : atL s ((q + 1 : Nat) : Int) = s[q] := by unfold atL; rw [show (((q + 1 : Nat) : Int) - 1).toNat = q by omega, getD_at s q (by omega)]
        obtain ⟨b', off', e', _, hc'⟩ := rd_i hl q (by omega)
        obtain ⟨rfl, rfl⟩ : b = b' ∧ off = off' := by injection e' with e'; injection e' with e1 e2; exact ⟨e1, e2⟩
        have hbq := hb q (by omega)
        rw [show marL s p = -(s[q + 1] - 1) by unfold marL; rw [if_pos e3, if_neg (by omega), hre, eu], show marH s p = -s[q] by unfold marH; rw [if_pos e3, if_pos (by omega), hre, ea], e3]
        have hd : (s.length : Int) - p = (q : Int) + 1 := by omega
        have hi1 : (0 : Int) ≤ (q : Int) := by omega
        have hi2 : (q : Int) < (s.length : Int) := by omega
        clear ea eu e3 hre hr hb hrp e'
        generalize s[q + 1] = y at *
        generalize s[q] = x at *
        go_enter Try.func13, Try.ntmps13
        go_wp2_with fail
        refine (right_any s _ c _ hl hn).mono ?_
        rintro e _ ⟨rfl, rfl⟩
        rw [Hr.out]
        go_wp2
        go_quiet (fail)
        go_wp2
        go_ret3
        exact ⟨rfl, _, rfl⟩
      · have hpe : p = (s.length : Int) := by omega
        obtain rfl : r = 0 := by omega
        rw [show marL s p = -(s[0] - 1) by unfold marL; rw [if_pos e3, if_neg (by omega), hre, eu], show marH s p = s[0] - 1 by unfold marH; rw [if_pos e3, if_neg (by omega), hre, eu], e3]
        subst hpe
        have hc0 : w.cell? ⟨b, off, none⟩ = some (.int .i64 s[0]) := hc
        clear eu e3 hre hr hb hrp hc
        generalize s[0] = y at *
        go_enter Try.func13, Try.ntmps13
        go_wp2_with fail
        refine (right_any s _ c _ hl hn).mono ?_
        rintro e _ ⟨rfl, rfl⟩
        rw [Hr.out]
        go_wp2
        go_ret3
        exact ⟨rfl, 0, rfl⟩
    · obtain rfl : r = s.length := by omega
      have eu : upTo s (s.length : Int) = 1000000 := by unfold upTo; rw [if_neg (by omega)]
      obtain ⟨q, hql, hqi⟩ : ∃ q : Nat, q < s.length ∧ (s.length : Int) - 1 = (q : Int) := ⟨s.length - 1, by omega, by omega⟩
      have ea : atL s (s.length : Int) = s[q] := by unfold atL; rw [show ((s.length : Int) - 1).toNat = q by omega, getD_at s q hql]
      obtain ⟨b, off, rfl, hbw, hc⟩ := rd_i hl q hql
      have hbq := hb q hql
      by_cases hgt : (s.length : Int) < p
      · rw [show marL s p = s[q] by unfold marL; rw [if_pos e3, if_pos (by omega), hre, ea], show marH s p = 1000000 by unfold marH; rw [if_pos e3, if_neg (by omega), hre, eu], e3]
        have hd : p - (s.length : Int) = (q : Int) + 1 := by omega
        have hp5 : (s.length : Int) ≤ (q : Int) + 1 := by omega
        clear ea eu e3 hre hr hb hqi hrp
        generalize s[q] = x at *
        go_enter Try.func13, Try.ntmps13
        go_wp2_with fail
        refine (right_any s _ c _ hl hn).mono ?_
        rintro e _ ⟨rfl, rfl⟩
        rw [Hr.out]
        go_wp2
        go_ret3
        exact ⟨rfl, 0, rfl⟩
      · have hlt2 : p < (s.length : Int) := by omega
        rw [show marL s p = -1000000 by unfold marL; rw [if_pos e3, if_neg (by omega), hre, eu], show marH s p = -s[q] by unfold marH; rw [if_pos e3, if_pos (by omega), hre, ea], e3]
        have hd : (s.length : Int) - p = (q : Int) + 1 := by omega
        have hi1 : (0 : Int) ≤ (q : Int) := by omega
        have hi2 : (q : Int) < (s.length : Int) := by omega
        have hp5 : (s.length : Int) ≤ (q : Int) + 1 := by omega
        clear ea eu e3 hre hr hb hqi hrp
        generalize s[q] = x at *
        go_enter Try.func13, Try.ntmps13
        go_wp2_with fail
        refine (right_any s _ c _ hl hn).mono ?_
        rintro e _ ⟨rfl, rfl⟩
        rw [Hr.out]
        go_wp2
        go_quiet (fail)
        go_wp2
        go_ret3
        exact ⟨rfl, _, rfl⟩
  · have hr' : rightS s = false := by simpa using hr
    have e3 : marE s p = 2 := by unfold marE; rw [if_neg hr]
    obtain ⟨e1, e2⟩ := marBad s p (by omega)
    rw [e1, e2, e3]
    have Hr := Lib.hid hr'
    clear e1 e2 e3 hr hr'
    go_enter Try.func13, Try.ntmps13
    go_wp2_with fail
    refine (right_any s A c _ hl hn).mono ?_
    rintro e _ ⟨rfl, rfl⟩
    rw [Hr.out]
    go_wp2
    go_ret3
    exact ⟨rfl, 0, rfl⟩

theorem okT_of (s l : List Int) (hr : rightS s = true) (h : ∀ j (hj : j < l.length), j < l.length → okM s l[j] = true) : okT s l = true := by
  unfold okT; rw [hr, Bool.true_and, List.all_eq_true]
  intro x hx
  obtain ⟨j, hj, rfl⟩ := List.getElem_of_mem hx
  exact h j hj hj
theorem okT_false (s l : List Int) (h : okT s l = false) : totA s l = 0 ∧ totB s l = 0 ∧ totE s l = 2 := by
  unfold totA totB totE; rw [h]; exact ⟨rfl, rfl, rfl⟩
theorem okT_bad (s l : List Int) (k : Nat) (hk : k < l.length) (h : okM s l[k] = false) : okT s l = false := by
  unfold okT
  rw [Bool.and_eq_false_iff]; right
  rw [List.all_eq_false]
  exact ⟨l[k], List.getElem_mem hk, by simp [h]⟩

set_option maxHeartbeats 1000000 in
theorem total_any (s l : List Int) (A A' : Option Addr) (c c' : Nat) (w : World) (hl : Rd w w.heap.size 1 A s.length (iC s)) (hn : s.length ≤ 4611686018427387904)
    (hl' : Rd w w.heap.size 1 A' l.length (iC l)) (hn' : l.length ≤ 1000000) :
    Calls Try.prog 18 #[.slice A s.length c, .slice A' l.length c'] w fun e w' => e = .returned (.tuple #[.int .i64 (totA s l), .int .i64 (totB s l), .int .i64 (totE s l)]) ∧ Below w.heap.size w w' := by
  by_cases hr : rightS s = true
  · have Hr := Lib.hid hr
    clear hr
    go_enter Try.func18, Try.ntmps18
    go_wp2_with fail
    refine (right_any s A c _ hl hn).mono ?_
    rintro e _ ⟨rfl, rfl⟩
    rw [Hr.out]
    go_wp2
    go_loopw [7, 8, 19] (fun a b i wr => ∃ k : Nat, k ≤ l.length ∧ i = .int .i64 (k : Int) ∧ a = .int .i64 (sumA s l k) ∧ b = .int .i64 (sumB s l k) ∧ Hid (∀ j (hj : j < l.length), j < k → okM s l[j] = true) ∧ Below w.heap.size w wr) (fun _ _ i _ => l.length - (intOf i).toNat)
    case atStart => exact ⟨0, by omega, rfl, rfl, rfl, fun j _ h => by omega, Below.refl _ _⟩
    case round =>
      obtain ⟨k, hk, rfl, rfl, rfl, hok, hbel⟩ := hrel
      by_cases hlt : k < l.length
      · obtain ⟨b, off, rfl, hbw, hc⟩ := rd_i hl' k hlt
        have hd := (bcell hbel b (off + k) hbw).trans hc
        have hsr := hbel.size
        have hl1 := (hl.below hbel).more hsr
        have hsb := sum_bd s l k hk
        have hpb := pts_bd s l[k]
        have HA := Lib.hid (sumA_succ s l k hlt)
        have HB := Lib.hid (sumB_succ s l k hlt)
        clear hc
        by_cases hm : okM s l[k] = true
        · have HE := Lib.hid (show ptsE s l[k] = 0 by unfold ptsE; rw [if_pos hm])
          have Hm := Lib.hid hm
          clear hm
          go_wp2_with fail
          refine (points_any s l[k] A c _ hl1 hn).mono ?_
          rintro e w1 ⟨rfl, hb1⟩
          rw [HE.out]
          go_wp2
          go_roundw
          case rel =>
            refine ⟨k + 1, by omega, by go_num, int_eq HA.out.symm, int_eq HB.out.symm, fun j hj h => ?_, hbel.trans (hb1.mono hsr)⟩
            by_cases e : j = k
            · subst e; exact Hm.out
            · exact hok.out j hj (by omega)
          case measure => simp [intOf]; omega
        · have hm' : okM s l[k] = false := by simpa using hm
          have HE := Lib.hid (show ptsE s l[k] = 2 by unfold ptsE; rw [if_neg hm])
          have HT := Lib.hid (okT_false s l (okT_bad s l k hlt hm'))
          clear hm hm'
          go_wp2_with fail
          refine (points_any s l[k] A c _ hl1 hn).mono ?_
          rintro e w1 ⟨rfl, hb1⟩
          rw [HE.out]
          go_wp2
          go_ret3
          exact ⟨by rw [HT.out.1, HT.out.2.1, HT.out.2.2]; rfl, hbel.trans (hb1.mono hsr)⟩
      · obtain rfl : k = l.length := by omega
        have hT := okT_of s l Hr.out hok.out
        have HT := Lib.hid (show totA s l = sumA s l l.length ∧ totB s l = sumB s l l.length ∧ totE s l = 0 by unfold totA totB totE; rw [hT]; exact ⟨rfl, rfl, rfl⟩)
        clear hT
        go_wp2
        go_ret3
        exact ⟨by rw [HT.out.1, HT.out.2.1, HT.out.2.2]; rfl, hbel⟩
  · have hr' : rightS s = false := by simpa using hr
    obtain ⟨e1, e2, e3⟩ := okT_false s l (by unfold okT; rw [hr']; rfl)
    rw [e1, e2, e3]
    have Hr := Lib.hid hr'
    clear e1 e2 e3 hr hr'
    go_enter Try.func18, Try.ntmps18
    go_wp2_with fail
    refine (right_any s A c _ hl hn).mono ?_
    rintro e _ ⟨rfl, rfl⟩
    rw [Hr.out]
    go_wp2
    go_ret3
    exact ⟨rfl, Below.refl _ _⟩

end Go.Proofs.Ytkdbkokiieolpaa
