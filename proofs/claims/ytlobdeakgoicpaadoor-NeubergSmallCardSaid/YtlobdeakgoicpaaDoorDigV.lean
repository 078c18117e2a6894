/- The walks of the digit lists of finesseref01: whole, less, number. -/
import Derived.Test.YtlobdeakgoicpaaDoorDigW
namespace Go.Proofs.YtlobdeakgoicpaaDoor
open Go.RowKit

theorem div_lt {a b P : Nat} (h : a / P < b / P) : a < b := by
  rcases Nat.lt_or_ge a b with h1 | h1
  · exact h1
  · have := Nat.div_le_div_right (c := P) h1; omega

set_option maxRecDepth 100000 in
set_option maxHeartbeats 1000000 in
theorem r01less (a b : Nat) (A B : Option Addr) (ca cb : Nat) (w : World) (ha : DS w a (ln a) A ca) (hb : DS w b (ln b) B cb) (hla : ln a ≤ 1000) (hlb : ln b ≤ 1000) :
    Calls Tryd.prog 67 #[.slice A (ln a) ca, .slice B (ln b) cb] w fun e w' => e = .returned (.bool (decide (a < b))) ∧ ∃ n, w' = w.drewN n := by
  have HA := Lib.hid ha
  have HB := Lib.hid hb
  have hla0 : a < Bs ^ ln a := ln_lt a
  have hlb0 : b < Bs ^ ln b := ln_lt b
  have HGa := Lib.hid (fun k => @ln_ge a k)
  have HGb := Lib.hid (fun k => @ln_ge b k)
  have HLa := Lib.hid hla0
  have HLb := Lib.hid hlb0
  clear ha hb hla0 hlb0
  generalize ln a = la at *
  generalize ln b = lb at *
  obtain ⟨r, hr⟩ : ∃ r, decide (a < b) = r := ⟨_, rfl⟩
  rw [hr]
  have Hr := Lib.hid hr
  clear hr
  by_cases hne : la = lb
  · subst hne
    have t1 : ((la : Int) != (la : Int)) = false := by simp
    go_enter Tryd.func67, Tryd.ntmps67
    go_wp2
    go_loopw [5] (fun i wr => ∃ j nq : Nat, j ≤ la ∧ i = .int .i64 ((j : Int) - 1) ∧ Hid (a / Bs ^ j = b / Bs ^ j) ∧ wr = w.drewN nq) (fun i _ => (intOf i + 1).toNat)
    case atStart => exact ⟨la, 0, Nat.le_refl _, rfl, (by rw [Nat.div_eq_of_lt HLa.out, Nat.div_eq_of_lt HLb.out] : a / Bs ^ la = b / Bs ^ la), rfl⟩
    case round =>
      obtain ⟨j, nq, hj, rfl, hz, rfl⟩ := hrel
      by_cases h0 : 0 < j
      · obtain ⟨i, rfl⟩ : ∃ i, j = i + 1 := ⟨j - 1, by omega⟩
        obtain ⟨pa, oa, rfl, hpa, qa⟩ := HA.out.digit i (by omega)
        obtain ⟨pb, ob, rfl, hpb, qb⟩ := HB.out.digit i (by omega)
        have e1 : (((i + 1 : Nat) : Int)) - 1 = (i : Int) := by omega
        have c1 : (0 : Int) ≤ (i : Int) := by omega
        have c2 : (i : Int) < (la : Int) := by omega
        have Ha1 := Lib.hid (dg_top a i)
        have Hb1 := Lib.hid (dg_top b i)
        rw [e1]
        generalize dg a i = da at *
        generalize dg b i = db at *
        by_cases hd : da = db
        · subst hd
          have t2 : ((da : Int) != (da : Int)) = false := by simp
          go_wp2
          go_quiet (fail)
          go_wp2
          go_roundw
          case rel => exact ⟨i, _, by omega, rfl, Lib.hid (by rw [Ha1.out, Hb1.out, show a / Bs ^ (i + 1) = b / Bs ^ (i + 1) from hz.out]), rfl⟩
          case measure => simp [intOf]
        · have t2 : ((da : Int) != (db : Int)) = true := by simp; omega
          have HR := Lib.hid (show decide (da < db) = r by
            rw [← Hr.out]
            have h1 := Ha1.out
            have h2 := Hb1.out
            have h3 : a / Bs ^ (i + 1) = b / Bs ^ (i + 1) := hz.out
            by_cases hlt : da < db
            · rw [decide_eq_true (by omega), decide_eq_true (div_lt (P := Bs ^ i) (by omega))]
            · rw [decide_eq_false (by omega), decide_eq_false]
              intro h
              have := div_lt (a := b) (b := a) (P := Bs ^ i) (by omega)
              omega)
          go_wp2
          go_quiet (fail)
          go_wp2
          go_quiet (fail)
          go_wp2
          go_ret
          exact ⟨by rw [← HR.out]; rfl, _, by rw [World.drewN_drewN, World.drewN_drewN]⟩
      · obtain rfl : j = 0 := by omega
        have HR := Lib.hid (show false = r by
          rw [← Hr.out]
          have h3 : a / Bs ^ 0 = b / Bs ^ 0 := hz.out
          simp at h3
          rw [h3]; simp)
        go_wp2
        go_ret
        exact ⟨by rw [← HR.out]; rfl, _, rfl⟩
  · have t1 : ((la : Int) != (lb : Int)) = true := by simp; omega
    have HR := Lib.hid (show decide (la < lb) = r by
      rw [← Hr.out]
      by_cases hlt : la < lb
      · rw [decide_eq_true (by omega), decide_eq_true (Nat.lt_of_lt_of_le HLa.out (HGb.out la hlt))]
      · rw [decide_eq_false (by omega), decide_eq_false]
        intro h
        have := Nat.lt_of_lt_of_le HLb.out (HGa.out lb (by omega))
        omega)
    clear hne
    go_enter Tryd.func67, Tryd.ntmps67
    go_wp2
    go_ret
    exact ⟨by rw [← HR.out]; rfl, 0, rfl⟩

set_option maxRecDepth 100000 in
set_option maxHeartbeats 1000000 in
theorem r01whole (n : Int) (w : World) (hn : -9223372036854775808 ≤ n ∧ n ≤ 9223372036854775807) :
    Calls Tryd.prog 65 #[.int .i64 n] w (OutD n.natAbs w) := by
  obtain ⟨i0, hi, hz0, hz1, hz2⟩ := info_parts info_int
  obtain ⟨N, hN⟩ : ∃ N, n.natAbs = N := ⟨_, rfl⟩
  rw [hN]
  have hNb : N ≤ 9223372036854775808 := by omega
  have HQ : ∀ k, N / Bs ^ k ≤ 9223372036854775808 := fun k => Nat.le_trans (Nat.div_le_self _ _) hNb
  by_cases hneg : n < 0
  · obtain rfl : n = -(N : Int) := by omega
    clear hneg hN hn
    go_enter Tryd.func65, Tryd.ntmps65
    go_wp2
    go_loopw [0, 3] (fun x v wr => ∃ k : Nat, k ≤ 4 ∧ x = .int .i64 (-((N / Bs ^ k : Nat) : Int)) ∧ Hid (k = 0 ∨ Bs ^ (k - 1) ≤ N) ∧ Hid (wr.ownsRow w.heap.size 3 1 v k (dC N k)) ∧ Hid (Below w.heap.size w wr)) (fun x _ _ => (intOf x).natAbs)
    case atStart => exact ⟨0, by omega, by simp, .inl rfl, own_nil, Below.refl _ _⟩
    case round =>
      obtain ⟨k, hk, rfl, hmin, hown, hbel⟩ := hrel
      have hq := HQ k
      have HD := Lib.hid (dg_top N k)
      have HDs := Lib.hid (div_succ N k)
      have hdg : dg N k = N / Bs ^ k % 65536 := rfl
      by_cases h0 : N / Bs ^ k = 0
      · have hlt : N < Bs ^ k := by
          rcases Nat.lt_or_ge N (Bs ^ k) with h5 | h5
          · exact h5
          · have := Nat.div_pos h5 (bs_pos k); omega
        have HE := Lib.hid (ln_eq hlt hmin.out)
        rw [h0]
        obtain ⟨A1, c1, rfl⟩ := own_form hown.out
        have HDS := Lib.hid (DS.of_own hown.out)
        have HNw := Lib.hid (own_new hown.out)
        clear HD HDs hdg h0 hlt
        go_wp2
        go_ret
        exact ⟨A1, c1, by rw [HE.out]; rfl, by rw [HE.out]; exact HDS.out, HNw.out, hbel.out⟩
      · have hk4 : k < 4 := by
          rcases Nat.lt_or_ge k 4 with h5 | h5
          · exact h5
          · obtain rfl : k = 4 := by omega
            exact absurd (Nat.div_eq_of_lt (show N < Bs ^ 4 by show N < 18446744073709551616; omega)) h0
        have hge : Bs ^ k ≤ N := by
          rcases Nat.lt_or_ge N (Bs ^ k) with h5 | h5
          · exact absurd (Nat.div_eq_of_lt h5) h0
          · exact h5
        have HGe := Lib.hid hge
        have HDs2 := Lib.hid HDs.out
        have hdd : dg N k = N / Bs ^ k % 65536 := rfl
        have Hdd := Lib.hid hdd
        clear hge HD HDs hdg hdd
        generalize N / Bs ^ k = q at *
        have t1 : ((-((q : Nat) : Int)) != 0) = true := by simp; omega
        have m1 : Int.tmod (-((q : Nat) : Int)) 65536 = (-((q % 65536 : Nat) : Int)) := by rw [Int.neg_tmod, Int.tmod_eq_emod_of_nonneg (by omega)]; omega
        have m2 : Int.tdiv (-((q : Nat) : Int)) 65536 = (-((q / 65536 : Nat) : Int)) := by rw [Int.neg_tdiv, Int.tdiv_eq_ediv_of_nonneg (by omega)]; omega
        have hd1 : q % 65536 < 65536 := Nat.mod_lt _ (by decide)
        have hqlt : q / 65536 < q := by omega
        generalize q % 65536 = d at *
        generalize q / 65536 = q2 at *
        have s1 : IntKind.i64.wrap (d : Int) = (d : Int) := IntWalk.i64_in _ (by omega)
        by_cases hd0 : d = 0
        · subst hd0
          go_wp2_with (at_builtin; refine wpList_append_own _ rfl _ _ 52 rfl w.heap.size 3 i0 (.int .i64 0) 1 8 Tryd.underlying52 hi hz0 hz1 hz2 rfl (by decide) _ _ _ rfl (hown.out.alloc _) ⟨wr.heap.size, 0, none⟩ 1 1 [.int .i64 0] rfl rfl (cell_one_new _ _ _) (by simp [Value.oneCell']) ?c3a ?c4a ?c5a ?_)
          case c3a => unfold maxLen; omega
          case c4a => omega
          case c5a => first | exact Nat.le_succ_of_le hbel.out.size | (simp; exact Nat.le_succ_of_le hbel.out.size)
          intro v' w1 hown1 hgrow _
          have HO1 := Lib.hid hown1
          have HB1 := Lib.hid (show Below w.heap.size w w1 from (hbel.out.alloc hbel.out.size _).grown hgrow (by simp; exact Nat.le_succ_of_le hbel.out.size) (fun g hg => (hown.out.lt _ hg).1))
          clear hown1 hgrow
          go_wp2
          go_roundw
          case rel =>
            refine ⟨k + 1, by omega, by rw [HDs2.out], .inr HGe.out, ?_, HB1.out⟩
            show w1.ownsRow _ _ 1 v' (k + 1) (dC N (k + 1))
            rw [← dC_snoc Hdd.out]; exact HO1.out
          case measure => simp [intOf]; omega
        · have t2 : (-(d : Int)) < 0 := by omega
          have t3 : - -(d : Int) = (d : Int) := by omega
          go_wp2_with (at_builtin; refine wpList_append_own _ rfl _ _ 52 rfl w.heap.size 3 i0 (.int .i64 0) 1 8 Tryd.underlying52 hi hz0 hz1 hz2 rfl (by decide) _ _ _ rfl (hown.out.alloc _) ⟨wr.heap.size, 0, none⟩ 1 1 [.int .i64 (d : Int)] rfl rfl (cell_one_new _ _ _) (by simp [Value.oneCell']) ?c3b ?c4b ?c5b ?_)
          case c3b => unfold maxLen; omega
          case c4b => omega
          case c5b => first | exact Nat.le_succ_of_le hbel.out.size | (simp; exact Nat.le_succ_of_le hbel.out.size)
          intro v' w1 hown1 hgrow _
          have HO1 := Lib.hid hown1
          have HB1 := Lib.hid (show Below w.heap.size w w1 from (hbel.out.alloc hbel.out.size _).grown hgrow (by simp; exact Nat.le_succ_of_le hbel.out.size) (fun g hg => (hown.out.lt _ hg).1))
          clear hown1 hgrow
          go_wp2
          go_roundw
          case rel =>
            refine ⟨k + 1, by omega, by rw [HDs2.out], .inr HGe.out, ?_, HB1.out⟩
            show w1.ownsRow _ _ 1 v' (k + 1) (dC N (k + 1))
            rw [← dC_snoc Hdd.out]; exact HO1.out
          case measure => simp [intOf]; omega
  · obtain rfl : n = (N : Int) := by omega
    clear hneg hN
    go_enter Tryd.func65, Tryd.ntmps65
    go_wp2
    go_loopw [0, 3] (fun x v wr => ∃ k : Nat, k ≤ 4 ∧ x = .int .i64 ((N / Bs ^ k : Nat) : Int) ∧ Hid (k = 0 ∨ Bs ^ (k - 1) ≤ N) ∧ Hid (wr.ownsRow w.heap.size 3 1 v k (dC N k)) ∧ Hid (Below w.heap.size w wr)) (fun x _ _ => (intOf x).natAbs)
    case atStart => exact ⟨0, by omega, by simp, .inl rfl, own_nil, Below.refl _ _⟩
    case round =>
      obtain ⟨k, hk, rfl, hmin, hown, hbel⟩ := hrel
      have hq := HQ k
      have HD := Lib.hid (dg_top N k)
      have HDs := Lib.hid (div_succ N k)
      have hdg : dg N k = N / Bs ^ k % 65536 := rfl
      by_cases h0 : N / Bs ^ k = 0
      · have hlt : N < Bs ^ k := by
          rcases Nat.lt_or_ge N (Bs ^ k) with h5 | h5
          · exact h5
          · have := Nat.div_pos h5 (bs_pos k); omega
        have HE := Lib.hid (ln_eq hlt hmin.out)
        rw [h0]
        obtain ⟨A1, c1, rfl⟩ := own_form hown.out
        have HDS := Lib.hid (DS.of_own hown.out)
        have HNw := Lib.hid (own_new hown.out)
        clear HD HDs hdg h0 hlt
        go_wp2
        go_ret
        exact ⟨A1, c1, by rw [HE.out]; rfl, by rw [HE.out]; exact HDS.out, HNw.out, hbel.out⟩
      · have hk4 : k < 4 := by
          rcases Nat.lt_or_ge k 4 with h5 | h5
          · exact h5
          · obtain rfl : k = 4 := by omega
            exact absurd (Nat.div_eq_of_lt (show N < Bs ^ 4 by show N < 18446744073709551616; omega)) h0
        have hge : Bs ^ k ≤ N := by
          rcases Nat.lt_or_ge N (Bs ^ k) with h5 | h5
          · exact absurd (Nat.div_eq_of_lt h5) h0
          · exact h5
        have HGe := Lib.hid hge
        have HDs2 := Lib.hid HDs.out
        have hdd : dg N k = N / Bs ^ k % 65536 := rfl
        have Hdd := Lib.hid hdd
        clear hge HD HDs hdg hdd
        generalize N / Bs ^ k = q at *
        have t1 : (((q : Nat) : Int) != 0) = true := by simp; omega
        have m1 : Int.tmod ((q : Nat) : Int) 65536 = ((q % 65536 : Nat) : Int) := by rw [ Int.tmod_eq_emod_of_nonneg (by omega)]; omega
        have m2 : Int.tdiv ((q : Nat) : Int) 65536 = ((q / 65536 : Nat) : Int) := by rw [ Int.tdiv_eq_ediv_of_nonneg (by omega)]; omega
        have hd1 : q % 65536 < 65536 := Nat.mod_lt _ (by decide)
        have hqlt : q / 65536 < q := by omega
        generalize q % 65536 = d at *
        generalize q / 65536 = q2 at *
        have t2 : ¬ (d : Int) < 0 := by omega
        go_wp2_with (at_builtin; refine wpList_append_own _ rfl _ _ 52 rfl w.heap.size 3 i0 (.int .i64 0) 1 8 Tryd.underlying52 hi hz0 hz1 hz2 rfl (by decide) _ _ _ rfl (hown.out.alloc _) ⟨wr.heap.size, 0, none⟩ 1 1 [.int .i64 (d : Int)] rfl rfl (cell_one_new _ _ _) (by simp [Value.oneCell']) ?c3c ?c4c ?c5c ?_)
        case c3c => unfold maxLen; omega
        case c4c => omega
        case c5c => first | exact Nat.le_succ_of_le hbel.out.size | (simp; exact Nat.le_succ_of_le hbel.out.size)
        intro v' w1 hown1 hgrow _
        have HO1 := Lib.hid hown1
        have HB1 := Lib.hid (show Below w.heap.size w w1 from (hbel.out.alloc hbel.out.size _).grown hgrow (by simp; exact Nat.le_succ_of_le hbel.out.size) (fun g hg => (hown.out.lt _ hg).1))
        clear hown1 hgrow
        go_wp2
        go_roundw
        case rel =>
          refine ⟨k + 1, by omega, by rw [HDs2.out], .inr HGe.out, ?_, HB1.out⟩
          show w1.ownsRow _ _ 1 v' (k + 1) (dC N (k + 1))
          rw [← dC_snoc Hdd.out]; exact HO1.out
        case measure => simp [intOf]; omega

end Go.Proofs.YtlobdeakgoicpaaDoor
