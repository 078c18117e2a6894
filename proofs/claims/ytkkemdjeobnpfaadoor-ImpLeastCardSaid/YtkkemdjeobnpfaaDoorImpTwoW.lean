/- The walks of the statements ImpTwo and ImpLeast, and the plain laws behind them. -/
import Derived.Test.YtkkemdjeobnpfaaDoorImpW3
namespace Go.Proofs.YtkkemdjeobnpfaaDoor
open Go.RowKit

/-- Two least differences of higher numbers together are above the least difference of the next but one. -/
theorem scale_add (p q : Nat) (h : p + q + 1 < 24) : scaleL.getD p 0 + scaleL.getD q 0 - 2 < scaleL.getD (p + q + 1) 0 := by
  have : ∀ p q : Fin 24, p.1 + q.1 + 1 < 24 → scaleL.getD p.1 0 + scaleL.getD q.1 0 - 2 < scaleL.getD (p.1 + q.1 + 1) 0 := by decide +kernel
  exact this ⟨p, by omega⟩ ⟨q, by omega⟩ h
theorem impV_add (x y : Int) (hx : 0 ≤ x) (hy : 0 ≤ y) : impV (x + y) ≤ impV x + impV y + 1 := by
  obtain ⟨p, hp, ep, _, p2⟩ := imp_place x hx
  obtain ⟨q, hq, eq_, _, q2⟩ := imp_place y hy
  obtain ⟨r, hr, er, r1, _⟩ := imp_place (x + y) (by omega)
  rw [ep, eq_, er]
  by_cases h : r ≤ p + q + 1
  · omega
  · have h1 := r1 (p + q + 1) (by omega)
    have h2 := p2 (by omega)
    have h3 := q2 (by omega)
    have h4 := scale_add p q (by omega)
    omega
theorem impV_nonneg (x : Int) (hx : 0 ≤ x) : 0 ≤ impV x := by
  obtain ⟨p, hp, ep, _⟩ := imp_place x hx
  omega

set_option maxHeartbeats 1000000 in
theorem impTwo_walk (a b : Int) (ha : 0 ≤ a ∧ a ≤ 4294967295) (hb : 0 ≤ b ∧ b ≤ 4294967295) (w : World) (hg : Laid w) :
    Calls Tryd.prog 6 #[.int .u32 a, .int .u32 b] w fun e w' => e = .returned (.bool true) ∧ Below w.heap.size w w' := by
  have hx0 : 0 ≤ a % 1000001 ∧ a % 1000001 ≤ 1000000 := by omega
  have hy0 : 0 ≤ b % 1000001 ∧ b % 1000001 ≤ 1000000 := by omega
  have q1 := imp_mono (a % 1000001) (a % 1000001 + b % 1000001) (by omega)
  have q2 := imp_mono (b % 1000001) (a % 1000001 + b % 1000001) (by omega)
  have q3 := impV_add (a % 1000001) (b % 1000001) (by omega) (by omega)
  have q4 := impV_nonneg (a % 1000001) (by omega)
  have q5 := (imp_bd (a % 1000001 + b % 1000001)).2
  have q6 := imp_mono (a % 1000001 - b % 1000001) (a % 1000001) (by omega)
  have q7 := imp_mono (-(b % 1000001)) (a % 1000001 - b % 1000001) (by omega)
  have q9 := impV_nonneg (b % 1000001) (by omega)
  have e1 := Lib.hid (imp_neg (a % 1000001))
  have e2 := Lib.hid (show impV (-(a % 1000001) - b % 1000001) = -impV (a % 1000001 + b % 1000001) by rw [← imp_neg]; congr 1; omega)
  rw [imp_neg] at q7
  have q8 := imp_bd (a % 1000001 - b % 1000001)
  go_enter Tryd.func6, Tryd.ntmps6
  go_wp2_with fail
  generalize a % 1000001 = x at *
  generalize b % 1000001 = y at *
  refine (imp_any _ _ hg).mono ?_
  rintro e _ ⟨rfl, rfl⟩
  go_wp2_with fail
  refine (imp_any _ _ hg).mono ?_
  rintro e _ ⟨rfl, rfl⟩
  go_wp2_with fail
  refine (imp_any _ _ hg).mono ?_
  rintro e _ ⟨rfl, rfl⟩
  go_wp2_with fail
  all_goals
    refine (imp_any _ _ hg).mono ?_
    rintro e _ ⟨rfl, rfl⟩
    rw [e1.out]
    go_wp2_with fail
    refine (imp_any _ _ hg).mono ?_
    rintro e _ ⟨rfl, rfl⟩
    rw [e2.out]
    go_wp2_with fail
    refine (imp_any _ _ hg).mono ?_
    rintro e _ ⟨rfl, rfl⟩
    go_wp2_with fail
    refine (imp_any _ _ hg).mono ?_
    rintro e _ ⟨rfl, rfl⟩
    go_wp2_with fail
    refine (awake_any _ hg).mono ?_
    rintro e w5 ⟨rfl, hb5⟩
    go_wp2
    go_ret
    exact ⟨rfl, hb5⟩

/-- The least difference of n match points. -/
theorem leastV_pos (k : Nat) (h : k < 24) : leastV ((k : Int) + 1) = scaleL.getD k 0 := by
  unfold leastV
  rw [if_neg (by omega), show ((k : Int) + 1 - 1).toNat = k by omega]
theorem leastE_ok (k : Int) (h : 0 ≤ k ∧ k ≤ 24) : leastE k = 0 := by unfold leastE; rw [if_neg (by omega)]
theorem leastV_imp (n : Int) (h : 0 ≤ n ∧ n ≤ 24) : impV (leastV n) = n ∧ (0 < n → impV (leastV n - 1) = n - 1) ∧ (n = 0 → leastV n = 0) ∧ 0 ≤ leastV n ∧ leastV n ≤ 4000 := by
  have key : ∀ n : Fin 25, impV (leastV n.1) = n.1 ∧ (0 < n.1 → impV (leastV n.1 - 1) = n.1 - 1) ∧ (n.1 = 0 → leastV n.1 = 0) ∧ 0 ≤ leastV n.1 ∧ leastV n.1 ≤ 4000 := by decide +kernel
  obtain ⟨m, rfl⟩ : ∃ m : Nat, n = m := ⟨n.toNat, by omega⟩
  obtain ⟨t1, t2, t3, t4⟩ := key ⟨m, by omega⟩
  exact ⟨t1, fun h => t2 (by simpa using h), fun h => t3 (by simpa using h), t4⟩
theorem leastV_low (x : Int) (hx : 0 ≤ x) : 0 ≤ impV x ∧ impV x ≤ 24 ∧ leastV (impV x) ≤ x ∧ (impV x < 24 → x < leastV (impV x + 1)) := by
  obtain ⟨p, hp, ep, p1, p2⟩ := imp_place x hx
  rw [ep]
  refine ⟨by omega, by omega, ?_, fun h => ?_⟩
  · by_cases h0 : p = 0
    · subst h0
      have : leastV ((0 : Nat) : Int) = 0 := by decide
      omega
    · obtain ⟨m, rfl⟩ : ∃ m, p = m + 1 := ⟨p - 1, by omega⟩
      have := leastV_pos m (by omega)
      have := p1 m (by omega)
      have e : ((m + 1 : Nat) : Int) = (m : Int) + 1 := by omega
      rw [e]; omega
  · rw [leastV_pos p (by omega)]
    exact p2 (by omega)

set_option maxHeartbeats 1000000 in
theorem impLeast_walk (n d : Int) (hn : 0 ≤ n ∧ n ≤ 255) (hd : 0 ≤ d ∧ d ≤ 4294967295) (w : World) (hg : Laid w) :
    Calls Tryd.prog 7 #[.int .u8 n, .int .u32 d] w fun e w' => e = .returned (.bool true) ∧ Below w.heap.size w w' := by
  have hk0 : 0 ≤ n % 25 ∧ n % 25 ≤ 24 := by omega
  have hx0 : 0 ≤ d % 1000001 ∧ d % 1000001 ≤ 1000000 := by omega
  obtain ⟨k1, k2, k3, k4, k5⟩ := leastV_imp (n % 25) hk0
  obtain ⟨x1, x2, x3, x4⟩ := leastV_low (d % 1000001) hx0.1
  have K1 := Lib.hid k1
  have E1 := Lib.hid (leastE_ok (n % 25) hk0)
  have E2 := Lib.hid (leastE_ok (impV (d % 1000001)) ⟨x1, x2⟩)
  clear k1
  by_cases hm : impV (d % 1000001) < 24 <;> by_cases hk : 0 < n % 25
  · skip
    have K2 := Lib.hid (k2 hk)
    have kz : (n % 25 == 0) = false := beq_eq_false_iff_ne.2 (by omega)
    clear k2 k3
    have E3 := Lib.hid (leastE_ok (impV (d % 1000001) + 1) (by omega))
    have x5 := x4 hm
    clear x4
    go_enter Tryd.func7, Tryd.ntmps7
    go_wp2_with fail
    generalize n % 25 = k at *
    refine (least_any _ _ hg).mono ?_
    rintro e _ ⟨rfl, rfl⟩
    rw [E1.out]
    go_wp2_with fail
    refine (imp_any _ _ hg).mono ?_
    rintro e _ ⟨rfl, rfl⟩
    rw [K1.out]
    go_wp2_with fail
    refine (imp_any _ _ hg).mono ?_
    rintro e _ ⟨rfl, rfl⟩
    rw [K2.out]
    go_wp2_with fail
    refine (imp_any _ _ hg).mono ?_
    rintro e _ ⟨rfl, rfl⟩
    go_wp2_with fail
    refine (least_any _ _ hg).mono ?_
    rintro e _ ⟨rfl, rfl⟩
    rw [E2.out]
    go_wp2_with fail
    refine (least_any _ _ hg).mono ?_
    rintro e _ ⟨rfl, rfl⟩
    rw [E3.out]
    go_wp2_with fail
    refine (awake_any _ hg).mono ?_
    rintro e w5 ⟨rfl, hb5⟩
    go_wp2
    go_ret
    exact ⟨rfl, hb5⟩
  · skip
    have e0 : n % 25 = 0 := by omega
    have kz : (n % 25 == 0) = true := beq_iff_eq.2 e0
    have kl : (leastV (n % 25) != 0) = false := by rw [k3 e0]; rfl
    clear e0 k2 k3
    have E3 := Lib.hid (leastE_ok (impV (d % 1000001) + 1) (by omega))
    have x5 := x4 hm
    clear x4
    go_enter Tryd.func7, Tryd.ntmps7
    go_wp2_with fail
    generalize n % 25 = k at *
    refine (least_any _ _ hg).mono ?_
    rintro e _ ⟨rfl, rfl⟩
    rw [E1.out]
    go_wp2_with fail
    refine (imp_any _ _ hg).mono ?_
    rintro e _ ⟨rfl, rfl⟩
    rw [K1.out]
    go_wp2_with fail
    refine (imp_any _ _ hg).mono ?_
    rintro e _ ⟨rfl, rfl⟩
    go_wp2_with fail
    refine (least_any _ _ hg).mono ?_
    rintro e _ ⟨rfl, rfl⟩
    rw [E2.out]
    go_wp2_with fail
    refine (least_any _ _ hg).mono ?_
    rintro e _ ⟨rfl, rfl⟩
    rw [E3.out]
    go_wp2_with fail
    refine (awake_any _ hg).mono ?_
    rintro e w5 ⟨rfl, hb5⟩
    go_wp2
    go_ret
    exact ⟨rfl, hb5⟩
  · skip
    have K2 := Lib.hid (k2 hk)
    have kz : (n % 25 == 0) = false := beq_eq_false_iff_ne.2 (by omega)
    clear k2 k3
    clear x4
    go_enter Tryd.func7, Tryd.ntmps7
    go_wp2_with fail
    generalize n % 25 = k at *
    refine (least_any _ _ hg).mono ?_
    rintro e _ ⟨rfl, rfl⟩
    rw [E1.out]
    go_wp2_with fail
    refine (imp_any _ _ hg).mono ?_
    rintro e _ ⟨rfl, rfl⟩
    rw [K1.out]
    go_wp2_with fail
    refine (imp_any _ _ hg).mono ?_
    rintro e _ ⟨rfl, rfl⟩
    rw [K2.out]
    go_wp2_with fail
    refine (imp_any _ _ hg).mono ?_
    rintro e _ ⟨rfl, rfl⟩
    go_wp2_with fail
    refine (least_any _ _ hg).mono ?_
    rintro e _ ⟨rfl, rfl⟩
    rw [E2.out]
    go_wp2_with fail
    refine (awake_any _ hg).mono ?_
    rintro e w5 ⟨rfl, hb5⟩
    go_wp2
    go_ret
    exact ⟨rfl, hb5⟩
  · skip
    have e0 : n % 25 = 0 := by omega
    have kz : (n % 25 == 0) = true := beq_iff_eq.2 e0
    have kl : (leastV (n % 25) != 0) = false := by rw [k3 e0]; rfl
    clear e0 k2 k3
    clear x4
    go_enter Tryd.func7, Tryd.ntmps7
    go_wp2_with fail
    generalize n % 25 = k at *
    refine (least_any _ _ hg).mono ?_
    rintro e _ ⟨rfl, rfl⟩
    rw [E1.out]
    go_wp2_with fail
    refine (imp_any _ _ hg).mono ?_
    rintro e _ ⟨rfl, rfl⟩
    rw [K1.out]
    go_wp2_with fail
    refine (imp_any _ _ hg).mono ?_
    rintro e _ ⟨rfl, rfl⟩
    go_wp2_with fail
    refine (least_any _ _ hg).mono ?_
    rintro e _ ⟨rfl, rfl⟩
    rw [E2.out]
    go_wp2_with fail
    refine (awake_any _ hg).mono ?_
    rintro e w5 ⟨rfl, hb5⟩
    go_wp2
    go_ret
    exact ⟨rfl, hb5⟩

end Go.Proofs.YtkkemdjeobnpfaaDoor
