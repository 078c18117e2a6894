/- Products of fractions in lowest terms. No program stands in this text. -/
import Derived.Test.YtgfnggdjjigomaaDoorFracAdd
namespace Go.Proofs.YtgfnggdjjigomaaDoor
open Go.RowKit

/-- The product of two fractions. -/
def mulF (f g : Pt) : Pt := fr (f.1 * g.1) (f.2 * g.2)

theorem times_law (n m : Int) (a b : Nat) (ha : 1 ≤ a) (hb : 1 ≤ b) (hn : Int.gcd n a = 1) (hm : Int.gcd m b = 1) (g h u v x y : Nat) (hg : g = Nat.gcd n.natAbs b) (hh : h = Nat.gcd m.natAbs a)
    (hu : u = n.natAbs / g) (hv : v = m.natAbs / h) (hx : x = a / h) (hy : y = b / g) (sg : Bool) (hsg : sg = (decide (n < 0) != decide (m < 0))) :
    mulF (n, (a : Int)) (m, (b : Int)) = ((if sg then -((u * v : Nat) : Int) else ((u * v : Nat) : Int)), ((x * y : Nat) : Int)) ∧ 1 ≤ g ∧ 1 ≤ h ∧ 1 ≤ x ∧ 1 ≤ y := by
  have hg1 : 1 ≤ g := by rw [hg]; exact Nat.gcd_pos_of_pos_right _ hb
  have hh1 : 1 ≤ h := by rw [hh]; exact Nat.gcd_pos_of_pos_right _ ha
  obtain ⟨u', hu'⟩ : g ∣ n.natAbs := hg ▸ Nat.gcd_dvd_left _ _
  obtain ⟨y', hy'⟩ : g ∣ b := hg ▸ Nat.gcd_dvd_right _ _
  obtain ⟨v', hv'⟩ : h ∣ m.natAbs := hh ▸ Nat.gcd_dvd_left _ _
  obtain ⟨x', hx'⟩ : h ∣ a := hh ▸ Nat.gcd_dvd_right _ _
  have eu : u = u' := by rw [hu, hu']; exact Nat.mul_div_cancel_left _ hg1
  have ey : y = y' := by rw [hy, hy']; exact Nat.mul_div_cancel_left _ hg1
  have ev : v = v' := by rw [hv, hv']; exact Nat.mul_div_cancel_left _ hh1
  have ex : x = x' := by rw [hx, hx']; exact Nat.mul_div_cancel_left _ hh1
  subst eu ey ev ex
  have hx1 : 1 ≤ x := by rcases Nat.eq_zero_or_pos x with h | h; (rw [h] at hx'; omega); exact h
  have hy1 : 1 ≤ y := by rcases Nat.eq_zero_or_pos y with h | h; (rw [h] at hy'; omega); exact h
  have huy : Nat.gcd u y = 1 := by
    have h1 : Nat.gcd n.natAbs b = g * Nat.gcd u y := by rw [hu', hy', Nat.gcd_mul_left]
    rw [← hg] at h1
    have : g * Nat.gcd u y = g * 1 := by omega
    exact Nat.eq_of_mul_eq_mul_left hg1 this
  have hvx : Nat.gcd v x = 1 := by
    have h1 : Nat.gcd m.natAbs a = h * Nat.gcd v x := by rw [hv', hx', Nat.gcd_mul_left]
    rw [← hh] at h1
    have : h * Nat.gcd v x = h * 1 := by omega
    exact Nat.eq_of_mul_eq_mul_left hh1 this
  have hux : Nat.gcd u x = 1 := by
    have : Nat.gcd u x ∣ Nat.gcd n.natAbs a := Nat.dvd_gcd (Nat.dvd_trans (Nat.gcd_dvd_left _ _) ⟨g, by rw [hu', Nat.mul_comm]⟩) (Nat.dvd_trans (Nat.gcd_dvd_right _ _) ⟨h, by rw [hx', Nat.mul_comm]⟩)
    rw [show Nat.gcd n.natAbs a = 1 from hn] at this
    exact Nat.dvd_one.1 this
  have hvy : Nat.gcd v y = 1 := by
    have : Nat.gcd v y ∣ Nat.gcd m.natAbs b := Nat.dvd_gcd (Nat.dvd_trans (Nat.gcd_dvd_left _ _) ⟨h, by rw [hv', Nat.mul_comm]⟩) (Nat.dvd_trans (Nat.gcd_dvd_right _ _) ⟨g, by rw [hy', Nat.mul_comm]⟩)
    rw [show Nat.gcd m.natAbs b = 1 from hm] at this
    exact Nat.dvd_one.1 this
  have hco : Nat.Coprime (u * v) (x * y) := Nat.Coprime.mul_left (Nat.Coprime.mul_right hux huy) (Nat.Coprime.mul_right hvx hvy)
  refine ⟨?_, hg1, hh1, hx1, hy1⟩
  have hs : n * m = if sg then -((n.natAbs * m.natAbs : Nat) : Int) else ((n.natAbs * m.natAbs : Nat) : Int) := by
    rw [Int.natCast_mul, hsg]
    by_cases h1 : n < 0 <;> by_cases h2 : m < 0
    · rw [show ((n.natAbs : Nat) : Int) = -n by omega, show ((m.natAbs : Nat) : Int) = -m by omega, show decide (n < 0) = true by simp [h1], show decide (m < 0) = true by simp [h2], show (true != true) = false from rfl, if_neg (by decide)]
      grind
    · rw [show ((n.natAbs : Nat) : Int) = -n by omega, show ((m.natAbs : Nat) : Int) = m by omega, show decide (n < 0) = true by simp [h1], show decide (m < 0) = false by simp [h2], show (true != false) = true from rfl, if_pos rfl]
      grind
    · rw [show ((n.natAbs : Nat) : Int) = n by omega, show ((m.natAbs : Nat) : Int) = -m by omega, show decide (n < 0) = false by simp [h1], show decide (m < 0) = true by simp [h2], show (false != true) = true from rfl, if_pos rfl]
      grind
    · rw [show ((n.natAbs : Nat) : Int) = n by omega, show ((m.natAbs : Nat) : Int) = m by omega, show decide (n < 0) = false by simp [h1], show decide (m < 0) = false by simp [h2], show (false != false) = false from rfl, if_neg (by decide)]
  obtain ⟨N, hN⟩ : ∃ N : Int, (if sg then -((u * v : Nat) : Int) else ((u * v : Nat) : Int)) = N := ⟨_, rfl⟩
  rw [hN]
  have hab : (1 : Int) ≤ (a : Int) * (b : Int) := by rw [← Int.natCast_mul]; have := Nat.mul_pos ha hb; omega
  have hxy : (1 : Int) ≤ ((x * y : Nat) : Int) := by have := Nat.mul_pos hx1 hy1; omega
  have hcr : n * m * ((x * y : Nat) : Int) = N * ((a : Int) * (b : Int)) := by
    rw [hs, ← hN, hu', hv', hx', hy']
    cases sg
    · simp only [Int.natCast_mul, Bool.false_eq_true, if_false]; grind
    · simp only [Int.natCast_mul, if_true]; grind
  have hNa : N.natAbs = u * v := by rw [← hN]; split <;> omega
  unfold mulF
  show fr (n * m) ((a : Int) * (b : Int)) = _
  rw [fr_cross _ _ N ((x * y : Nat) : Int) hab hxy hcr]
  exact fr_self (N, ((x * y : Nat) : Int)) ⟨hxy, by show Nat.gcd N.natAbs (x * y) = 1; rw [hNa]; exact hco⟩

theorem mul_plan (n m : Int) (a b : Nat) (hf : smF (n, (a : Int))) (hg : smF (m, (b : Int))) :
    ∃ (g h u v x y : Nat) (sg : Bool), Nat.gcd n.natAbs b = g ∧ Nat.gcd m.natAbs a = h ∧ n.natAbs / g = u ∧ m.natAbs / h = v ∧ a / h = x ∧ b / g = y ∧ (decide (n < 0) != decide (m < 0)) = sg ∧
      mulF (n, (a : Int)) (m, (b : Int)) = ((if sg then -((u * v : Nat) : Int) else ((u * v : Nat) : Int)), ((x * y : Nat) : Int)) ∧
      1 ≤ g ∧ g ≤ 1000000 ∧ 1 ≤ h ∧ h ≤ 1000000 ∧ u ≤ 1000000000 ∧ v ≤ 1000000000 ∧ x ≤ 1000000 ∧ y ≤ 1000000 ∧ u * v ≤ 1000000000000000000 ∧ x * y ≤ 1000000000000 ∧ n.natAbs ≤ 1000000000 ∧ m.natAbs ≤ 1000000000 ∧ 1 ≤ a ∧ a ≤ 1000000 ∧ 1 ≤ b ∧ b ≤ 1000000 := by
  obtain ⟨⟨ha1, hga⟩, hn, ha⟩ := hf
  obtain ⟨⟨hb1, hgb⟩, hm, hb⟩ := hg
  dsimp only at *
  obtain ⟨e1, e2, e3, -, -⟩ := times_law n m a b (by omega) (by omega) hga hgb _ _ _ _ _ _ rfl rfl rfl rfl rfl rfl _ rfl
  have d1 : Nat.gcd n.natAbs b ≤ b := Nat.gcd_le_right _ (by omega)
  have d2 : Nat.gcd m.natAbs a ≤ a := Nat.gcd_le_right _ (by omega)
  have d3 := Nat.div_le_self n.natAbs (Nat.gcd n.natAbs b)
  have d4 := Nat.div_le_self m.natAbs (Nat.gcd m.natAbs a)
  have d5 := Nat.div_le_self a (Nat.gcd m.natAbs a)
  have d6 := Nat.div_le_self b (Nat.gcd n.natAbs b)
  refine ⟨_, _, _, _, _, _, _, rfl, rfl, rfl, rfl, rfl, rfl, rfl, e1, e2, by omega, e3, by omega, by omega, by omega, by omega, by omega, ?_, ?_, by omega, by omega, by omega, by omega, by omega, by omega⟩
  · exact Nat.le_trans (Nat.mul_le_mul (show _ ≤ 1000000000 by omega) (show _ ≤ 1000000000 by omega)) (by decide)
  · exact Nat.le_trans (Nat.mul_le_mul (show _ ≤ 1000000 by omega) (show _ ≤ 1000000 by omega)) (by decide)

theorem mul_fr (k p : Int) (D q : Int) (hD : 1 ≤ D) (hq : 1 ≤ q) : mulF (fr k D) (fr p q) = fr (k * p) (D * q) := by
  have e1 := fr_val k D hD
  have e2 := fr_val p q hq
  have d1 := (fr_den k D hD).1
  have d2 := (fr_den p q hq).1
  unfold mulF
  generalize fr k D = f at *
  generalize fr p q = g at *
  have h1 := Int.mul_le_mul d1 d2 (by omega) (by omega)
  have h2 := Int.mul_le_mul hD hq (by omega) (by omega)
  refine fr_cross _ _ _ _ (by omega) (by omega) ?_
  rw [show f.1 * g.1 * (D * q) = (f.1 * D) * (g.1 * q) by grind, e1, e2]; grind

theorem add_frD (k l D : Int) (hD : 1 ≤ D) : addF (fr k D) (fr l D) = fr (k + l) D := by
  have e1 := fr_val k D hD
  have e2 := fr_val l D hD
  have d1 := (fr_den k D hD).1
  have d2 := (fr_den l D hD).1
  unfold addF
  generalize fr k D = f at *
  generalize fr l D = g at *
  have h1 := Int.mul_le_mul d1 d2 (by omega) (by omega)
  refine fr_cross _ _ _ _ (by omega) hD ?_
  rw [Int.add_mul, Int.mul_right_comm f.1, e1, Int.mul_right_comm g.1, e2, Int.add_mul, Int.mul_assoc k, Int.mul_assoc l, Int.mul_comm g.2 f.2]

theorem sm_frD (k D : Int) (hD : 1 ≤ D ∧ D ≤ 1000000) (h : -1000000000 ≤ k ∧ k ≤ 1000000000) : smF (fr k D) := by
  have h1 := fr_isF k D hD.1
  have h2 := fr_num k D hD.1
  have h3 := fr_den k D hD.1
  exact ⟨h1, by omega, by omega⟩

end Go.Proofs.YtgfnggdjjigomaaDoor
