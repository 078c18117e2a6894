/- The plain mathematics of fractions in lowest terms: equal values, sums by common divisors, comparing. No program stands in this text. -/
import Derived.Test.YtgfnggdjjigomaaDoorMatMath
namespace Go.Proofs.YtgfnggdjjigomaaDoor

/-- A fraction in lowest terms. -/
def isF (f : Pt) : Prop := 1 ≤ f.2 ∧ Int.gcd f.1 f.2 = 1
theorem fr_scale (k n d : Int) (hk : 1 ≤ k) (hd : 1 ≤ d) : fr (k * n) (k * d) = fr n d := by
  unfold fr
  have hg : ((Int.gcd (k * n) (k * d) : Nat) : Int) = k * (Int.gcd n d : Nat) := by
    rw [Int.gcd_mul_left, Int.natCast_mul]
    congr 1; omega
  have hg1 : 1 ≤ Int.gcd n d := Int.gcd_pos_of_ne_zero_right _ (by omega)
  rw [hg, Int.mul_ediv_mul_of_pos _ _ (by omega), Int.mul_ediv_mul_of_pos _ _ (by omega)]
theorem fr_isF (n d : Int) (hd : 1 ≤ d) : isF (fr n d) := by
  have hg1 : 1 ≤ Int.gcd n d := Int.gcd_pos_of_ne_zero_right _ (by omega)
  have hdd : ((Int.gcd n d : Nat) : Int) ∣ d := Int.gcd_dvd_right _ _
  have hdn : ((Int.gcd n d : Nat) : Int) ∣ n := Int.gcd_dvd_left _ _
  refine ⟨?_, ?_⟩
  · obtain ⟨k, hk⟩ := hdd
    have : d / ((Int.gcd n d : Nat) : Int) = k := Int.ediv_eq_of_eq_mul_right (by omega) hk
    show 1 ≤ d / ((Int.gcd n d : Nat) : Int)
    rw [this]
    rcases Int.lt_or_le 0 k with h | h
    · omega
    · have := Int.mul_le_mul_of_nonneg_left h (show (0 : Int) ≤ ((Int.gcd n d : Nat) : Int) by omega)
      omega
  · show Int.gcd (n / ((Int.gcd n d : Nat) : Int)) (d / ((Int.gcd n d : Nat) : Int)) = 1
    exact Int.gcd_ediv_gcd_ediv_gcd (by omega)
theorem fr_self (f : Pt) (h : isF f) : fr f.1 f.2 = f := by
  unfold fr
  rw [h.2]; simp
theorem fr_cross (n d n' d' : Int) (hd : 1 ≤ d) (hd' : 1 ≤ d') (h : n * d' = n' * d) : fr n d = fr n' d' := by
  rw [← fr_scale d' n d hd' hd, ← fr_scale d n' d' hd hd', show d' * n = d * n' by rw [Int.mul_comm d' n, h, Int.mul_comm], Int.mul_comm d' d]
/-- The value of a fraction, across. -/
theorem fr_val (n d : Int) (hd : 1 ≤ d) : (fr n d).1 * d = n * (fr n d).2 := by
  have hg1 : 1 ≤ Int.gcd n d := Int.gcd_pos_of_ne_zero_right _ (by omega)
  obtain ⟨a, ha⟩ : ((Int.gcd n d : Nat) : Int) ∣ n := Int.gcd_dvd_left _ _
  obtain ⟨b, hb⟩ : ((Int.gcd n d : Nat) : Int) ∣ d := Int.gcd_dvd_right _ _
  have e1 : n / ((Int.gcd n d : Nat) : Int) = a := Int.ediv_eq_of_eq_mul_right (by omega) ha
  have e2 : d / ((Int.gcd n d : Nat) : Int) = b := Int.ediv_eq_of_eq_mul_right (by omega) hb
  show n / ((Int.gcd n d : Nat) : Int) * d = n * (d / ((Int.gcd n d : Nat) : Int))
  rw [e1, e2]
  generalize ((Int.gcd n d : Nat) : Int) = g at ha hb
  subst ha hb; grind
theorem fr_num (n d : Int) (hd : 1 ≤ d) : (fr n d).1.natAbs ≤ n.natAbs := by
  have hg1 : 1 ≤ Int.gcd n d := Int.gcd_pos_of_ne_zero_right _ (by omega)
  show (n / ((Int.gcd n d : Nat) : Int)).natAbs ≤ n.natAbs
  obtain ⟨a, ha⟩ : ((Int.gcd n d : Nat) : Int) ∣ n := Int.gcd_dvd_left _ _
  have e1 : n / ((Int.gcd n d : Nat) : Int) = a := Int.ediv_eq_of_eq_mul_right (by omega) ha
  rw [e1]
  conv => rhs; rw [ha]
  rw [Int.natAbs_mul]
  exact Nat.le_mul_of_pos_left _ (by omega)
theorem fr_den (n d : Int) (hd : 1 ≤ d) : 1 ≤ (fr n d).2 ∧ (fr n d).2 ≤ d := ⟨(fr_isF n d hd).1, Int.ediv_le_self _ (by omega)⟩

def addF (f g : Pt) : Pt := fr (f.1 * g.2 + g.1 * f.2) (f.2 * g.2)
/-- The sum by the greatest common divisor of the denominators. -/
theorem knuth (a b x y : Nat) (n m : Int) (c : Nat) (hc : c = Nat.gcd a b) (ha : 1 ≤ a) (hb : 1 ≤ b) (hn : Int.gcd n a = 1) (hm : Int.gcd m b = 1) (hx : x = a / c) (hy : y = b / c) (s : Int) (hs : s = n * y + m * x) (e : Nat) (he : e = Nat.gcd c (s.natAbs % c)) :
    addF (n, (a : Int)) (m, (b : Int)) = (s / e, ((x * (b / e) : Nat) : Int)) ∧ 1 ≤ e ∧ e ∣ b ∧ (e : Int) ∣ s ∧ 1 ≤ c := by
  have hc1 : 1 ≤ c := by rw [hc]; exact Nat.gcd_pos_of_pos_left _ ha
  have hca : c ∣ a := hc ▸ Nat.gcd_dvd_left a b
  have hcb : c ∣ b := hc ▸ Nat.gcd_dvd_right a b
  obtain ⟨x', hx'⟩ := hca
  obtain ⟨y', hy'⟩ := hcb
  have ex : x = x' := by rw [hx, hx']; exact Nat.mul_div_cancel_left _ hc1
  have ey : y = y' := by rw [hy, hy']; exact Nat.mul_div_cancel_left _ hc1
  subst ex ey
  have hx1 : 1 ≤ x := by rcases Nat.eq_zero_or_pos x with h | h; (rw [h] at hx'; omega); exact h
  have hy1 : 1 ≤ y := by rcases Nat.eq_zero_or_pos y with h | h; (rw [h] at hy'; omega); exact h
  have hxy : Nat.gcd x y = 1 := by
    have h1 : Nat.gcd a b = c * Nat.gcd x y := by rw [hx', hy', Nat.gcd_mul_left]
    rw [← hc] at h1
    have : c * Nat.gcd x y = c * 1 := by omega
    exact Nat.eq_of_mul_eq_mul_left hc1 this
  have hnx : Nat.gcd n.natAbs x = 1 := by
    have : Nat.gcd n.natAbs x ∣ Nat.gcd n.natAbs a := Nat.gcd_dvd_gcd_of_dvd_right _ ⟨c, by rw [hx', Nat.mul_comm]⟩
    rw [show Nat.gcd n.natAbs a = 1 from hn] at this
    exact Nat.dvd_one.1 this
  have hmy : Nat.gcd m.natAbs y = 1 := by
    have : Nat.gcd m.natAbs y ∣ Nat.gcd m.natAbs b := Nat.gcd_dvd_gcd_of_dvd_right _ ⟨c, by rw [hy', Nat.mul_comm]⟩
    rw [show Nat.gcd m.natAbs b = 1 from hm] at this
    exact Nat.dvd_one.1 this
  have hec : e = Nat.gcd c s.natAbs := by rw [he, Nat.gcd_comm c, ← Nat.gcd_rec, Nat.gcd_comm]
  have he1 : 1 ≤ e := by rw [hec]; exact Nat.gcd_pos_of_pos_left _ hc1
  have hedc : e ∣ c := by rw [hec]; exact Nat.gcd_dvd_left _ _
  have heds : (e : Int) ∣ s := by
    have : e ∣ s.natAbs := by rw [hec]; exact Nat.gcd_dvd_right _ _
    exact Int.ofNat_dvd_left.2 this
  -- s has no divisor in common with x, nor with y
  have key : ∀ (p q : Nat) (u v : Int), s = u * q + v * p → Nat.gcd u.natAbs p = 1 → Nat.gcd q p = 1 → Nat.Coprime p s.natAbs := by
    intro p q u v h1 h2 h3
    have h4 : Nat.Coprime p (u.natAbs * q) := Nat.Coprime.mul_right (Nat.Coprime.symm h2) (Nat.Coprime.symm h3)
    have h5 : Nat.gcd p s.natAbs ∣ u.natAbs * q := by
      have d1 : ((Nat.gcd p s.natAbs : Nat) : Int) ∣ s := Int.ofNat_dvd_left.2 (Nat.gcd_dvd_right _ _)
      have d2 : ((Nat.gcd p s.natAbs : Nat) : Int) ∣ v * p := Int.dvd_mul_of_dvd_right (Int.natCast_dvd_natCast.2 (Nat.gcd_dvd_left _ _))
      have d3 : ((Nat.gcd p s.natAbs : Nat) : Int) ∣ u * q := by
        have : u * q = s - v * p := by omega
        rw [this]; exact Int.dvd_sub d1 d2
      have := Int.ofNat_dvd_left.1 d3
      rw [Int.natAbs_mul] at this
      exact this
    have h6 : Nat.gcd p s.natAbs ∣ Nat.gcd p (u.natAbs * q) := Nat.dvd_gcd (Nat.gcd_dvd_left _ _) h5
    rw [h4] at h6
    exact Nat.dvd_one.1 h6
  have kx : Nat.Coprime x s.natAbs := key x y n m hs hnx (by rw [Nat.gcd_comm]; exact hxy)
  have ky : Nat.Coprime y s.natAbs := key y x m n (by rw [hs]; omega) hmy hxy
  have hden : c * (x * y) / e = x * (b / e) := by
    obtain ⟨k, hk⟩ := hedc
    rw [hy', hk, show e * k * (x * y) = e * (x * (k * y)) by grind, Nat.mul_div_cancel_left _ he1, Nat.mul_assoc e k y, Nat.mul_div_cancel_left _ he1]
  have hgs : Int.gcd s ((c * (x * y) : Nat) : Int) = e := by
    show Nat.gcd s.natAbs (c * (x * y)) = e
    rw [Nat.Coprime.gcd_mul_right_cancel_right c (Nat.Coprime.mul_right kx.symm ky.symm).symm, Nat.gcd_comm, hec]
  refine ⟨?_, he1, Nat.dvd_trans hedc ⟨y, hy'⟩, heds, hc1⟩
  unfold addF
  have e1 : n * (b : Int) + m * (a : Int) = (c : Int) * s := by rw [hs, hx', hy', Int.natCast_mul, Int.natCast_mul]; grind
  have e2 : (a : Int) * (b : Int) = (c : Int) * ((c * (x * y) : Nat) : Int) := by rw [hx', hy']; simp only [Int.natCast_mul]; grind
  have hcxy : 1 ≤ c * (x * y) := Nat.mul_pos hc1 (Nat.mul_pos hx1 hy1)
  show fr (n * (b : Int) + m * (a : Int)) ((a : Int) * (b : Int)) = _
  rw [e1, e2, fr_scale (c : Int) s _ (by omega) (by omega)]
  unfold fr
  rw [hgs, ← hden, Int.natCast_ediv]

end Go.Proofs.YtgfnggdjjigomaaDoor
