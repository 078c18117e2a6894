/- finesseref21.Adjust where it answers: the program's number. -/
import Derived.Test.YtlobdeakgoicpaaDoorR21C
namespace Go.Proofs.YtlobdeakgoicpaaDoor
open Go.RowKit

theorem right_of_isF {f : Pt} (h : isF f) : rightF f = true := by
  unfold rightF
  rw [decide_eq_true (show 0 < f.2 by have := h.1; omega)]
  exact beq_iff_eq.2 h.2
theorem isF_of_right {f : Pt} (h : rightF f = true) : isF f := by
  unfold rightF at h
  obtain ⟨h1, h2⟩ := Bool.and_eq_true_iff.1 h
  exact ⟨by have := of_decide_eq_true h1; omega, beq_iff_eq.1 h2⟩
theorem whole_isF (n : Int) : isF (n, 1) := ⟨Int.le_refl 1, by simp⟩
theorem fr_posD (N D : Int) (hN : 0 ≤ N) (hD : 1 ≤ D) : 0 ≤ (fr N D).1 ∧ (fr N D).1 ≤ N ∧ 1 ≤ (fr N D).2 ∧ (fr N D).2 ≤ D := by
  have h1 := fr_den N D hD
  refine ⟨?_, ?_, h1⟩
  · exact Int.ediv_nonneg hN (Int.natCast_nonneg _)
  · exact Int.ediv_le_self _ hN

/-- The chain of the reference's numbers is the program's. -/
theorem adj_chain (f : Pt) (n all : Int) (hf : 1 ≤ f.2) (hn : 1 ≤ n) :
    adjF f n all = fr ((fr ((fr ((fr (f.1 + f.2) f.2).1 * all) (fr (f.1 + f.2) f.2).2).1) ((fr ((fr (f.1 + f.2) f.2).1 * all) (fr (f.1 + f.2) f.2).2).2 * n)).1 - (fr ((fr ((fr (f.1 + f.2) f.2).1 * all) (fr (f.1 + f.2) f.2).2).1) ((fr ((fr (f.1 + f.2) f.2).1 * all) (fr (f.1 + f.2) f.2).2).2 * n)).2) (fr ((fr ((fr (f.1 + f.2) f.2).1 * all) (fr (f.1 + f.2) f.2).2).1) ((fr ((fr (f.1 + f.2) f.2).1 * all) (fr (f.1 + f.2) f.2).2).2 * n)).2 := by
  unfold adjF mulF addF
  dsimp only
  simp only [Int.mul_one, Int.one_mul]
  obtain ⟨a, ha⟩ : ∃ a, fr (f.1 + f.2) f.2 = a := ⟨_, rfl⟩
  rw [ha]
  have ha2 : 1 ≤ a.2 := by rw [← ha]; exact (fr_isF _ _ hf).1
  obtain ⟨b, hb⟩ : ∃ b, fr (a.1 * all) a.2 = b := ⟨_, rfl⟩
  rw [hb]
  have hb2 : 1 ≤ b.2 := by rw [← hb]; exact (fr_isF _ _ ha2).1
  have hbv : b.1 * a.2 = a.1 * all * b.2 := by rw [← hb]; exact fr_val _ _ ha2
  have hN := fr_val all n hn
  have hN2 := (fr_isF all n hn).1
  obtain ⟨q, hq⟩ : ∃ q, fr all n = q := ⟨_, rfl⟩
  rw [hq] at hN hN2 ⊢
  have e : fr (a.1 * q.1) (a.2 * q.2) = fr b.1 (b.2 * n) := by
    have p1 : 1 ≤ a.2 * q.2 := Int.mul_pos (by omega) (by omega)
    have p2 : 1 ≤ b.2 * n := Int.mul_pos (by omega) (by omega)
    refine fr_cross _ _ _ _ p1 p2 ?_
    calc a.1 * q.1 * (b.2 * n) = a.1 * b.2 * (q.1 * n) := by ac_rfl
      _ = a.1 * b.2 * (all * q.2) := by rw [hN]
      _ = a.1 * all * b.2 * q.2 := by ac_rfl
      _ = b.1 * a.2 * q.2 := by rw [hbv]
      _ = b.1 * (a.2 * q.2) := by ac_rfl
  rw [e]
  obtain ⟨d, hd⟩ : ∃ d, fr b.1 (b.2 * n) = d := ⟨_, rfl⟩
  rw [hd]
  rw [show d.1 + -1 * d.2 = d.1 - d.2 by omega]

theorem mk0_int (N D : Int) (x y : Nat) (hx : (x : Int) = N) (hy : (y : Int) = D) (hN : N < 9223372036854775808) (hD : 1 ≤ D ∧ D < 9223372036854775808) : mk0 false x y = fr N D ∧ mkE false x y = 0 := by
  subst hx; subst hy
  exact mk0_fr x y (by omega) (by omega)

theorem ge_of_cross {a b x y : Int} (hx : 1 ≤ x) (h : a * x = y * b) (hy : x ≤ y) (hb : 0 ≤ b) : b ≤ a := by
  have h1 : b * x ≤ a * x := by
    rw [h, Int.mul_comm y b]
    exact Int.mul_le_mul_of_nonneg_left hy hb
  exact Int.le_of_mul_le_mul_right h1 (by omega)

set_option maxHeartbeats 1000000 in
theorem r21adjust_ok (f1 f2 n all : Int) (w : World) (hn : 1 ≤ n ∧ n ≤ all) (ha : all ≤ 24) (hf1 : 0 ≤ f1) (hf2 : 1 ≤ f2 ∧ f2 ≤ 10000) (hle : f1 ≤ 2 * (n - 1) * f2) (hr : rightF (f1, f2) = true) :
    Calls Tryd.prog 12 #[.agg #[.int .i64 f1, .int .i64 f2], .int .i64 n, .int .i64 all] w fun e w' => e = .returned (.tuple #[fV (adjF (f1, f2) n all), .int .i64 0]) ∧ Below w.heap.size w w' := by
  have hm := mulB (x := 2 * (n - 1)) (y := f2) (X := 46) (Y := 10000) (by omega) (by omega)
  have hc := adj_chain (f1, f2) n all hf2.1 hn.1
  dsimp only at hc
  rw [hc]
  clear hc
  have A := fr_posD (f1 + f2) f2 (by omega) hf2.1
  have A1 := fr_isF (f1 + f2) f2 hf2.1
  have A2 := fr_val (f1 + f2) f2 hf2.1
  have HA := mk0_int (f1 + f2) f2 (f1.natAbs * (1 : Int).natAbs + (1 : Int).natAbs * f2.natAbs) (f2.natAbs * (1 : Int).natAbs) (by rw [show (1 : Int).natAbs = 1 from rfl]; omega) (by rw [show (1 : Int).natAbs = 1 from rfl]; omega) (by omega) (by omega)
  have hA12 := ge_of_cross hf2.1 A2 (by omega) (by omega)
  obtain ⟨⟨a1, a2⟩, ha0⟩ : ∃ a, fr (f1 + f2) f2 = a := ⟨_, rfl⟩
  rw [ha0] at A A1 A2 HA hA12 ⊢
  dsimp only at A A1 A2 HA hA12 ⊢
  have hma := mulB (x := a1) (y := all) (X := 470000) (Y := 24) (by omega) (by omega)
  have hma0 : 0 ≤ a1 * all := Int.mul_nonneg A.1 (by omega)
  have B := fr_posD (a1 * all) a2 hma0 A.2.2.1
  have B1 := fr_isF (a1 * all) a2 A.2.2.1
  have B2 := fr_val (a1 * all) a2 A.2.2.1
  obtain ⟨⟨b1, b2⟩, hb0⟩ : ∃ b, fr (a1 * all) a2 = b := ⟨_, rfl⟩
  have HM := mk0_int (a1 * all) a2 (a1.natAbs * all.natAbs) (a2.natAbs * (1 : Int).natAbs) (by rw [Int.natCast_mul, Int.natAbs_of_nonneg A.1, Int.natAbs_of_nonneg (by omega)]) (by rw [show (1 : Int).natAbs = 1 from rfl]; omega) (by omega) (by omega)
  rw [hb0] at B B1 B2 HM ⊢
  dsimp only at B B1 B2 HM ⊢
  have hbn : b2 * n ≤ b1 := by
    have e1 : b2 * n * a2 ≤ b1 * a2 := by
      rw [B2]
      calc b2 * n * a2 = b2 * (n * a2) := by ac_rfl
        _ ≤ b2 * (all * a1) := Int.mul_le_mul_of_nonneg_left (Int.mul_le_mul hn.2 hA12 (by omega) (by omega)) (by omega)
        _ = a1 * all * b2 := by ac_rfl
    exact Int.le_of_mul_le_mul_right e1 (by omega)
  have hmb := mulB (x := b2) (y := n) (X := 10000) (Y := 24) (by omega) (by omega)
  have hbn1 : 1 ≤ b2 * n := Int.mul_pos (by omega) (by omega)
  have D := fr_posD b1 (b2 * n) B.1 hbn1
  have D1 := fr_isF b1 (b2 * n) hbn1
  have D2 := fr_val b1 (b2 * n) hbn1
  have hD12 := ge_of_cross hbn1 D2 hbn (by omega)
  obtain ⟨⟨d1, d2⟩, hd0⟩ : ∃ d, fr b1 (b2 * n) = d := ⟨_, rfl⟩
  have HD := mk0_int b1 (b2 * n) (b1.natAbs * (1 : Int).natAbs) (b2.natAbs * n.natAbs) (by rw [show (1 : Int).natAbs = 1 from rfl]; omega) (by rw [Int.natCast_mul, Int.natAbs_of_nonneg (show 0 ≤ b2 by omega), Int.natAbs_of_nonneg (show 0 ≤ n by omega)]) (by omega) (by omega)
  rw [hd0] at D D1 D2 HD hD12 ⊢
  dsimp only at D D1 D2 HD hD12 ⊢
  have HS := mk0_int (d1 - d2) d2 (d1.natAbs * (1 : Int).natAbs - (1 : Int).natAbs * d2.natAbs) (d2.natAbs * (1 : Int).natAbs) (by rw [show (1 : Int).natAbs = 1 from rfl]; omega) (by rw [show (1 : Int).natAbs = 1 from rfl]; omega) (by omega) (by omega)
  obtain ⟨⟨r1, r2⟩, hr0⟩ : ∃ r, fr (d1 - d2) d2 = r := ⟨_, rfl⟩
  rw [hr0] at HS ⊢
  unfold fV
  dsimp only
  have w1 := right_of_isF (whole_isF 1)
  have w2 := right_of_isF (whole_isF all)
  have w3 := right_of_isF (whole_isF n)
  have w4 := right_of_isF (whole_isF (2 * n - 2))
  refine r21adjust_walk f1 f2 n all (cmpN (f1.natAbs * (1 : Int).natAbs) ((2 * n - 2).natAbs * f2.natAbs)) a1 a2 b1 b2 d1 d2 r1 r2 0 0 0 0 w ((boardB_iff n all).2 ⟨by omega, ha, by omega, hn.2⟩) hn.1 hr ⟨hf1, by omega⟩ ⟨by omega, hf2.2⟩ ?_ (fun W => r01cmpF f1 f2 (2 * n - 2) 1 W ⟨hf1, by omega⟩ ⟨by omega, by omega⟩ ⟨by omega, by omega⟩ ⟨by omega, by omega⟩ hr w4) (fun W => ?_) (fun W => ?_) (fun W => ?_) (fun W => ?_)
  · unfold cmpN
    have e : ((2 * n - 2).natAbs * f2.natAbs : Nat) = (2 * (n - 1) * f2).natAbs := by rw [Int.natAbs_mul, show 2 * n - 2 = 2 * (n - 1) by omega]
    rw [e, show (1 : Int).natAbs = 1 from rfl, Nat.mul_one]
    split
    · omega
    · rw [if_neg (by omega)]; omega
  · have H := r01addF f1 f2 1 1 W ⟨hf1, by omega⟩ ⟨by omega, by omega⟩ ⟨by omega, by omega⟩ ⟨by omega, by omega⟩ hr w1
    rw [HA.1, HA.2] at H
    exact H
  · have H := r01mulF a1 a2 all 1 W ⟨by omega, by omega⟩ ⟨by omega, by omega⟩ ⟨by omega, by omega⟩ ⟨by omega, by omega⟩ (right_of_isF A1) w2
    rw [decide_eq_false (show ¬ a1 < 0 by omega), HM.1, HM.2] at H
    exact H
  · have H := r01divF b1 b2 n 1 W ⟨by omega, by omega⟩ ⟨by omega, by omega⟩ ⟨by omega, by omega⟩ ⟨by omega, by omega⟩ (right_of_isF B1) w3
    rw [decide_eq_false (show ¬ b1 < 0 by omega), HD.1, HD.2] at H
    exact H
  · have H := r01subF d1 d2 1 1 W ⟨by omega, by omega⟩ ⟨by omega, by omega⟩ ⟨by omega, by omega⟩ ⟨by omega, by omega⟩ (by rw [show (1 : Int).natAbs = 1 from rfl]; omega) (right_of_isF D1) w1
    rw [HS.1, HS.2] at H
    exact H

end Go.Proofs.YtlobdeakgoicpaaDoor
