/- The walk of frac.Make for a numerator below 0. The walks of frac.times and frac.Mul for fractions that are not too great. -/
import Derived.Test.YtlobdeakgoicpaaDoorFracW
import Derived.Test.YtlobdeakgoicpaaDoorFracMul
namespace Go.Proofs.YtlobdeakgoicpaaDoor
open Go.RowKit

/-! ### The walk of frac.Make for a numerator below 0. -/
theorem fr_neg (n d : Int) (hn : n < 0) (hd : 1 ≤ d) : ∃ N D : Nat, n = -(N : Int) ∧ d = D ∧ 1 ≤ N ∧ 1 ≤ Nat.gcd N D ∧ 1 ≤ D ∧ 1 ≤ N / Nat.gcd N D ∧ fr n d = (-((N / Nat.gcd N D : Nat) : Int), ((D / Nat.gcd N D : Nat) : Int)) := by
  obtain ⟨N, hN⟩ := Int.eq_ofNat_of_zero_le (show 0 ≤ -n by omega)
  obtain ⟨D, rfl⟩ := Int.eq_ofNat_of_zero_le (show 0 ≤ d by omega)
  obtain rfl : n = -(N : Int) := by omega
  have hg : 1 ≤ Nat.gcd N D := Nat.gcd_pos_of_pos_right _ (by omega)
  have hd1 : Nat.gcd N D ∣ N := Nat.gcd_dvd_left _ _
  have hq : 1 ≤ N / Nat.gcd N D := Nat.div_pos (Nat.le_of_dvd (by omega) hd1) hg
  refine ⟨N, D, rfl, rfl, by omega, hg, by omega, hq, ?_⟩
  unfold fr
  have hi : Int.gcd (-(N : Int)) (D : Int) = Nat.gcd N D := by simp [Int.gcd]
  rw [hi]
  congr 1
  rw [Int.neg_ediv_of_dvd (Int.natCast_dvd_natCast.2 hd1)]
  rfl

set_option maxHeartbeats 1000000 in
theorem make_neg (n d : Int) (w : World) (hn : -9223372036854775807 ≤ n ∧ n < 0) (hd : 1 ≤ d ∧ d ≤ 9223372036854775807) :
    Calls Tryd.prog 56 #[.int .i64 n, .int .i64 d] w fun e w' => e = .returned (.tuple #[.agg #[.int .i64 (fr n d).1, .int .i64 (fr n d).2], .int .i64 0]) ∧ Below w.heap.size w w' := by
  have HS := Lib.hid (fun W => size_neg n W ⟨by omega, hn.2⟩)
  have hd1 : decide (n < 0) = true := decide_eq_true hn.2
  obtain ⟨N, D, hnN, rfl, hN1, hg, hD, hq0, hfr⟩ := fr_neg n d hn.2 hd.1
  rw [hfr]
  have hnn : -n = (N : Int) := by omega
  rw [hnn] at HS
  have hN2 : N ≤ 9223372036854775807 := by omega
  have hD2 : D ≤ 9223372036854775807 := by omega
  have q1 : N / Nat.gcd N D ≤ N := Nat.div_le_self _ _
  have q2 : D / Nat.gcd N D ≤ D := Nat.div_le_self _ _
  have e1 : (N : Int) / ((Nat.gcd N D : Nat) : Int) = ((N / Nat.gcd N D : Nat) : Int) := (Int.natCast_ediv _ _).symm
  have e2 : (D : Int) / ((Nat.gcd N D : Nat) : Int) = ((D / Nat.gcd N D : Nat) : Int) := (Int.natCast_ediv _ _).symm
  have hg2 : Nat.gcd N D ≤ D := Nat.gcd_le_right _ (by omega)
  have hz : ((D : Int) == 0) = false := beq_eq_false_iff_ne.2 (by omega)
  have HG := Lib.hid (gcd_any N D)
  clear hfr hnN hnn
  generalize N / Nat.gcd N D = x at *
  generalize D / Nat.gcd N D = y at *
  generalize Nat.gcd N D = g at *
  have e3 : (N : Int).tdiv (g : Int) = (x : Int) := by rw [Int.tdiv_eq_ediv_of_nonneg (by omega)]; exact e1
  have e4 : (D : Int).tdiv (g : Int) = (y : Int) := by rw [Int.tdiv_eq_ediv_of_nonneg (by omega)]; exact e2
  have hd2 : decide ((D : Int) < 0) = false := decide_eq_false (by omega)
  have hgz : ((g : Int) == 0) = false := beq_eq_false_iff_ne.2 (by omega)
  have hg0 : ¬ g = 0 := by omega
  have i1 : IntKind.u64.wrap (x : Int) = (x : Int) := IntWalk.u64_in _ (by omega)
  have i2 : IntKind.u64.wrap (y : Int) = (y : Int) := IntWalk.u64_in _ (by omega)
  have HP := Lib.hid (fun W => pack_neg (x : Int) (y : Int) W (by omega) (by omega))
  go_enter Tryd.func56, Tryd.ntmps56
  go_wp2_with fail
  refine (HS.out _).mono ?_
  rintro e _ ⟨rfl, rfl⟩
  go_wp2_with fail
  refine (size_pos _ _ (by omega)).mono ?_
  rintro e _ ⟨rfl, rfl⟩
  go_wp2_with fail
  refine (HG.out _ (by omega) (by omega)).mono ?_
  rintro e w1 ⟨rfl, hb1⟩
  have hb1' : Below w.heap.size w w1 := ((Below.refl _ _).alloc (Nat.le_refl _) _).trans (hb1.mono (by simp))
  have hblk : w1.heap[w.heap.size]? = _ := blk_below (blk_new (.cells #[.int .i64 0, .int .i64 0] 23) rfl) hb1 (by simp)
  have s1 : w.heap.size < w1.heap.size := by have := hb1.size; simp at this; omega
  have HK := Lib.hid (fun (wa : World) (hba : Below w1.drew.heap.size w1.drew wa) => frame2 (t := 23) (g := w.heap.size) (x := .int .i64 0) (y := .int .i64 0) hblk hba s1)
  go_wp2_with fail
  go_region_held3 (fun _ => True) (trivial) ((go_at_call 75; with_reducible refine (HP.out _).mono ?_; rintro e wa ⟨rfl, hba⟩; obtain ⟨hblk2, hc0, hc1, hf0, hf1⟩ := HK.out wa hba))
  clear i1 i2 e1 e2 e3 e4
  have hB : Below w.heap.size w wa := (hb1'.drew).trans (hba.mono (by show w.heap.size ≤ w1.heap.size; omega))
  go_wp2
  exact bodyPost_ret (v := .tuple #[.agg #[.int .i64 (-(x : Int)), .int .i64 (y : Int)], .int .i64 0]) (by simp [results, Tryd.results56, go_sem, hc0, hc1]) rfl ⟨rfl, (hB.setCell (Nat.le_refl _) _).setCell (Nat.le_refl _) _⟩

theorem make_any (n d : Int) (w : World) (hn : -9223372036854775807 ≤ n ∧ n ≤ 9223372036854775807) (hd : 1 ≤ d ∧ d ≤ 9223372036854775807) :
    Calls Tryd.prog 56 #[.int .i64 n, .int .i64 d] w fun e w' => e = .returned (.tuple #[.agg #[.int .i64 (fr n d).1, .int .i64 (fr n d).2], .int .i64 0]) ∧ Below w.heap.size w w' := by
  by_cases h : n < 0
  · exact make_neg n d w ⟨hn.1, h⟩ hd
  · exact make_pos n d w ⟨by omega, hn.2⟩ hd

/-! ### The walks of frac.times and frac.Mul for fractions that are not too great. -/
set_option maxHeartbeats 2000000 in
theorem ftimes_low (sg : Bool) (N a M b g h u v x y : Nat) (hg : Nat.gcd N b = g) (hh : Nat.gcd M a = h) (hu : N / g = u) (hv : M / h = v) (hx : a / h = x) (hy : b / g = y) (hN : N ≤ 1000000000) (hM : M ≤ 1000000000) (ha : a ≤ 1000000) (hb : b ≤ 1000000)
    (hg1 : 1 ≤ g) (hg2 : g ≤ 1000000) (hh1 : 1 ≤ h) (hh2 : h ≤ 1000000) (hu1 : u ≤ 1000000000) (hv1 : v ≤ 1000000000) (hx1 : x ≤ 1000000) (hy1 : y ≤ 1000000) (huv : u * v ≤ 1000000000000000000) (hxy : x * y ≤ 1000000000000) (w : World) :
    Calls Tryd.prog 82 #[.bool sg, .int .u64 N, .int .u64 a, .int .u64 M, .int .u64 b] w fun e w' => e = .returned (.tuple #[.agg #[.int .i64 (if sg then -((u * v : Nat) : Int) else ((u * v : Nat) : Int)), .int .i64 ((x * y : Nat) : Int)], .int .i64 0]) ∧ Below w.heap.size w w' := by
  have HG1 := Lib.hid (fun W => gcd_any N b W (by omega) (by omega))
  have HG2 := Lib.hid (fun W => gcd_any M a W (by omega) (by omega))
  rw [hg] at HG1
  rw [hh] at HG2
  have HP1 := Lib.hid (fun W => product_small u v W (by omega) (by omega) huv)
  have HP2 := Lib.hid (fun W => product_small x y W (by omega) (by omega) (by omega))
  have HK := Lib.hid (fun W => pack_any sg (u * v) (x * y) W (by omega) (by omega))
  have E1 := Lib.hid (show (N : Int) / (g : Int) = (u : Int) by rw [← hu]; exact (Int.natCast_ediv _ _).symm)
  have E2 := Lib.hid (show (M : Int) / (h : Int) = (v : Int) by rw [← hv]; exact (Int.natCast_ediv _ _).symm)
  have E3 := Lib.hid (show (a : Int) / (h : Int) = (x : Int) by rw [← hx]; exact (Int.natCast_ediv _ _).symm)
  have E4 := Lib.hid (show (b : Int) / (g : Int) = (y : Int) by rw [← hy]; exact (Int.natCast_ediv _ _).symm)
  have T1 := Lib.hid (show (N : Int).tdiv (g : Int) = (u : Int) by rw [Int.tdiv_eq_ediv_of_nonneg (by omega)]; exact E1.out)
  have T2 := Lib.hid (show (M : Int).tdiv (h : Int) = (v : Int) by rw [Int.tdiv_eq_ediv_of_nonneg (by omega)]; exact E2.out)
  have T3 := Lib.hid (show (a : Int).tdiv (h : Int) = (x : Int) by rw [Int.tdiv_eq_ediv_of_nonneg (by omega)]; exact E3.out)
  have T4 := Lib.hid (show (b : Int).tdiv (g : Int) = (y : Int) by rw [Int.tdiv_eq_ediv_of_nonneg (by omega)]; exact E4.out)
  have I1 := Lib.hid (show IntKind.u64.wrap (u : Int) = (u : Int) from IntWalk.u64_in _ (by omega))
  have I2 := Lib.hid (show IntKind.u64.wrap (v : Int) = (v : Int) from IntWalk.u64_in _ (by omega))
  have I3 := Lib.hid (show IntKind.u64.wrap (x : Int) = (x : Int) from IntWalk.u64_in _ (by omega))
  have I4 := Lib.hid (show IntKind.u64.wrap (y : Int) = (y : Int) from IntWalk.u64_in _ (by omega))
  have gz : ((g : Int) == 0) = false := beq_eq_false_iff_ne.2 (by omega)
  have hz : ((h : Int) == 0) = false := beq_eq_false_iff_ne.2 (by omega)
  have gn : ¬ g = 0 := by omega
  have hn : ¬ h = 0 := by omega
  generalize u * v = p at *
  generalize x * y = q at *
  obtain ⟨D, hD⟩ : ∃ D : Int, (if sg then -(p : Int) else (p : Int)) = D := ⟨_, rfl⟩
  rw [hD] at HK ⊢
  clear hD
  clear hg hh hu hv hx hy
  go_enter Tryd.func82, Tryd.ntmps82
  go_wp2_with fail
  refine (HG1.out _).mono ?_
  rintro e w1 ⟨rfl, hb1⟩
  go_wp2_with fail
  refine (HG2.out _).mono ?_
  rintro e w2 ⟨rfl, hb2⟩
  have hb12 : Below (w.alloc (.cells #[.int .i64 0, .int .i64 0] 23)).heap.size (w.alloc (.cells #[.int .i64 0, .int .i64 0] 23)) w2 := hb1.trans (hb2.mono hb1.size)
  have hb2' : Below w.heap.size w w2 := ((Below.refl _ _).alloc (Nat.le_refl _) _).trans (hb12.mono (by simp))
  have s1 : w.heap.size < w2.heap.size := by have := hb12.size; simp at this; omega
  have hblk : w2.heap[w.heap.size]? = some (.cells #[.int .i64 0, .int .i64 0] 23) := blk_below (blk_new _ rfl) hb12 (by simp)
  have HB := Lib.hid (fun (wa : World) (hba : Below w2.heap.size w2 wa) => (show wa.cell? ⟨w.heap.size, 0, none⟩ = some (.int .i64 0) ∧ wa.cell? ⟨w.heap.size, 1, none⟩ = some (.int .i64 0) ∧ wa.frozen? ⟨w.heap.size, 0, none⟩ = false ∧ wa.frozen? ⟨w.heap.size, 1, none⟩ = false from
    have h2 := blk_below hblk hba s1
    ⟨blk_cell h2 0, blk_cell h2 1, blk_free h2 0, blk_free h2 1⟩))
  have hd : Below w2.heap.size w2 w2.drew := (Below.refl _ _).drew
  clear hb1 hb2 hb12 hblk HG1 HG2
  go_upto_region 2 with fail
  have e1 := E1.out
  have e2 := E2.out
  have e3 := E3.out
  have e4 := E4.out
  have t1 := T1.out
  have t2 := T2.out
  have t3 := T3.out
  have t4 := T4.out
  have i1 := I1.out
  have i2 := I2.out
  have i3 := I3.out
  have i4 := I4.out
  go_region_held3 (fun _ => True) (trivial)
    ((first
      | (go_at_call 57; (with_reducible refine (HP1.out _).mono ?_); rintro e wa ⟨rfl, hba0⟩; first | (have hba := hd.trans (hba0.mono hd.size)) | (have hba := hbb.trans (hba0.mono hbb.size)))
      | (go_at_call 57; (with_reducible refine (HP2.out _).mono ?_); rintro e wb ⟨rfl, hbb0⟩; first | (have hbb := hd.trans (hbb0.mono hd.size)) | (have hbb := hba.trans (hbb0.mono hba.size)))
      | (go_at_call 75; (with_reducible refine (HK.out _).mono ?_); rintro e wc ⟨rfl, hbc0⟩; first | (have hbc := hbb.trans (hbc0.mono hbb.size); obtain ⟨hc0, hc1, hf0, hf1⟩ := HB.out wc hbc) | (have hbc := hba.trans (hbc0.mono hba.size); obtain ⟨hc0, hc1, hf0, hf1⟩ := HB.out wc hbc))))
  all_goals clear i1 i2 i3 i4 e1 e2 e3 e4 t1 t2 t3 t4
  all_goals go_wp2
  all_goals exact bodyPost_ret (v := .tuple #[.agg #[.int .i64 D, .int .i64 (q : Int)], .int .i64 0]) (by simp [results, Tryd.results82, go_sem, hc0, hc1]) rfl ⟨rfl, ((hb2'.trans (hbc.mono (Nat.le_of_lt s1))).setCell (Nat.le_refl _) _).setCell (Nat.le_refl _) _⟩

set_option maxHeartbeats 2000000 in
theorem fmul_low (n m : Int) (a b : Nat) (hf : smF (n, (a : Int))) (hg : smF (m, (b : Int))) (w : World) :
    Calls Tryd.prog 63 #[.agg #[.int .i64 n, .int .i64 a], .agg #[.int .i64 m, .int .i64 b]] w fun e w' => e = .returned (.tuple #[.agg #[.int .i64 (mulF (n, (a : Int)) (m, (b : Int))).1, .int .i64 (mulF (n, (a : Int)) (m, (b : Int))).2], .int .i64 0]) ∧ Below w.heap.size w w' := by
  have HR1 := Lib.hid (fun W => right_low n a (wd_of hf) W)
  have HR2 := Lib.hid (fun W => right_low m b (wd_of hg) W)
  obtain ⟨g, h, u, v, x, y, sg, h1, h2, h3, h4, h5, h6, hsg, hmul, b1, b2, b3, b4, b5, b6, b7, b8, b9, b10, b11, b12, b13, b14, b15, b16⟩ := mul_plan n m a b hf hg
  have HT := Lib.hid (fun W => ftimes_low sg n.natAbs a m.natAbs b g h u v x y h1 h2 h3 h4 h5 h6 (by omega) (by omega) (by omega) (by omega) (by omega) (by omega) (by omega) (by omega) (by omega) (by omega) (by omega) (by omega) b9 b10 W)
  rw [hmul]
  dsimp only
  obtain ⟨D, hD⟩ : ∃ D : Int, (if sg then -((u * v : Nat) : Int) else ((u * v : Nat) : Int)) = D := ⟨_, rfl⟩
  rw [hD] at HT ⊢
  generalize ((x * y : Nat) : Int) = E at HT ⊢
  have HSa := Lib.hid (fun W => size_any (a : Int) W (by omega))
  have HSb := Lib.hid (fun W => size_any (b : Int) W (by omega))
  have HSn := Lib.hid (fun W => size_any n W (by omega))
  have HSm := Lib.hid (fun W => size_any m W (by omega))
  rw [show (((a : Int).natAbs : Nat) : Int) = (a : Int) by omega] at HSa
  rw [show (((b : Int).natAbs : Nat) : Int) = (b : Int) by omega] at HSb
  have hsg2 : (!(decide (n < 0) == decide (m < 0))) = sg := hsg
  clear hf hg hmul hD h1 h2 h3 h4 h5 h6 b1 b2 b3 b4 b5 b6 b7 b8 b9 b10 b11 b12 b13 b14 b15 b16
  have Hs2 := Lib.hid hsg2
  clear hsg hsg2
  go_enter Tryd.func63, Tryd.ntmps63
  go_upto_region 1 with fail
  obtain ⟨W0, hW0⟩ : ∃ W0, (((w.alloc (.cells #[.int .i64 n, .int .i64 a] 23)).alloc (.cells #[.int .i64 m, .int .i64 b] 23)).alloc (.cells #[.int .i64 0, .int .i64 0] 23)) = W0 := ⟨_, rfl⟩
  have hB0 : Below w.heap.size w W0 := by rw [← hW0]; exact (by repeat (first | exact Below.refl _ _ | assumption | refine Below.drew ?_ | refine below_drewN ?_ _ | refine Below.alloc ?_ (by first | omega | (simp; done) | (simp; omega)) _ | refine Below.setCell ?_ (by first | omega | (simp; done) | (simp; omega)) _))
  have k0 : W0.heap[w.heap.size]? = some (.cells #[.int .i64 n, .int .i64 a] 23) := by rw [← hW0]; exact blk_alloc (blk_alloc (blk_new _ rfl) _) _
  have k1 : W0.heap[w.heap.size + 1]? = some (.cells #[.int .i64 m, .int .i64 b] 23) := by rw [← hW0]; exact blk_alloc (blk_new _ (by simp)) _
  have k2 : W0.heap[w.heap.size + 2]? = some (.cells #[.int .i64 0, .int .i64 0] 23) := by rw [← hW0]; exact blk_new _ (by simp)
  have s0 : W0.heap.size = w.heap.size + 3 := by rw [← hW0]; simp
  rw [hW0]
  clear hW0
  have HL := Lib.hid (fun (wa : World) (hba : Below W0.heap.size W0 wa) => (show Below w.heap.size w wa ∧ wa.cell? ⟨w.heap.size, 0, none⟩ = some (.int .i64 n) ∧ wa.cell? ⟨w.heap.size, 1, none⟩ = some (.int .i64 a) ∧ wa.cell? ⟨w.heap.size + 1, 0, none⟩ = some (.int .i64 m) ∧ wa.cell? ⟨w.heap.size + 1, 1, none⟩ = some (.int .i64 b) ∧ wa.cell? ⟨w.heap.size + 2, 0, none⟩ = some (.int .i64 0) ∧ wa.cell? ⟨w.heap.size + 2, 1, none⟩ = some (.int .i64 0) ∧ wa.frozen? ⟨w.heap.size + 2, 0, none⟩ = false ∧ wa.frozen? ⟨w.heap.size + 2, 1, none⟩ = false from
    have h0 := blk_below k0 hba (by omega)
    have h1 := blk_below k1 hba (by omega)
    have h2 := blk_below k2 hba (by omega)
    ⟨hB0.trans (hba.mono (by omega)), blk_cell h0 0, blk_cell h0 1, blk_cell h1 0, blk_cell h1 1, blk_cell h2 0, blk_cell h2 1, blk_free h2 0, blk_free h2 1⟩))
  obtain ⟨-, c0, c1, c2, c3, -⟩ := HL.out W0 (Below.refl _ _)
  clear k0 k1 k2 hB0
  go_wp2_with fail
  refine (HR1.out _).mono ?_
  rintro ee W1 ⟨rfl, hb1⟩
  obtain ⟨-, c0, c1, c2, c3, -⟩ := HL.out W1 hb1
  go_wp2_with fail
  refine (HR2.out _).mono ?_
  rintro ee W2 ⟨rfl, hb2⟩
  have hb2 : Below W0.heap.size W0 W2 := hb1.trans (hb2.mono hb1.size)
  obtain ⟨-, c0, c1, c2, c3, -⟩ := HL.out W2 hb2
  have hd : Below W0.heap.size W0 W2.drew := hb2.drew
  have KP := Lib.hid (fun (w' : World) (hb : Below W0.heap.size W0 w') => (show w'.cell? ⟨w.heap.size, 0, none⟩ = some (.int .i64 n) ∧ w'.cell? ⟨w.heap.size, 1, none⟩ = some (.int .i64 a) ∧ w'.cell? ⟨w.heap.size + 1, 0, none⟩ = some (.int .i64 m) ∧ w'.cell? ⟨w.heap.size + 1, 1, none⟩ = some (.int .i64 b) from
    have h := HL.out w' hb
    ⟨h.2.1, h.2.2.1, h.2.2.2.1, h.2.2.2.2.1⟩))
  have ne0 : w.heap.size + 1 + 1 ≠ w.heap.size := by omega
  have ne1 : w.heap.size + 1 + 1 ≠ w.heap.size + 1 := by omega
  go_upto_region 3 with fail
  have hsg2 := Hs2.out
  go_region_held3 (fun w' => w'.cell? ⟨w.heap.size, 0, none⟩ = some (.int .i64 n) ∧ w'.cell? ⟨w.heap.size, 1, none⟩ = some (.int .i64 a) ∧ w'.cell? ⟨w.heap.size + 1, 0, none⟩ = some (.int .i64 m) ∧ w'.cell? ⟨w.heap.size + 1, 1, none⟩ = some (.int .i64 b)) ((first | exact ⟨c0, c1, c2, c3⟩ | exact KP.out _ hbc | exact ⟨keepS (keepS c0' ne0 _) ne0 _, keepS (keepS c1' ne0 _) ne0 _, keepS (keepS c2' ne1 _) ne1 _, keepS (keepS c3' ne1 _) ne1 _⟩))
    ((first
      | (go_at_call 58; first | ((with_reducible refine (HSn.out _).mono ?_); rintro ee we ⟨rfl, rfl⟩) | ((with_reducible refine (HSb.out _).mono ?_); rintro ee we ⟨rfl, rfl⟩) | ((with_reducible refine (HSm.out _).mono ?_); rintro ee we ⟨rfl, rfl⟩) | ((with_reducible refine (HSa.out _).mono ?_); rintro ee we ⟨rfl, rfl⟩))
      | (go_at_call 82; (with_reducible refine (HT.out _).mono ?_); rintro ee wc ⟨rfl, hbc0⟩; have hbc := hd.trans (hbc0.mono hd.size); obtain ⟨hB3, c0', c1', c2', c3', c4, c5, c6, c7⟩ := HL.out wc hbc)))
  clear hsg2
  go_wp2
  exact bodyPost_ret (v := .tuple #[.agg #[.int .i64 D, .int .i64 E], .int .i64 0]) (by simp [results, Tryd.results63, go_sem, c4, c5]) rfl ⟨rfl, (hB3.setCell (by show _ ≤ w.heap.size + 2; omega) _).setCell (by show _ ≤ w.heap.size + 2; omega) _⟩

theorem fmul_sm (f g : Pt) (hf : smF f) (hg : smF g) (w : World) : Calls Tryd.prog 63 #[fV f, fV g] w fun e w' => e = .returned (.tuple #[fV (mulF f g), .int .i64 0]) ∧ Below w.heap.size w w' := by
  obtain ⟨n, a, rfl⟩ := sm_form hf
  obtain ⟨m, b, rfl⟩ := sm_form hg
  exact fmul_low n m a b hf hg w

end Go.Proofs.YtlobdeakgoicpaaDoor
