/- The walks of finesseref21: board, whole, Sum, Share, Percent. -/
import Derived.Test.YtlobdeakgoicpaaDoorNeuPer
import Derived.Test.YtlobdeakgoicpaaDoorMatRefW
namespace Go.Proofs.YtlobdeakgoicpaaDoor
open Go.RowKit

def boardB (n all : Int) : Bool := decide (1 ≤ all) && (decide (all ≤ 24) && (decide (0 ≤ n) && decide (n ≤ all)))
theorem boardB_iff (n all : Int) : boardB n all = true ↔ (1 ≤ all ∧ all ≤ 24 ∧ 0 ≤ n ∧ n ≤ all) := by
  unfold boardB
  simp only [Bool.and_eq_true, decide_eq_true_eq]
set_option maxHeartbeats 1000000 in
theorem r21board (n all : Int) (w : World) : Calls Tryd.prog 39 #[.int .i64 n, .int .i64 all] w fun e w' => e = .returned (.bool (boardB n all)) ∧ w = w' := by
  obtain ⟨r, hr⟩ : ∃ r, boardB n all = r := ⟨_, rfl⟩
  rw [hr]
  have Hr := Lib.hid hr
  clear hr
  by_cases h1 : 1 ≤ all
  · by_cases h2 : all ≤ 24
    · by_cases h3 : 0 ≤ n
      · by_cases h4 : n ≤ all
        · have e : true = r := by rw [← Hr.out, (boardB_iff n all).2 ⟨h1, h2, h3, h4⟩]
          have E := Lib.hid e
          clear e
          go_enter Tryd.func39, Tryd.ntmps39
          go_wp2
          go_ret
          exact ⟨by rw [← E.out]; rfl, rfl⟩
        · have e : false = r := by rw [← Hr.out]; unfold boardB; rw [decide_eq_false h4]; simp
          have E := Lib.hid e
          clear e
          go_enter Tryd.func39, Tryd.ntmps39
          go_wp2
          go_ret
          exact ⟨by rw [← E.out]; rfl, rfl⟩
      · have e : false = r := by rw [← Hr.out]; unfold boardB; rw [decide_eq_false h3]; simp
        have E := Lib.hid e
        clear e
        go_enter Tryd.func39, Tryd.ntmps39
        go_wp2
        go_ret
        exact ⟨by rw [← E.out]; rfl, rfl⟩
    · have e : false = r := by rw [← Hr.out]; unfold boardB; rw [decide_eq_false h2]; simp
      have E := Lib.hid e
      clear e
      go_enter Tryd.func39, Tryd.ntmps39
      go_wp2
      go_ret
      exact ⟨by rw [← E.out]; rfl, rfl⟩
  · have e : false = r := by rw [← Hr.out]; unfold boardB; rw [decide_eq_false h1]; simp
    have E := Lib.hid e
    clear e
    go_enter Tryd.func39, Tryd.ntmps39
    go_wp2
    go_ret
    exact ⟨by rw [← E.out]; rfl, rfl⟩
set_option maxHeartbeats 1000000 in
theorem r21whole (n : Int) (w : World) : Calls Tryd.prog 42 #[.int .i64 n] w fun e w' => e = .returned (.agg #[.int .i64 n, .int .i64 1]) ∧ Below w.heap.size w w' := by
  go_enter Tryd.func42, Tryd.ntmps42
  go_wp2
  exact bodyPost_ret (v := .agg #[.int .i64 n, .int .i64 1]) (by simp [results, Tryd.results42, go_sem]) rfl ⟨rfl, (by repeat (first | exact Below.refl _ _ | assumption | refine Below.drew ?_ | refine below_drewN ?_ _ | refine Below.alloc ?_ (by first | omega | (simp; done) | (simp; omega)) _ | refine Below.setCell ?_ (by first | omega | (simp; done) | (simp; omega)) _))⟩

set_option maxHeartbeats 1000000 in
theorem r21sum (n all : Int) (w : World) : Calls Tryd.prog 14 #[.int .i64 n, .int .i64 all] w fun e w' => e = .returned (.tuple #[.int .i64 (if boardB n all then n * (all - 1) else 0), .int .i64 (if boardB n all then 0 else 2)]) ∧ w = w' := by
  have HB := Lib.hid (r21board n all w)
  cases hb : boardB n all with
  | false =>
    rw [hb] at HB
    rw [if_neg (by decide), if_neg (by decide)]
    clear hb
    go_enter Tryd.func14, Tryd.ntmps14
    go_wp2_with fail
    refine HB.out.mono ?_
    rintro ee w1 ⟨rfl, rfl⟩
    go_wp2
    go_ret2
    exact ⟨rfl, rfl⟩
  | true =>
    obtain ⟨h1, h2, h3, h4⟩ := (boardB_iff n all).1 hb
    rw [hb] at HB
    rw [if_pos rfl, if_pos rfl]
    have hm := mulB (x := n) (y := all) (X := 24) (Y := 24) (by omega) (by omega)
    have i1 := IntWalk.i64_in (n * all) (by omega)
    have i2 := IntWalk.i64_in (n * all - n) (by omega)
    have HE := Lib.hid (show n * all - n = n * (all - 1) by rw [Int.mul_sub, Int.mul_one])
    clear hb h1 h2 h3 h4 hm
    go_enter Tryd.func14, Tryd.ntmps14
    go_wp2_with fail
    refine HB.out.mono ?_
    rintro ee w1 ⟨rfl, rfl⟩
    go_wp2
    go_ret2
    exact ⟨by rw [← HE.out]; rfl, rfl⟩

/-- A variable for a fraction. -/
theorem frz {w : World} : Below w.heap.size w (w.alloc (.cells #[.int .i64 0, .int .i64 0] 23)) := (Below.refl _ _).alloc (Nat.le_refl _) _

set_option maxHeartbeats 1000000 in
theorem r21share (p all : Int) (w : World) (hp : -9223372036854775808 ≤ p ∧ p ≤ 9223372036854775807) :
    Calls Tryd.prog 18 #[.int .i64 p, .int .i64 all] w fun e w' => e = .returned (.tuple #[fV (if boardB 0 all && (decide (0 ≤ p) && decide (p ≤ 100)) then fr (p * 2 * (all - 1)) 100 else (0, 0)), .int .i64 (if boardB 0 all && (decide (0 ≤ p) && decide (p ≤ 100)) then 0 else 2)]) ∧ Below w.heap.size w w' := by
  have HB := Lib.hid (fun W => r21board 0 all W)
  by_cases hok : (boardB 0 all && (decide (0 ≤ p) && decide (p ≤ 100))) = true
  · rw [if_pos hok, if_pos hok]
    obtain ⟨k1, k2⟩ := Bool.and_eq_true_iff.1 hok
    obtain ⟨k3, k4⟩ := Bool.and_eq_true_iff.1 k2
    have k3 := of_decide_eq_true k3
    have k4 := of_decide_eq_true k4
    obtain ⟨h1, h2, -, -⟩ := (boardB_iff 0 all).1 k1
    rw [k1] at HB
    have hm := mulB (x := p * 2) (y := all - 1) (X := 200) (Y := 23) (by omega) (by omega)
    have i0 := IntWalk.i64_in (p * 2) (by omega)
    have i1 := IntWalk.i64_in (all - 1) (by omega)
    have i2 := IntWalk.i64_in (p * 2 * (all - 1)) (by omega)
    have HR := Lib.hid (fun W => reduced_any (p * 2 * (all - 1)) 100 W (by omega) (by omega))
    obtain ⟨F, hF⟩ : ∃ F, fr (p * 2 * (all - 1)) 100 = F := ⟨_, rfl⟩
    rw [hF] at HR ⊢
    obtain ⟨x, y⟩ := F
    unfold fV at HR ⊢
    dsimp only at HR ⊢
    have t1 : ¬ p < 0 := by omega
    have t2 : ¬ 100 < p := by omega
    clear hF hok k1 k2 h1 h2 hm
    go_enter Tryd.func18, Tryd.ntmps18
    go_wp2_with fail
    refine (HB.out _).mono ?_
    rintro ee w1 ⟨rfl, rfl⟩
    go_wp2_with fail
    refine (HR.out _).mono ?_
    rintro ee w2 ⟨rfl, hb2⟩
    have k := blk_below (blk_new (w := w) (.cells #[.int .i64 0, .int .i64 0] 23) rfl) hb2 (by simp)
    have hbz := below_viaD (frz (w := w)) hb2
    have c0 := blk_cell k 0
    have c1 := blk_cell k 1
    have f0 := blk_free k 0
    have f1 := blk_free k 1
    go_wp2
    have z := blk_set (blk_set k 0 (.int .i64 x)) 1 (.int .i64 y)
    have z0 := blk_cell z 0
    have z1 := blk_cell z 1
    exact bodyPost_ret (v := .tuple #[.agg #[.int .i64 x, .int .i64 y], .int .i64 0]) (by simp [results, Tryd.results18, go_sem, z0, z1]) rfl ⟨rfl, (hbz.setCell (p := ⟨w.heap.size, 0, none⟩) (Nat.le_refl _) _).setCell (p := ⟨w.heap.size, 1, none⟩) (Nat.le_refl _) _⟩
  · rw [if_neg hok, if_neg hok]
    cases hb : boardB 0 all with
    | false =>
      rw [hb] at HB
      clear hok hb
      go_enter Tryd.func18, Tryd.ntmps18
      go_wp2_with fail
      refine (HB.out _).mono ?_
      rintro ee w1 ⟨rfl, rfl⟩
      go_wp2
      exact bodyPost_ret (v := .tuple #[.agg #[.int .i64 0, .int .i64 0], .int .i64 2]) (by simp [results, Tryd.results18, go_sem]) rfl ⟨rfl, (by repeat (first | exact Below.refl _ _ | assumption | refine Below.drew ?_ | refine below_drewN ?_ _ | refine Below.alloc ?_ (by first | omega | (simp; done) | (simp; omega)) _ | refine Below.setCell ?_ (by first | omega | (simp; done) | (simp; omega)) _))⟩
    | true =>
      rw [hb] at HB hok
      by_cases h1 : p < 0
      · clear hok hb
        go_enter Tryd.func18, Tryd.ntmps18
        go_wp2_with fail
        refine (HB.out _).mono ?_
        rintro ee w1 ⟨rfl, rfl⟩
        go_wp2
        exact bodyPost_ret (v := .tuple #[.agg #[.int .i64 0, .int .i64 0], .int .i64 2]) (by simp [results, Tryd.results18, go_sem]) rfl ⟨rfl, (by repeat (first | exact Below.refl _ _ | assumption | refine Below.drew ?_ | refine below_drewN ?_ _ | refine Below.alloc ?_ (by first | omega | (simp; done) | (simp; omega)) _ | refine Below.setCell ?_ (by first | omega | (simp; done) | (simp; omega)) _))⟩
      · have h2 : 100 < p := by
          rcases Int.lt_or_le 100 p with h | h
          · exact h
          · rw [decide_eq_true (show 0 ≤ p by omega), decide_eq_true h] at hok; exact absurd rfl hok
        clear hok hb
        go_enter Tryd.func18, Tryd.ntmps18
        go_wp2_with fail
        refine (HB.out _).mono ?_
        rintro ee w1 ⟨rfl, rfl⟩
        go_wp2
        exact bodyPost_ret (v := .tuple #[.agg #[.int .i64 0, .int .i64 0], .int .i64 2]) (by simp [results, Tryd.results18, go_sem]) rfl ⟨rfl, (by repeat (first | exact Below.refl _ _ | assumption | refine Below.drew ?_ | refine below_drewN ?_ _ | refine Below.alloc ?_ (by first | omega | (simp; done) | (simp; omega)) _ | refine Below.setCell ?_ (by first | omega | (simp; done) | (simp; omega)) _))⟩

/-- A small fraction is made as it is. -/
theorem mk0_fr (N D : Nat) (hN : N < 9223372036854775808) (hD : 0 < D ∧ D < 9223372036854775808) : mk0 false N D = fr (N : Int) (D : Int) ∧ mkE false N D = 0 := by
  have h1 : N / Nat.gcd N D ≤ N := Nat.div_le_self _ _
  have h2 : D / Nat.gcd N D ≤ D := Nat.div_le_self _ _
  have hok : okK false N D = true := by
    unfold okK
    rw [Bool.false_and]
    exact Bool.and_eq_true_iff.2 ⟨decide_eq_true (by omega), decide_eq_true (by omega)⟩
  unfold mk0 mkE
  rw [hok]
  refine ⟨?_, rfl⟩
  unfold okK at hok
  rw [Bool.false_and] at hok
  obtain ⟨k1, k2⟩ := Bool.and_eq_true_iff.1 hok
  rw [if_pos rfl, Bool.false_and]
  unfold numV
  rw [k1, k2]
  unfold fr
  have hg : Int.gcd (N : Int) (D : Int) = Nat.gcd N D := by unfold Int.gcd; simp
  rw [hg, ← Int.natCast_ediv, ← Int.natCast_ediv]
  rfl

set_option maxRecDepth 100000 in
set_option maxHeartbeats 2000000 in
theorem r21percent_ok (f1 : Int) (a : Nat) (all : Int) (w : World) (hf1 : -9223372036854775808 ≤ f1 ∧ f1 ≤ 9223372036854775807) (ha2 : 1 ≤ a ∧ a ≤ 9223372036854775807) (ha : 2 ≤ all ∧ all ≤ 24) (hr : rightF (f1, (a : Int)) = true) (q1 : Int) (b : Nat) (hq : fr 100 (2 * (all - 1)) = (q1, (b : Int))) (hq1 : 0 < q1 ∧ q1 ≤ 1000) (hb : 1 ≤ b ∧ b ≤ 1000) (hrq : rightF (q1, (b : Int)) = true) (x y E : Int)
    (hF : mk0 (decide (f1 < 0)) (f1.natAbs * q1.natAbs) (a * b) = (x, y)) (hE : mkE (decide (f1 < 0)) (f1.natAbs * q1.natAbs) (a * b) = E) :
    Calls Tryd.prog 16 #[.agg #[.int .i64 f1, .int .i64 a], .int .i64 all] w fun e w' => e = .returned (.tuple #[.agg #[.int .i64 x, .int .i64 y], .int .i64 E]) ∧ Below w.heap.size w w' := by
  have HB := Lib.hid (fun W => r21board 0 all W)
  rw [(boardB_iff 0 all).2 ⟨by omega, ha.2, by omega, by omega⟩] at HB
  have HR := Lib.hid (fun W => r01right f1 (a : Int) W hf1 (by omega))
  rw [hr] at HR
  obtain ⟨T, hT⟩ : ∃ T : Int, 2 * all - 2 = T := ⟨_, rfl⟩
  have hTT : 2 * (all - 1) = T := by omega
  have HM := Lib.hid (fun W => r01make 100 T W (by omega) (by omega))
  have hmk := mk0_fr 100 T.natAbs (by omega) (by omega)
  rw [show ((100 : Nat) : Int) = 100 from rfl, show ((T.natAbs : Nat) : Int) = T by omega, ← hTT, hq] at hmk
  rw [show (100 : Int).natAbs = 100 from rfl, ← hTT, hmk.1, hmk.2, hTT] at HM
  have HU := Lib.hid (fun W => r01mulF f1 (a : Int) q1 (b : Int) W hf1 (by omega) (by omega) (by omega) hr hrq)
  rw [show ((a : Int)).natAbs = a by omega, show ((b : Int)).natAbs = b by omega, hF, hE] at HU
  unfold fV at HM HU
  dsimp only at HM HU
  have i1 := IntWalk.i64_in (2 * all) (by omega)
  have i2 := IntWalk.i64_in (2 * all - 2) (by omega)
  have i3 := IntWalk.i64_in T (by omega)
  have t1 : (all == 1) = false := beq_eq_false_iff_ne.2 (by omega)
  obtain ⟨f2, hf2⟩ : ∃ f2 : Int, (a : Int) = f2 := ⟨_, rfl⟩
  obtain ⟨q2, hq2⟩ : ∃ q2 : Int, (b : Int) = q2 := ⟨_, rfl⟩
  rw [hf2] at HR HU ⊢
  rw [hq2] at HM HU
  obtain ⟨g, hg⟩ : ∃ g, w.heap.size = g := ⟨_, rfl⟩
  obtain ⟨W1, hW1⟩ : ∃ V, (w.alloc (.cells #[.int .i64 f1, .int .i64 f2] 23)).alloc (.cells #[.int .i64 0, .int .i64 0] 23) = V := ⟨_, rfl⟩
  have hb1 : Below w.heap.size w W1 := by rw [← hW1]; exact (by repeat (first | exact Below.refl _ _ | assumption | refine Below.drew ?_ | refine below_drewN ?_ _ | refine Below.alloc ?_ (by first | omega | (simp; done) | (simp; omega)) _ | refine Below.setCell ?_ (by first | omega | (simp; done) | (simp; omega)) _))
  have k0 : W1.heap[g]? = some (.cells #[.int .i64 f1, .int .i64 f2] 23 (0, 0)) := by rw [← hW1]; exact blk_alloc (blk_new _ hg.symm) _
  have k1 : W1.heap[g + 1]? = some (.cells #[.int .i64 0, .int .i64 0] 23 (0, 0)) := by rw [← hW1]; exact blk_new _ (by simp; omega)
  have Hgw := Lib.hid (show w.heap.size ≤ g + 1 by omega)
  have HB1 := Lib.hid hb1
  have K0 := Lib.hid k0
  have K1 := Lib.hid k1
  have c0 := blk_cell k0 0
  have c1 := blk_cell k0 1
  clear hF hE hf1 ha2 ha hr hq hq1 hb hrq hmk hTT hf2 hq2 hb1 k0 k1
  go_enter Tryd.func16, Tryd.ntmps16
  go_wp2_with fail
  (try rw [hW1])
  (try rw [hg])
  clear hW1 hg
  refine (HB.out _).mono ?_
  rintro ee w1 ⟨rfl, rfl⟩
  go_wp2_with fail
  refine (HR.out _).mono ?_
  rintro ee w2 ⟨rfl, hb2⟩
  have B2 := Lib.hid (below_viaD HB1.out hb2)
  have L0 := Lib.hid (blk_below K0.out hb2 (blk_lt K0.out))
  have L1 := Lib.hid (blk_below K1.out hb2 (blk_lt K1.out))
  clear hb2 HB1 K0 K1 c0 c1
  go_wp2_with fail
  (try rw [hT])
  clear hT
  refine (HM.out _).mono ?_
  rintro ee w3 ⟨rfl, hb3⟩
  have B3 := Lib.hid (below_viaD B2.out hb3)
  have K0 := Lib.hid (blk_below L0.out hb3 (blk_lt L0.out))
  have K1 := Lib.hid (blk_below L1.out hb3 (blk_lt L1.out))
  clear hb3 B2 L0 L1
  obtain ⟨W4, hW4⟩ : ∃ V, w3.alloc (.cells #[.int .i64 q1, .int .i64 q2] 23) = V := ⟨_, rfl⟩
  obtain ⟨g3, hg3⟩ : ∃ g, w3.heap.size = g := ⟨_, rfl⟩
  have hb4 : Below w3.heap.size w3 W4 := by rw [← hW4]; exact (Below.refl _ _).alloc (Nat.le_refl _) _
  have k2 : W4.heap[g3]? = some (.cells #[.int .i64 q1, .int .i64 q2] 23 (0, 0)) := by rw [← hW4]; exact blk_new _ hg3.symm
  have B4 := Lib.hid (below_viaD B3.out hb4)
  have L0 := Lib.hid (blk_below K0.out hb4 (blk_lt K0.out))
  have L1 := Lib.hid (blk_below K1.out hb4 (blk_lt K1.out))
  have c0 := blk_cell L0.out 0
  have c1 := blk_cell L0.out 1
  have d0 := blk_cell k2 0
  have d1 := blk_cell k2 1
  clear hb4 B3 K0 K1 k2
  go_upto_region 6 with fail
  (try rw [hW4])
  (try rw [hg3])
  clear hW4 hg3
  go_wp2_with fail
  refine (HU.out _).mono ?_
  rintro ee w5 ⟨rfl, hb5⟩
  obtain ⟨W6, hW6⟩ : ∃ V, w5.alloc (.cells #[.int .i64 x, .int .i64 y] 23) = V := ⟨_, rfl⟩
  obtain ⟨g5, hg5⟩ : ∃ g, w5.heap.size = g := ⟨_, rfl⟩
  have hb6 : Below W4.heap.size W4 W6 := by rw [← hW6]; exact hb5.alloc hb5.size _
  have k2 : W6.heap[g5]? = some (.cells #[.int .i64 x, .int .i64 y] 23 (0, 0)) := by rw [← hW6]; exact blk_new _ hg5.symm
  have B6 := Lib.hid (below_viaD B4.out hb6)
  have K1 := Lib.hid (blk_below L1.out hb6 (blk_lt L1.out))
  have e0 := blk_cell k2 0
  have e1 := blk_cell k2 1
  have y0 := blk_cell K1.out 0
  have y1 := blk_cell K1.out 1
  have f0 := blk_free K1.out 0
  have f1' := blk_free K1.out 1
  clear hb5 hb6 B4 L0 L1 k2
  go_upto_region 7 with fail
  (try rw [hW6])
  (try rw [hg5])
  clear hW6 hg5
  go_wp2
  have z := blk_set (blk_set K1.out 0 (.int .i64 x)) 1 (.int .i64 y)
  have z0 := blk_cell z 0
  have z1 := blk_cell z 1
  exact bodyPost_ret (v := .tuple #[.agg #[.int .i64 x, .int .i64 y], .int .i64 E]) (by simp [results, Tryd.results16, go_sem, z0, z1]) rfl ⟨rfl, (B6.out.setCell (p := ⟨g + 1, 0, none⟩) Hgw.out _).setCell (p := ⟨g + 1, 1, none⟩) Hgw.out _⟩

set_option maxRecDepth 100000 in
set_option maxHeartbeats 1000000 in
theorem r21percent_bad (f1 f2 all E : Int) (w : World) (h1 : -9223372036854775808 ≤ f1 ∧ f1 ≤ 9223372036854775807) (h2 : -9223372036854775808 ≤ f2 ∧ f2 ≤ 9223372036854775807)
    (h : (E = 2 ∧ boardB 0 all = false) ∨ (E = 2 ∧ boardB 0 all = true ∧ rightF (f1, f2) = false) ∨ (E = 6 ∧ boardB 0 all = true ∧ rightF (f1, f2) = true ∧ all = 1)) :
    Calls Tryd.prog 16 #[.agg #[.int .i64 f1, .int .i64 f2], .int .i64 all] w fun e w' => e = .returned (.tuple #[.agg #[.int .i64 0, .int .i64 0], .int .i64 E]) ∧ Below w.heap.size w w' := by
  have HB := Lib.hid (fun W => r21board 0 all W)
  have HR := Lib.hid (fun W => r01right f1 f2 W h1 h2)
  clear h1 h2
  rcases h with ⟨rfl, hb⟩ | ⟨rfl, hb, hr⟩ | ⟨rfl, hb, hr, rfl⟩
  · rw [hb] at HB
    clear hb
    go_enter Tryd.func16, Tryd.ntmps16
    go_wp2_with fail
    refine (HB.out _).mono ?_
    rintro ee w1 ⟨rfl, rfl⟩
    go_wp2
    exact bodyPost_ret (v := .tuple #[.agg #[.int .i64 0, .int .i64 0], .int .i64 2]) (by simp [results, Tryd.results16, go_sem]) rfl ⟨rfl, (by repeat (first | exact Below.refl _ _ | assumption | refine Below.drew ?_ | refine below_drewN ?_ _ | refine Below.alloc ?_ (by first | omega | (simp; done) | (simp; omega)) _ | refine Below.setCell ?_ (by first | omega | (simp; done) | (simp; omega)) _))⟩
  · rw [hb] at HB
    rw [hr] at HR
    clear hb hr
    go_enter Tryd.func16, Tryd.ntmps16
    go_wp2_with fail
    refine (HB.out _).mono ?_
    rintro ee w1 ⟨rfl, rfl⟩
    go_wp2_with fail
    refine (HR.out _).mono ?_
    rintro ee w2 ⟨rfl, hb2⟩
    have k := blk_below (blk_new (w := w.alloc (.cells #[.int .i64 f1, .int .i64 f2] 23)) (.cells #[.int .i64 0, .int .i64 0] 23) rfl) hb2 (by simp)
    have hbz : Below w.heap.size w w2 := below_viaD (W1 := (w.alloc (.cells #[.int .i64 f1, .int .i64 f2] 23)).alloc (.cells #[.int .i64 0, .int .i64 0] 23)) (by repeat (first | exact Below.refl _ _ | assumption | refine Below.drew ?_ | refine below_drewN ?_ _ | refine Below.alloc ?_ (by first | omega | (simp; done) | (simp; omega)) _ | refine Below.setCell ?_ (by first | omega | (simp; done) | (simp; omega)) _)) hb2
    rw [show (w.alloc (.cells #[.int .i64 f1, .int .i64 f2] 23)).heap.size = w.heap.size + 1 by simp] at k
    have c0 := blk_cell k 0
    have c1 := blk_cell k 1
    have f0 := blk_free k 0
    have f1' := blk_free k 1
    go_wp2
    have z := blk_set (blk_set k 0 (.int .i64 0)) 1 (.int .i64 0)
    have z0 := blk_cell z 0
    have z1 := blk_cell z 1
    exact bodyPost_ret (v := .tuple #[.agg #[.int .i64 0, .int .i64 0], .int .i64 2]) (by simp [results, Tryd.results16, go_sem, z0, z1]) rfl ⟨rfl, (hbz.setCell (p := ⟨w.heap.size + 1, 0, none⟩) (Nat.le_succ _) _).setCell (p := ⟨w.heap.size + 1, 1, none⟩) (Nat.le_succ _) _⟩
  · rw [hb] at HB
    rw [hr] at HR
    clear hb hr
    go_enter Tryd.func16, Tryd.ntmps16
    go_wp2_with fail
    refine (HB.out _).mono ?_
    rintro ee w1 ⟨rfl, rfl⟩
    go_wp2_with fail
    refine (HR.out _).mono ?_
    rintro ee w2 ⟨rfl, hb2⟩
    have k := blk_below (blk_new (w := w.alloc (.cells #[.int .i64 f1, .int .i64 f2] 23)) (.cells #[.int .i64 0, .int .i64 0] 23) rfl) hb2 (by simp)
    have hbz : Below w.heap.size w w2 := below_viaD (W1 := (w.alloc (.cells #[.int .i64 f1, .int .i64 f2] 23)).alloc (.cells #[.int .i64 0, .int .i64 0] 23)) (by repeat (first | exact Below.refl _ _ | assumption | refine Below.drew ?_ | refine below_drewN ?_ _ | refine Below.alloc ?_ (by first | omega | (simp; done) | (simp; omega)) _ | refine Below.setCell ?_ (by first | omega | (simp; done) | (simp; omega)) _)) hb2
    rw [show (w.alloc (.cells #[.int .i64 f1, .int .i64 f2] 23)).heap.size = w.heap.size + 1 by simp] at k
    have c0 := blk_cell k 0
    have c1 := blk_cell k 1
    have f0 := blk_free k 0
    have f1' := blk_free k 1
    go_wp2
    have z := blk_set (blk_set k 0 (.int .i64 0)) 1 (.int .i64 0)
    have z0 := blk_cell z 0
    have z1 := blk_cell z 1
    exact bodyPost_ret (v := .tuple #[.agg #[.int .i64 0, .int .i64 0], .int .i64 6]) (by simp [results, Tryd.results16, go_sem, z0, z1]) rfl ⟨rfl, (hbz.setCell (p := ⟨w.heap.size + 1, 0, none⟩) (Nat.le_succ _) _).setCell (p := ⟨w.heap.size + 1, 1, none⟩) (Nat.le_succ _) _⟩

end Go.Proofs.YtlobdeakgoicpaaDoor
