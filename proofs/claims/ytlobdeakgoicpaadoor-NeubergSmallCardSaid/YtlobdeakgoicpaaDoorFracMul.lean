/- The walk of frac.Cmp for fractions that are not too great. The walk of frac.Sum for fractions that are not too great, and Right, Add, Cmp by pairs. Plain laws of matchpoints: sums, turned results, order. Products of fractions in lowest terms. No program stands in this text. -/
import Derived.Test.YtlobdeakgoicpaaDoorFracAdd
import Derived.Test.YtlobdeakgoicpaaDoorMatW
namespace Go.Proofs.YtlobdeakgoicpaaDoor
open Go.RowKit

/-! ### The walk of frac.Cmp for fractions that are not too great. -/
/-- How two fractions compare, by their products across. -/
def cmpF (f g : Pt) : Int := if f.1 * g.2 < g.1 * f.2 then -1 else if g.1 * f.2 < f.1 * g.2 then 1 else 0

/-- The products across, by the sizes. -/
theorem cross_sizes (n m : Int) (a b : Nat) : n * (b : Int) = (if n < 0 then -((n.natAbs * b : Nat) : Int) else ((n.natAbs * b : Nat) : Int)) ∧ m * (a : Int) = (if m < 0 then -((m.natAbs * a : Nat) : Int) else ((m.natAbs * a : Nat) : Int)) := by
  constructor
  · rw [Int.natCast_mul]
    split
    · rw [show ((n.natAbs : Nat) : Int) = -n by omega, Int.neg_mul, Int.neg_neg]
    · rw [show ((n.natAbs : Nat) : Int) = n by omega]
  · rw [Int.natCast_mul]
    split
    · rw [show ((m.natAbs : Nat) : Int) = -m by omega, Int.neg_mul, Int.neg_neg]
    · rw [show ((m.natAbs : Nat) : Int) = m by omega]

theorem fcmp_sign (n m : Int) (a b : Nat) (hf : wdF (n, (a : Int))) (hg : wdF (m, (b : Int))) :
    (n < 0 → ¬ m < 0 → cmpF (n, (a : Int)) (m, (b : Int)) = -1) ∧ (¬ n < 0 → m < 0 → cmpF (n, (a : Int)) (m, (b : Int)) = 1) ∧
    (¬ n < 0 → ¬ m < 0 → cmpF (n, (a : Int)) (m, (b : Int)) = if n.natAbs * b < m.natAbs * a then -1 else if m.natAbs * a < n.natAbs * b then 1 else 0) ∧
    (n < 0 → m < 0 → cmpF (n, (a : Int)) (m, (b : Int)) = -(if n.natAbs * b < m.natAbs * a then -1 else if m.natAbs * a < n.natAbs * b then 1 else 0)) := by
  have ha : 1 ≤ a := by have := hf.1.1; dsimp only at this; omega
  have hb : 1 ≤ b := by have := hg.1.1; dsimp only at this; omega
  obtain ⟨e1, e2⟩ := cross_sizes n m a b
  have l1 : n.natAbs ≤ n.natAbs * b := Nat.le_mul_of_pos_right _ hb
  have l2 : m.natAbs ≤ m.natAbs * a := Nat.le_mul_of_pos_right _ ha
  unfold cmpF
  dsimp only
  rw [e1, e2]
  generalize n.natAbs * b = p at *
  generalize m.natAbs * a = q at *
  refine ⟨fun h1 h2 => ?_, fun h1 h2 => ?_, fun h1 h2 => ?_, fun h1 h2 => ?_⟩
  · rw [if_pos h1, if_neg h2, if_pos (by omega)]
  · rw [if_neg h1, if_pos h2, if_neg (by omega), if_pos (by omega)]
  · rw [if_neg h1, if_neg h2]; (repeat' split) <;> omega
  · rw [if_pos h1, if_pos h2]; (repeat' split) <;> omega

set_option maxHeartbeats 1000000 in
theorem fcmp_low (n m : Int) (a b : Nat) (hf : wdF (n, (a : Int))) (hg : wdF (m, (b : Int))) (w : World) :
    Calls Tryd.prog 29 #[.agg #[.int .i64 n, .int .i64 a], .agg #[.int .i64 m, .int .i64 b]] w fun e w' => e = .returned (.tuple #[.int .i64 (cmpF (n, (a : Int)) (m, (b : Int))), .int .i64 0]) ∧ Below w.heap.size w w' := by
  have HR1 := Lib.hid (fun W => right_low n a hf W)
  have HR2 := Lib.hid (fun W => right_low m b hg W)
  obtain ⟨v, hv⟩ : ∃ v, cmpF (n, (a : Int)) (m, (b : Int)) = v := ⟨_, rfl⟩
  rw [hv]
  have Hv := Lib.hid hv
  have Hf := Lib.hid hf
  have Hg := Lib.hid hg
  clear hv hf hg
  go_enter Tryd.func29, Tryd.ntmps29
  go_upto_region 1 with fail
  obtain ⟨W0, hW0⟩ : ∃ W0, ((w.alloc (.cells #[.int .i64 n, .int .i64 a] 23)).alloc (.cells #[.int .i64 m, .int .i64 b] 23)) = W0 := ⟨_, rfl⟩
  have hB0 : Below w.heap.size w W0 := by rw [← hW0]; exact (by repeat (first | exact Below.refl _ _ | assumption | refine Below.drew ?_ | refine below_drewN ?_ _ | refine Below.alloc ?_ (by first | omega | (simp; done) | (simp; omega)) _ | refine Below.setCell ?_ (by first | omega | (simp; done) | (simp; omega)) _))
  have k0 : W0.heap[w.heap.size]? = some (.cells #[.int .i64 n, .int .i64 a] 23) := by rw [← hW0]; exact blk_alloc (blk_new _ rfl) _
  have k1 : W0.heap[w.heap.size + 1]? = some (.cells #[.int .i64 m, .int .i64 b] 23) := by rw [← hW0]; exact blk_new _ (by simp)
  have s0 : W0.heap.size = w.heap.size + 2 := by rw [← hW0]; simp
  rw [hW0]
  clear hW0
  have HL := Lib.hid (fun (wa : World) (hba : Below W0.heap.size W0 wa) => (show Below w.heap.size w wa ∧ wa.cell? ⟨w.heap.size, 0, none⟩ = some (.int .i64 n) ∧ wa.cell? ⟨w.heap.size, 1, none⟩ = some (.int .i64 a) ∧ wa.cell? ⟨w.heap.size + 1, 0, none⟩ = some (.int .i64 m) ∧ wa.cell? ⟨w.heap.size + 1, 1, none⟩ = some (.int .i64 b) from
    have h0 := blk_below k0 hba (by omega)
    have h1 := blk_below k1 hba (by omega)
    ⟨hB0.trans (hba.mono (by omega)), blk_cell h0 0, blk_cell h0 1, blk_cell h1 0, blk_cell h1 1⟩))
  obtain ⟨-, c0, c1, c2, c3⟩ := HL.out W0 (Below.refl _ _)
  clear k0 k1 hB0
  go_wp2_with fail
  refine (HR1.out _).mono ?_
  rintro ee W1 ⟨rfl, hb1⟩
  obtain ⟨-, c0, c1, c2, c3⟩ := HL.out W1 hb1
  go_wp2_with fail
  refine (HR2.out _).mono ?_
  rintro ee W2 ⟨rfl, hb2⟩
  have hb2 : Below W0.heap.size W0 W2 := hb1.trans (hb2.mono hb1.size)
  obtain ⟨hB2, c0, c1, c2, c3⟩ := HL.out W2 hb2
  by_cases hs : n = m ∧ a = b
  · obtain ⟨rfl, rfl⟩ := hs
    have hv0 : v = 0 := by rw [← Hv.out]; unfold cmpF; rw [if_neg (by omega), if_neg (by omega)]
    go_wp2
    exact bodyPost_ret (v := .tuple #[.int .i64 v, .int .i64 0]) (by simp [results, Tryd.results29, go_sem, hv0]) rfl ⟨rfl, hB2⟩
  · have hx := fcmp_sign n m a b Hf.out Hg.out
    rw [Hv.out] at hx
    have Hx := Lib.hid hx
    clear hx
    have Hs := Lib.hid hs
    by_cases hn : n < 0 <;> by_cases hm : m < 0
    · have hv0 := Hx.out.2.2.2 hn hm
      have bn := Hf.out
      have bm := Hg.out
      unfold wdF isF at bn bm
      dsimp only at bn bm
      obtain ⟨p, hp⟩ : ∃ p, n.natAbs * b = p := ⟨_, rfl⟩
      obtain ⟨q, hq⟩ : ∃ q, m.natAbs * a = q := ⟨_, rfl⟩
      have hp2 : p ≤ 900000000000000000 := by rw [← hp]; exact Nat.le_trans (Nat.mul_le_mul (show n.natAbs ≤ 30000000000 by omega) (show b ≤ 30000000 by omega)) (by decide)
      have hq2 : q ≤ 900000000000000000 := by rw [← hq]; exact Nat.le_trans (Nat.mul_le_mul (show m.natAbs ≤ 30000000000 by omega) (show a ≤ 30000000 by omega)) (by decide)
      have HSa := Lib.hid (fun W => size_any (a : Int) W (by omega))
      have HSb := Lib.hid (fun W => size_any (b : Int) W (by omega))
      have HSn := Lib.hid (fun W => size_any n W (by omega))
      have HSm := Lib.hid (fun W => size_any m W (by omega))
      rw [show (((a : Int).natAbs : Nat) : Int) = (a : Int) by omega] at HSa
      rw [show (((b : Int).natAbs : Nat) : Int) = (b : Int) by omega] at HSb
      have HP1 := Lib.hid (fun W => product_small n.natAbs b W (by omega) (by omega) (by omega))
      have HP2 := Lib.hid (fun W => product_small m.natAbs a W (by omega) (by omega) (by omega))
      rw [hp] at HP1 hv0
      rw [hq] at HP2 hv0
      have HW := Lib.hid (fun W => wcmp_small p q W (by omega) (by omega))
      obtain ⟨u, hu⟩ : ∃ u : Int, (if p < q then -1 else if q < p then 1 else 0) = u := ⟨_, rfl⟩
      have hub : -1 ≤ u ∧ u ≤ 1 := by rw [← hu]; (repeat' split) <;> omega
      rw [hu] at HW hv0
      have h1 : decide (n < 0) = true := decide_eq_true hn
      have h2 : decide (m < 0) = true := decide_eq_true hm
      have iu : IntKind.i64.wrap (-u) = -u := IntWalk.i64_in _ (by omega)
      have l0 : w.heap.size < W2.heap.size := by have := hb2.size; omega
      have l1 : w.heap.size + 1 < W2.heap.size := by have := hb2.size; omega
      clear hu hp hq bn bm HR1 HR2 HL Hs Hx hp2 hq2 hub
      have HS := Lib.hid (fun (wx : World) (hb : Below W2.heap.size W2 wx) => (show wx.cell? ⟨w.heap.size, 0, none⟩ = some (.int .i64 n) ∧ wx.cell? ⟨w.heap.size, 1, none⟩ = some (.int .i64 a) ∧ wx.cell? ⟨w.heap.size + 1, 0, none⟩ = some (.int .i64 m) ∧ wx.cell? ⟨w.heap.size + 1, 1, none⟩ = some (.int .i64 b) from ⟨keepB hb l0 c0, keepB hb l0 c1, keepB hb l1 c2, keepB hb l1 c3⟩))
      have hd : Below W2.heap.size W2 W2.drew := (Below.refl _ _).drew
      rcases Classical.em (n = m) with rfl | hnm
      · have hab : ¬ a = b := fun h => hs ⟨rfl, h⟩
        clear hs
        go_upto_region 9 with fail
        all_goals go_region_held3 (fun w' => w'.cell? ⟨w.heap.size, 0, none⟩ = some (.int .i64 n) ∧ w'.cell? ⟨w.heap.size, 1, none⟩ = some (.int .i64 a) ∧ w'.cell? ⟨w.heap.size + 1, 0, none⟩ = some (.int .i64 n) ∧ w'.cell? ⟨w.heap.size + 1, 1, none⟩ = some (.int .i64 b)) ((first | exact ⟨c0, c1, c2, c3⟩ | exact HS.out _ hbc | exact HS.out _ hbb | exact HS.out _ hba))
          ((first | (go_at_call 58; first | ((with_reducible refine (HSn.out _).mono ?_); rintro ee we ⟨rfl, rfl⟩) | ((with_reducible refine (HSb.out _).mono ?_); rintro ee we ⟨rfl, rfl⟩) | ((with_reducible refine (HSm.out _).mono ?_); rintro ee we ⟨rfl, rfl⟩) | ((with_reducible refine (HSa.out _).mono ?_); rintro ee we ⟨rfl, rfl⟩)) | (go_at_call 57; first | ((with_reducible refine (HP1.out _).mono ?_); rintro ee wa ⟨rfl, hba0⟩; first | (have hba := hd.trans (hba0.mono hd.size)) | (have hba := hbb.trans (hba0.mono hbb.size))) | ((with_reducible refine (HP2.out _).mono ?_); rintro ee wb ⟨rfl, hbb0⟩; first | (have hbb := hd.trans (hbb0.mono hd.size)) | (have hbb := hba.trans (hbb0.mono hba.size)))) | (go_at_call 59; (with_reducible refine (HW.out _).mono ?_); rintro ee wc ⟨rfl, hbc0⟩; first | (have hbc := hbb.trans (hbc0.mono hbb.size)) | (have hbc := hba.trans (hbc0.mono hba.size)))))
        all_goals go_wp2
        all_goals exact bodyPost_ret (v := .tuple #[.int .i64 v, .int .i64 0]) (by simp [results, Tryd.results29, go_sem, hv0]) rfl ⟨rfl, hB2.trans (hbc.mono hB2.size)⟩
      · go_upto_region 9 with fail
        all_goals go_region_held3 (fun w' => w'.cell? ⟨w.heap.size, 0, none⟩ = some (.int .i64 n) ∧ w'.cell? ⟨w.heap.size, 1, none⟩ = some (.int .i64 a) ∧ w'.cell? ⟨w.heap.size + 1, 0, none⟩ = some (.int .i64 m) ∧ w'.cell? ⟨w.heap.size + 1, 1, none⟩ = some (.int .i64 b)) ((first | exact ⟨c0, c1, c2, c3⟩ | exact HS.out _ hbc | exact HS.out _ hbb | exact HS.out _ hba))
          ((first | (go_at_call 58; first | ((with_reducible refine (HSn.out _).mono ?_); rintro ee we ⟨rfl, rfl⟩) | ((with_reducible refine (HSb.out _).mono ?_); rintro ee we ⟨rfl, rfl⟩) | ((with_reducible refine (HSm.out _).mono ?_); rintro ee we ⟨rfl, rfl⟩) | ((with_reducible refine (HSa.out _).mono ?_); rintro ee we ⟨rfl, rfl⟩)) | (go_at_call 57; first | ((with_reducible refine (HP1.out _).mono ?_); rintro ee wa ⟨rfl, hba0⟩; first | (have hba := hd.trans (hba0.mono hd.size)) | (have hba := hbb.trans (hba0.mono hbb.size))) | ((with_reducible refine (HP2.out _).mono ?_); rintro ee wb ⟨rfl, hbb0⟩; first | (have hbb := hd.trans (hbb0.mono hd.size)) | (have hbb := hba.trans (hbb0.mono hba.size)))) | (go_at_call 59; (with_reducible refine (HW.out _).mono ?_); rintro ee wc ⟨rfl, hbc0⟩; first | (have hbc := hbb.trans (hbc0.mono hbb.size)) | (have hbc := hba.trans (hbc0.mono hba.size)))))
        all_goals go_wp2
        all_goals exact bodyPost_ret (v := .tuple #[.int .i64 v, .int .i64 0]) (by simp [results, Tryd.results29, go_sem, hv0]) rfl ⟨rfl, hB2.trans (hbc.mono hB2.size)⟩
    · have hv0 := Hx.out.1 hn hm
      have h1 : decide (n < 0) = true := decide_eq_true hn
      have h2 : decide (m < 0) = false := decide_eq_false hm
      go_wp2
      all_goals exact bodyPost_ret (v := .tuple #[.int .i64 v, .int .i64 0]) (by simp [results, Tryd.results29, go_sem, hv0]) rfl ⟨rfl, hB2⟩
    · have hv0 := Hx.out.2.1 hn hm
      have h1 : decide (n < 0) = false := decide_eq_false hn
      have h2 : decide (m < 0) = true := decide_eq_true hm
      go_wp2
      all_goals exact bodyPost_ret (v := .tuple #[.int .i64 v, .int .i64 0]) (by simp [results, Tryd.results29, go_sem, hv0]) rfl ⟨rfl, hB2⟩
    · have hv0 := Hx.out.2.2.1 hn hm
      have bn := Hf.out
      have bm := Hg.out
      unfold wdF isF at bn bm
      dsimp only at bn bm
      obtain ⟨p, hp⟩ : ∃ p, n.natAbs * b = p := ⟨_, rfl⟩
      obtain ⟨q, hq⟩ : ∃ q, m.natAbs * a = q := ⟨_, rfl⟩
      have hp2 : p ≤ 900000000000000000 := by rw [← hp]; exact Nat.le_trans (Nat.mul_le_mul (show n.natAbs ≤ 30000000000 by omega) (show b ≤ 30000000 by omega)) (by decide)
      have hq2 : q ≤ 900000000000000000 := by rw [← hq]; exact Nat.le_trans (Nat.mul_le_mul (show m.natAbs ≤ 30000000000 by omega) (show a ≤ 30000000 by omega)) (by decide)
      have HSa := Lib.hid (fun W => size_any (a : Int) W (by omega))
      have HSb := Lib.hid (fun W => size_any (b : Int) W (by omega))
      have HSn := Lib.hid (fun W => size_any n W (by omega))
      have HSm := Lib.hid (fun W => size_any m W (by omega))
      rw [show (((a : Int).natAbs : Nat) : Int) = (a : Int) by omega] at HSa
      rw [show (((b : Int).natAbs : Nat) : Int) = (b : Int) by omega] at HSb
      have HP1 := Lib.hid (fun W => product_small n.natAbs b W (by omega) (by omega) (by omega))
      have HP2 := Lib.hid (fun W => product_small m.natAbs a W (by omega) (by omega) (by omega))
      rw [hp] at HP1 hv0
      rw [hq] at HP2 hv0
      have HW := Lib.hid (fun W => wcmp_small p q W (by omega) (by omega))
      obtain ⟨u, hu⟩ : ∃ u : Int, (if p < q then -1 else if q < p then 1 else 0) = u := ⟨_, rfl⟩
      have hub : -1 ≤ u ∧ u ≤ 1 := by rw [← hu]; (repeat' split) <;> omega
      rw [hu] at HW hv0
      have h1 : decide (n < 0) = false := decide_eq_false hn
      have h2 : decide (m < 0) = false := decide_eq_false hm
      have iu : IntKind.i64.wrap (-u) = -u := IntWalk.i64_in _ (by omega)
      have l0 : w.heap.size < W2.heap.size := by have := hb2.size; omega
      have l1 : w.heap.size + 1 < W2.heap.size := by have := hb2.size; omega
      clear hu hp hq bn bm HR1 HR2 HL Hs Hx hp2 hq2 hub
      have HS := Lib.hid (fun (wx : World) (hb : Below W2.heap.size W2 wx) => (show wx.cell? ⟨w.heap.size, 0, none⟩ = some (.int .i64 n) ∧ wx.cell? ⟨w.heap.size, 1, none⟩ = some (.int .i64 a) ∧ wx.cell? ⟨w.heap.size + 1, 0, none⟩ = some (.int .i64 m) ∧ wx.cell? ⟨w.heap.size + 1, 1, none⟩ = some (.int .i64 b) from ⟨keepB hb l0 c0, keepB hb l0 c1, keepB hb l1 c2, keepB hb l1 c3⟩))
      have hd : Below W2.heap.size W2 W2.drew := (Below.refl _ _).drew
      rcases Classical.em (n = m) with rfl | hnm
      · have hab : ¬ a = b := fun h => hs ⟨rfl, h⟩
        clear hs
        go_upto_region 9 with fail
        all_goals go_region_held3 (fun w' => w'.cell? ⟨w.heap.size, 0, none⟩ = some (.int .i64 n) ∧ w'.cell? ⟨w.heap.size, 1, none⟩ = some (.int .i64 a) ∧ w'.cell? ⟨w.heap.size + 1, 0, none⟩ = some (.int .i64 n) ∧ w'.cell? ⟨w.heap.size + 1, 1, none⟩ = some (.int .i64 b)) ((first | exact ⟨c0, c1, c2, c3⟩ | exact HS.out _ hbc | exact HS.out _ hbb | exact HS.out _ hba))
          ((first | (go_at_call 58; first | ((with_reducible refine (HSn.out _).mono ?_); rintro ee we ⟨rfl, rfl⟩) | ((with_reducible refine (HSb.out _).mono ?_); rintro ee we ⟨rfl, rfl⟩) | ((with_reducible refine (HSm.out _).mono ?_); rintro ee we ⟨rfl, rfl⟩) | ((with_reducible refine (HSa.out _).mono ?_); rintro ee we ⟨rfl, rfl⟩)) | (go_at_call 57; first | ((with_reducible refine (HP1.out _).mono ?_); rintro ee wa ⟨rfl, hba0⟩; first | (have hba := hd.trans (hba0.mono hd.size)) | (have hba := hbb.trans (hba0.mono hbb.size))) | ((with_reducible refine (HP2.out _).mono ?_); rintro ee wb ⟨rfl, hbb0⟩; first | (have hbb := hd.trans (hbb0.mono hd.size)) | (have hbb := hba.trans (hbb0.mono hba.size)))) | (go_at_call 59; (with_reducible refine (HW.out _).mono ?_); rintro ee wc ⟨rfl, hbc0⟩; first | (have hbc := hbb.trans (hbc0.mono hbb.size)) | (have hbc := hba.trans (hbc0.mono hba.size)))))
        all_goals go_wp2
        all_goals exact bodyPost_ret (v := .tuple #[.int .i64 v, .int .i64 0]) (by simp [results, Tryd.results29, go_sem, hv0]) rfl ⟨rfl, hB2.trans (hbc.mono hB2.size)⟩
      · go_upto_region 9 with fail
        all_goals go_region_held3 (fun w' => w'.cell? ⟨w.heap.size, 0, none⟩ = some (.int .i64 n) ∧ w'.cell? ⟨w.heap.size, 1, none⟩ = some (.int .i64 a) ∧ w'.cell? ⟨w.heap.size + 1, 0, none⟩ = some (.int .i64 m) ∧ w'.cell? ⟨w.heap.size + 1, 1, none⟩ = some (.int .i64 b)) ((first | exact ⟨c0, c1, c2, c3⟩ | exact HS.out _ hbc | exact HS.out _ hbb | exact HS.out _ hba))
          ((first | (go_at_call 58; first | ((with_reducible refine (HSn.out _).mono ?_); rintro ee we ⟨rfl, rfl⟩) | ((with_reducible refine (HSb.out _).mono ?_); rintro ee we ⟨rfl, rfl⟩) | ((with_reducible refine (HSm.out _).mono ?_); rintro ee we ⟨rfl, rfl⟩) | ((with_reducible refine (HSa.out _).mono ?_); rintro ee we ⟨rfl, rfl⟩)) | (go_at_call 57; first | ((with_reducible refine (HP1.out _).mono ?_); rintro ee wa ⟨rfl, hba0⟩; first | (have hba := hd.trans (hba0.mono hd.size)) | (have hba := hbb.trans (hba0.mono hbb.size))) | ((with_reducible refine (HP2.out _).mono ?_); rintro ee wb ⟨rfl, hbb0⟩; first | (have hbb := hd.trans (hbb0.mono hd.size)) | (have hbb := hba.trans (hbb0.mono hba.size)))) | (go_at_call 59; (with_reducible refine (HW.out _).mono ?_); rintro ee wc ⟨rfl, hbc0⟩; first | (have hbc := hbb.trans (hbc0.mono hbb.size)) | (have hbc := hba.trans (hbc0.mono hba.size)))))
        all_goals go_wp2
        all_goals exact bodyPost_ret (v := .tuple #[.int .i64 v, .int .i64 0]) (by simp [results, Tryd.results29, go_sem, hv0]) rfl ⟨rfl, hB2.trans (hbc.mono hB2.size)⟩

/-! ### The walk of frac.Sum for fractions that are not too great, and Right, Add, Cmp by pairs. -/
theorem wd_form {f : Pt} (h : wdF f) : ∃ (n : Int) (a : Nat), f = (n, (a : Int)) := ⟨f.1, f.2.toNat, by have := h.1.1; exact Prod.ext rfl (by show f.2 = _; omega)⟩
theorem sm_form {f : Pt} (h : smF f) : ∃ (n : Int) (a : Nat), f = (n, (a : Int)) := wd_form (wd_of h)

theorem right_wd (f : Pt) (hf : wdF f) (w : World) : Calls Tryd.prog 34 #[fV f] w fun e w' => e = .returned (.bool true) ∧ Below w.heap.size w w' := by
  obtain ⟨n, a, rfl⟩ := wd_form hf
  exact right_low n a hf w
theorem right_sm (f : Pt) (hf : smF f) (w : World) : Calls Tryd.prog 34 #[fV f] w fun e w' => e = .returned (.bool true) ∧ Below w.heap.size w w' := right_wd f (wd_of hf) w

theorem add_wd (f g : Pt) (hf : wdF f) (hg : wdF g) (w : World) : Calls Tryd.prog 50 #[fV f, fV g, .bool (decide (g.1 < 0))] w fun e w' => e = .returned (.tuple #[fV (addF f g), .int .i64 0]) ∧ Below w.heap.size w w' := by
  obtain ⟨n, a, rfl⟩ := wd_form hf
  obtain ⟨m, b, rfl⟩ := wd_form hg
  exact add_low n m a b hf hg w
theorem add_sm (f g : Pt) (hf : smF f) (hg : smF g) (w : World) : Calls Tryd.prog 50 #[fV f, fV g, .bool (decide (g.1 < 0))] w fun e w' => e = .returned (.tuple #[fV (addF f g), .int .i64 0]) ∧ Below w.heap.size w w' := add_wd f g (wd_of hf) (wd_of hg) w

theorem fadd_wd (f g : Pt) (hf : wdF f) (hg : wdF g) (w : World) : Calls Tryd.prog 25 #[fV f, fV g] w fun e w' => e = .returned (.tuple #[fV (addF f g), .int .i64 0]) ∧ Below w.heap.size w w' := by
  obtain ⟨n, a, rfl⟩ := wd_form hf
  obtain ⟨m, b, rfl⟩ := wd_form hg
  exact fadd_low n m a b hf hg w
theorem fadd_sm (f g : Pt) (hf : smF f) (hg : smF g) (w : World) : Calls Tryd.prog 25 #[fV f, fV g] w fun e w' => e = .returned (.tuple #[fV (addF f g), .int .i64 0]) ∧ Below w.heap.size w w' := fadd_wd f g (wd_of hf) (wd_of hg) w

theorem fcmp_wd (f g : Pt) (hf : wdF f) (hg : wdF g) (w : World) : Calls Tryd.prog 29 #[fV f, fV g] w fun e w' => e = .returned (.tuple #[.int .i64 (cmpF f g), .int .i64 0]) ∧ Below w.heap.size w w' := by
  obtain ⟨n, a, rfl⟩ := wd_form hf
  obtain ⟨m, b, rfl⟩ := wd_form hg
  exact fcmp_low n m a b hf hg w
theorem fcmp_sm (f g : Pt) (hf : smF f) (hg : smF g) (w : World) : Calls Tryd.prog 29 #[fV f, fV g] w fun e w' => e = .returned (.tuple #[.int .i64 (cmpF f g), .int .i64 0]) ∧ Below w.heap.size w w' := fcmp_wd f g (wd_of hf) (wd_of hg) w

/-- The sum of the first fractions of a list. -/
def sumK (l : List Pt) (k : Nat) : Pt := (l.take k).foldl addF (0, 1)
theorem sumK_succ (l : List Pt) (k : Nat) (h : k < l.length) : sumK l (k + 1) = addF (sumK l k) l[k] := by
  unfold sumK; rw [List.take_succ_eq_append_getElem h, List.foldl_append]; rfl

set_option maxHeartbeats 2000000 in
theorem sum_sm (l : List Pt) (A : Option Addr) (c : Nat) (w : World) (hl : Rd w w.heap.size 2 A l.length (pC l)) (hn : l.length ≤ 1000) (h1 : ∀ f ∈ l, smF f) (h2 : ∀ k, k ≤ l.length → smF (sumK l k)) :
    Calls Tryd.prog 30 #[.slice A l.length c] w fun e w' => e = .returned (.tuple #[fV (sumK l l.length), .int .i64 0]) ∧ Below w.heap.size w w' := by
  have Hl := Lib.hid hl
  have H1 := Lib.hid h1
  have H2 := Lib.hid h2
  clear hl h1 h2
  go_enter Tryd.func30, Tryd.ntmps30
  go_wp2
  obtain ⟨W0, hW0⟩ : ∃ W0, w.alloc (.cells #[.int .i64 0, .int .i64 0] 23) = W0 := ⟨_, rfl⟩
  have hB0 : Below w.heap.size w W0 := by rw [← hW0]; exact (by repeat (first | exact Below.refl _ _ | assumption | refine Below.drew ?_ | refine below_drewN ?_ _ | refine Below.alloc ?_ (by first | omega | (simp; done) | (simp; omega)) _ | refine Below.setCell ?_ (by first | omega | (simp; done) | (simp; omega)) _))
  have k0 : W0.heap[w.heap.size]? = some (.cells #[.int .i64 0, .int .i64 0] 23) := by rw [← hW0]; exact blk_new _ rfl
  have s0 : W0.heap.size = w.heap.size + 1 := by rw [← hW0]; simp
  rw [hW0]
  clear hW0
  go_loopw [13] (fun i wr => ∃ k : Nat, k ≤ l.length ∧ i = .int .i64 (k : Int) ∧ Below W0.heap.size W0 wr) (fun i _ => l.length - (intOf i).toNat)
  case atStart => exact ⟨0, by omega, rfl, Below.refl _ _⟩
  case round =>
    obtain ⟨k, hk, rfl, hbel⟩ := hrel
    have hsr := hbel.size
    by_cases hlt : k < l.length
    · obtain ⟨b, off, rfl, hbw, hc1, hc2⟩ := rd_p Hl.out k hlt
      have hbo := hB0.trans (hbel.mono (by omega))
      have hd1 := (bcell hbo b (off + k * 2) hbw).trans hc1
      have hd2 := (bcell hbo b (off + k * 2 + 1) hbw).trans hc2
      have HQ := Lib.hid (fun W => right_sm l[k] (H1.out _ (List.getElem_mem hlt)) W)
      clear hc1 hc2
      generalize l[k] = f at hd1 hd2 HQ
      obtain ⟨f1, f2⟩ := f
      dsimp only at hd1 hd2
      unfold fV at HQ
      dsimp only at HQ
      go_wp2_with fail
      refine (HQ.out _).mono ?_
      rintro e w1 ⟨rfl, hb1⟩
      have hb2 := (hbel.alloc hsr _).trans (hb1.mono (by simp; omega))
      go_wp2
      go_roundw
      case rel => exact ⟨k + 1, by omega, by go_num, hb2⟩
      case measure => simp [intOf]; omega
    · have t0 : decide ((k : Int) < (l.length : Int)) = false := decide_eq_false (by omega)
      have k1 := blk_below k0 hbel (by omega)
      have hB1 : Below w.heap.size w wr := hB0.trans (hbel.mono (by omega))
      have s1 : w.heap.size + 1 ≤ wr.heap.size := by omega
      clear hbel hB0 k0 t0
      obtain ⟨w1, hw1⟩ : ∃ w1 : World, w1 = wr := ⟨_, rfl⟩
      rw [← hw1] at k1 hB1 s1 ⊢
      clear hw1 hsr hk
      go_wp2_with fail
      obtain ⟨H, hH⟩ : ∃ H, w1.heap.size = H := ⟨_, rfl⟩
      rw [hH]
      have hBx : Below H w1 (w1.alloc (.cells #[.int .i64 0, .int .i64 1] 23)) := by rw [← hH]; exact (by repeat (first | exact Below.refl _ _ | assumption | refine Below.drew ?_ | refine below_drewN ?_ _ | refine Below.alloc ?_ (by first | omega | (simp; done) | (simp; omega)) _ | refine Below.setCell ?_ (by first | omega | (simp; done) | (simp; omega)) _))
      have kx : (w1.alloc (.cells #[.int .i64 0, .int .i64 1] 23)).heap[H]? = some (.cells #[.int .i64 0, .int .i64 1] 23) := blk_new _ hH.symm
      have hsH : w.heap.size + 1 ≤ H := by omega
      go_loopw [25] (fun i wr => ∃ (j : Nat) (f : Pt), j ≤ l.length ∧ i = .int .i64 (j : Int) ∧ Hid (f = sumK l j) ∧ wr.heap[H]? = some (.cells #[.int .i64 f.1, .int .i64 f.2] 23) ∧ Below H w1 wr) (fun i _ => l.length - (intOf i).toNat)
      case atStart => exact ⟨0, (0, 1), by omega, rfl, rfl, kx, hBx⟩
      case round =>
        obtain ⟨j, ⟨x1, x2⟩, hj, rfl, hf, hk6, hbel⟩ := hrel
        dsimp only at hk6
        have hl6 := blk_lt hk6
        by_cases hlt : j < l.length
        · obtain ⟨b, off, rfl, hbw, hc1, hc2⟩ := rd_p Hl.out j hlt
          have hbo := hB1.trans (hbel.mono (by omega))
          have hd1 := (bcell hbo b (off + j * 2) hbw).trans hc1
          have hd2 := (bcell hbo b (off + j * 2 + 1) hbw).trans hc2
          have h3 := H2.out j hj
          rw [← show _ = _ from hf.out] at h3
          have HA := Lib.hid (fun W => add_sm (x1, x2) l[j] h3 (H1.out _ (List.getElem_mem hlt)) W)
          have Hn := Lib.hid (show sumK l (j + 1) = addF (x1, x2) l[j] by rw [sumK_succ l j hlt, ← show _ = _ from hf.out])
          clear hc1 hc2 h3 hf
          generalize l[j] = g at hd1 hd2 HA Hn
          generalize addF (x1, x2) g = r at HA Hn
          obtain ⟨g1, g2⟩ := g
          obtain ⟨r1, r2⟩ := r
          dsimp only at hd1 hd2
          unfold fV at HA
          dsimp only at HA
          go_upto_region 11 with fail
          obtain ⟨W2, hW2⟩ : ∃ W2, wr.alloc (.cells #[.int .i64 g1, .int .i64 g2] 23) = W2 := ⟨_, rfl⟩
          obtain ⟨G, hG⟩ : ∃ G, wr.heap.size = G := ⟨_, rfl⟩
          have n8 : W2.heap[G]? = some (.cells #[.int .i64 g1, .int .i64 g2] 23) := by rw [← hW2]; exact blk_new _ hG.symm
          have n6 : W2.heap[H]? = some (.cells #[.int .i64 x1, .int .i64 x2] 23) := by rw [← hW2]; exact blk_alloc hk6 _
          have hBw : Below H w1 W2 := by rw [← hW2]; exact hbel.alloc (by omega) _
          have sG : W2.heap.size = G + 1 := by rw [← hW2]; simp; omega
          rw [hW2, hG]
          clear hW2
          have q0 := blk_cell n6 0
          have q1 := blk_cell n6 1
          have q2 := blk_cell n8 0
          have q3 := blk_cell n8 1
          go_wp2_with fail
          refine (HA.out _).mono ?_
          rintro ee wa ⟨rfl, hba⟩
          have hba2 := hba.alloc hba.size (.cells #[.int .i64 r1, .int .i64 r2] 23)
          have m6 := blk_below n6 hba2 (by omega)
          have m9 : (wa.alloc (.cells #[.int .i64 r1, .int .i64 r2] 23)).heap[wa.heap.size]? = some (.cells #[.int .i64 r1, .int .i64 r2] 23) := blk_new _ rfl
          go_upto_region 12 with fail
          generalize wa.alloc (.cells #[.int .i64 r1, .int .i64 r2] 23) = W3 at hba2 m6 m9 ⊢
          have hf0 := blk_free m6 0
          have hf1 := blk_free m6 1
          have hc0 := blk_cell m6 0
          have hc1 := blk_cell m6 1
          have hc2 := blk_cell m9 0
          have hc3 := blk_cell m9 1
          have hBz := hBw.trans (hba2.mono (by omega))
          go_wp2
          go_roundw
          case rel => exact ⟨j + 1, (r1, r2), by omega, by go_num, Hn.out.symm, blk_set (blk_set m6 0 _) 1 _, (hBz.setCell (Nat.le_refl _) _).setCell (Nat.le_refl _) _⟩
          case measure => simp [intOf]; omega
        · have t0 : decide ((j : Int) < (l.length : Int)) = false := decide_eq_false (by omega)
          obtain rfl : j = l.length := by omega
          have hc0 := blk_cell hk6 0
          have hc1 := blk_cell hk6 1
          have k2 := blk_below k1 hbel (by omega)
          have hf0 := blk_free k2 0
          have hf1 := blk_free k2 1
          have hc2 := blk_cell k2 0
          have hc3 := blk_cell k2 1
          have hB2 := hB1.trans (hbel.mono (by omega))
          go_wp2
          exact bodyPost_ret (v := .tuple #[.agg #[.int .i64 x1, .int .i64 x2], .int .i64 0]) (by simp [results, Tryd.results30, go_sem, hc2, hc3]) rfl ⟨(by rw [← show _ = sumK l l.length from hf.out]; rfl), (hB2.setCell (Nat.le_refl _) _).setCell (Nat.le_refl _) _⟩

/-! ### Plain laws of matchpoints: sums, turned results, order. -/
theorem sm_fr (k : Int) (h : -10000000 ≤ k ∧ k ≤ 10000000) : smF (fr k 10000) := by
  have h1 := fr_isF k 10000 (by decide)
  have h2 := fr_num k 10000 (by decide)
  have h3 := fr_den k 10000 (by decide)
  exact ⟨h1, by omega, by omega⟩

theorem add_fr (k l : Int) : addF (fr k 10000) (fr l 10000) = fr (k + l) 10000 := by
  have e1 := fr_val k 10000 (by decide)
  have e2 := fr_val l 10000 (by decide)
  have d1 := (fr_den k 10000 (by decide)).1
  have d2 := (fr_den l 10000 (by decide)).1
  unfold addF
  generalize fr k 10000 = f at *
  generalize fr l 10000 = g at *
  refine fr_cross _ _ _ _ ?_ (by decide) ?_
  · have := Int.mul_le_mul d1 d2 (by omega) (by omega); omega
  · rw [Int.add_mul, Int.mul_right_comm f.1, e1, Int.mul_right_comm g.1, e2, Int.add_mul, Int.mul_assoc k, Int.mul_assoc l, Int.mul_comm g.2 f.2]

theorem cmp_fr (k l : Int) : cmpF (fr k 10000) (fr l 10000) = cmpI k l := by
  have e1 := fr_val k 10000 (by decide)
  have e2 := fr_val l 10000 (by decide)
  have d1 := (fr_den k 10000 (by decide)).1
  have d2 := (fr_den l 10000 (by decide)).1
  unfold cmpF cmpI
  generalize fr k 10000 = f at *
  generalize fr l 10000 = g at *
  have hp : 1 ≤ f.2 * g.2 := by have := Int.mul_le_mul d1 d2 (by omega) (by omega); omega
  have h : (f.1 * g.2 - g.1 * f.2) * 10000 = (k - l) * (f.2 * g.2) := by
    rw [Int.sub_mul, Int.mul_right_comm f.1, e1, Int.mul_right_comm g.1, e2, Int.sub_mul, Int.mul_assoc k, Int.mul_assoc l, Int.mul_comm g.2 f.2]
  generalize f.1 * g.2 = x at *
  generalize g.1 * f.2 = y at *
  generalize f.2 * g.2 = z at *
  have hlt : x < y ↔ k < l := by
    constructor
    · intro hxy
      have : (k - l) * z < 0 := by omega
      by_cases hk : k < l
      · exact hk
      · have := Int.mul_nonneg (show 0 ≤ k - l by omega) (show 0 ≤ z by omega); omega
    · intro hkl
      have := Int.mul_pos (show 0 < l - k by omega) (show 0 < z by omega)
      have e : (l - k) * z = -((k - l) * z) := by rw [← Int.neg_mul]; congr 1; omega
      omega
  have hgt : y < x ↔ l < k := by
    constructor
    · intro hxy
      have : 0 < (k - l) * z := by omega
      by_cases hk : l < k
      · exact hk
      · have := Int.mul_nonneg (show 0 ≤ l - k by omega) (show 0 ≤ z by omega)
        have e : (l - k) * z = -((k - l) * z) := by rw [← Int.neg_mul]; congr 1; omega
        omega
    · intro hkl
      have := Int.mul_pos (show 0 < k - l by omega) (show 0 < z by omega)
      omega
  simp only [hlt, hgt]

theorem whole_fr (n : Int) : fr (n * 10000) 10000 = (n, 1) := by
  have h := fr_scale 10000 n 1 (by decide) (by decide)
  rw [show (10000 : Int) * 1 = 10000 from rfl] at h
  rw [Int.mul_comm n, h]
  unfold fr
  simp

/-- What a result gets from each one of a list, from the other side. -/
def back (r : List Pt) (L : List (List Pt)) : Int := (L.map fun o => gAB o r).sum
def dbl (L M : List (List Pt)) : Int := (L.map fun r => gAll r M).sum
theorem back_two (r : List Pt) (M : List (List Pt)) (hr : rightM r = true) (hM : ∀ o ∈ M, rightM o = true) : gAll r M + back r M = 20000 * M.length := by
  induction M with
  | nil => rfl
  | cons o M ih =>
    have h1 := ih fun x hx => hM x (List.mem_cons_of_mem _ hx)
    have h2 := gAB_right r o hr (hM o List.mem_cons_self)
    have h3 : back r (o :: M) = gAB o r + back r M := by unfold back; rw [List.map_cons, List.sum_cons]
    rw [gAll_cons, h3, List.length_cons]
    push_cast
    omega
theorem dbl_cons (r : List Pt) (L M : List (List Pt)) : dbl (r :: L) M = gAll r M + dbl L M := by unfold dbl; rw [List.map_cons, List.sum_cons]
theorem dbl_cons_r (r : List Pt) (L M : List (List Pt)) : dbl M (r :: L) = back r M + dbl M L := by
  induction M with
  | nil => rfl
  | cons o M ih =>
    have h3 : back r (o :: M) = gAB o r + back r M := by unfold back; rw [List.map_cons, List.sum_cons]
    rw [dbl_cons, dbl_cons, ih, gAll_cons, h3]; omega
theorem dbl_nil_r (M : List (List Pt)) : dbl M [] = 0 := by
  induction M with
  | nil => rfl
  | cons o M ih => rw [dbl_cons, ih]; rfl
theorem dbl_two (L M : List (List Pt)) (hL : ∀ o ∈ L, rightM o = true) (hM : ∀ o ∈ M, rightM o = true) : dbl L M + dbl M L = 20000 * (L.length * M.length) := by
  induction L with
  | nil => rw [dbl_nil_r]; simp [dbl]
  | cons r L ih =>
    have h1 := ih fun x hx => hL x (List.mem_cons_of_mem _ hx)
    have h2 := back_two r M (hL r List.mem_cons_self) hM
    rw [dbl_cons, dbl_cons_r, List.length_cons]
    have e : ((L.length + 1 : Nat) : Int) * (M.length : Int) = (L.length : Int) * (M.length : Int) + (M.length : Int) := by push_cast; rw [Int.add_mul, Int.one_mul]
    rw [e]
    omega
theorem dbl_self (L : List (List Pt)) (hL : ∀ o ∈ L, rightM o = true) : dbl L L = 10000 * ((L.length : Int) * L.length) := by
  have := dbl_two L L hL hL; omega

/-- The sums of the matchpoints of the first results. -/
def dblTo (L M : List (List Pt)) (k : Nat) : Int := dbl (L.take k) M
theorem dblTo_succ (L M : List (List Pt)) (k : Nat) (h : k < L.length) : dblTo L M (k + 1) = dblTo L M k + gAll L[k] M := by
  unfold dblTo dbl; rw [List.take_succ_eq_append_getElem h, List.map_append, List.sum_append]; simp
theorem ptsL_get (L : List (List Pt)) (k : Nat) (h : k < L.length) : (ptsL L)[k]'(by rw [ptsL_len]; exact h) = fr (gAll L[k] L - 10000) 10000 := by
  unfold ptsL ptsM; rw [List.getElem_map]
theorem sumK_pts (L : List (List Pt)) (k : Nat) (h : k ≤ L.length) : sumK (ptsL L) k = fr (dblTo L L k - 10000 * k) 10000 := by
  induction k with
  | zero => unfold sumK dblTo dbl; simp; exact (whole_fr 0).symm
  | succ k ih =>
    rw [sumK_succ _ _ (by rw [ptsL_len]; omega), ih (by omega), ptsL_get L k (by omega), add_fr, dblTo_succ L L k (by omega)]
    congr 1
    push_cast
    omega
theorem gAll_rng (L : List (List Pt)) (hL : ∀ o ∈ L, rightM o = true) (k : Nat) (h : k < L.length) : 10000 ≤ gAll L[k] L ∧ gAll L[k] L ≤ 20000 * L.length - 10000 := by
  have h1 := gAll_mem L[k] L hL (List.getElem_mem h)
  have h2 := back_two L[k] L (hL _ (List.getElem_mem h)) hL
  have h3 : 10000 ≤ back L[k] L := by
    have hm : ∀ (r : List Pt) (M : List (List Pt)), rightM r = true → (∀ o ∈ M, rightM o = true) → r ∈ M → 10000 ≤ back r M := by
      intro r M hr hM hin
      induction M with
      | nil => simp at hin
      | cons o M ih =>
        have e3 : back r (o :: M) = gAB o r + back r M := by unfold back; rw [List.map_cons, List.sum_cons]
        have hb : ∀ M' : List (List Pt), (∀ o ∈ M', rightM o = true) → 0 ≤ back r M' := by
          intro M' hM'
          induction M' with
          | nil => exact Int.le_refl _
          | cons x M' ih2 =>
            have e4 : back r (x :: M') = gAB x r + back r M' := by unfold back; rw [List.map_cons, List.sum_cons]
            have := (gAB_range x r (hM' x List.mem_cons_self) hr).1
            have := ih2 fun y hy => hM' y (List.mem_cons_of_mem _ hy)
            omega
        have h5 := hb M fun y hy => hM y (List.mem_cons_of_mem _ hy)
        have h6 := (gAB_range o r (hM o List.mem_cons_self) hr).1
        rcases List.mem_cons.1 hin with rfl | hin
        · have := gAB_self r hr; omega
        · have := ih (fun y hy => hM y (List.mem_cons_of_mem _ hy)) hin; omega
    exact hm _ L (hL _ (List.getElem_mem h)) hL (List.getElem_mem h)
  omega
theorem dblTo_mono (L : List (List Pt)) (hL : ∀ o ∈ L, rightM o = true) (k j : Nat) (h : k + j ≤ L.length) : dblTo L L k + 10000 * (j : Int) ≤ dblTo L L (k + j) := by
  induction j with
  | zero => simp
  | succ j ih =>
    have h1 := ih (by omega)
    have h2 := gAll_rng L hL (k + j) (by omega)
    rw [← Nat.add_assoc, dblTo_succ L L (k + j) (by omega)]
    push_cast
    omega
theorem dblTo_rng (L : List (List Pt)) (hL : ∀ o ∈ L, rightM o = true) (hn : L.length ≤ 24) (k : Nat) (h : k ≤ L.length) : 0 ≤ dblTo L L k - 10000 * (k : Int) ∧ dblTo L L k - 10000 * (k : Int) ≤ 6000000 := by
  have h1 := dblTo_mono L hL 0 k (by omega)
  have h2 := dblTo_mono L hL k (L.length - k) (by omega)
  have h3 : dblTo L L L.length = dbl L L := by unfold dblTo; rw [List.take_length]
  have h4 : (L.length : Int) * L.length ≤ 24 * L.length := Int.mul_le_mul_of_nonneg_right (by omega) (by omega)
  have h5 : dblTo L L 0 = 0 := rfl
  have h6 := Int.mul_le_mul (show (L.length : Int) ≤ 24 by omega) (show (L.length : Int) - 1 ≤ 23 by omega)
  rw [show k + (L.length - k) = L.length by omega, h3, dbl_self L hL] at h2
  rw [Nat.zero_add, h5] at h1
  have h7 : (L.length : Int) * L.length - L.length ≤ 24 * 23 := by
    by_cases h0 : L.length = 0
    · rw [h0]; decide
    · have := h6 (by omega) (by omega)
      rw [Int.mul_sub] at this
      omega
  generalize (L.length : Int) * (L.length : Int) = z at *
  omega
theorem pts_sm (L : List (List Pt)) (hL : ∀ o ∈ L, rightM o = true) (hn : L.length ≤ 24) : ∀ f ∈ ptsL L, smF f := by
  intro f hf
  obtain ⟨k, hk, rfl⟩ := List.getElem_of_mem hf
  rw [ptsL_len] at hk
  rw [ptsL_get L k hk]
  have := gAll_rng L hL k hk
  exact sm_fr _ (by omega)
theorem sumK_sm (L : List (List Pt)) (hL : ∀ o ∈ L, rightM o = true) (hn : L.length ≤ 24) (k : Nat) (h : k ≤ (ptsL L).length) : smF (sumK (ptsL L) k) := by
  rw [ptsL_len] at h
  rw [sumK_pts L k h]
  have := dblTo_rng L hL hn k h
  exact sm_fr _ (by omega)
theorem sumK_total (L : List (List Pt)) (hL : ∀ o ∈ L, rightM o = true) : sumK (ptsL L) (ptsL L).length = ((L.length : Int) * ((L.length : Int) - 1), 1) := by
  rw [ptsL_len, sumK_pts L _ (Nat.le_refl _)]
  have h1 : dblTo L L L.length = dbl L L := by unfold dblTo; rw [List.take_length]
  rw [h1, dbl_self L hL, ← whole_fr]
  congr 1
  rw [Int.mul_sub]
  generalize (L.length : Int) * (L.length : Int) = z
  omega

/-! ### The other side's results. -/
def turnL (L : List (List Pt)) : List (List Pt) := L.map negP
theorem cmpG_neg (p q : Int) : cmpG (-p) (-q) = 2 - cmpG p q := by unfold cmpG; (repeat' split) <;> omega
theorem sumF_map (l : List Pt) (g : Pt → Pt) (f : Pt → Int) : sumF (l.map g) f = sumF l fun p => f (g p) := by unfold sumF; rw [List.map_map]; rfl
theorem gB_neg (p : Int) (b : List Pt) : gB (-p) (negP b) = 2 * sumW b - gB p b := by
  unfold gB negP sumW
  rw [sumF_map]
  have h := sumF_add b (fun q => q.2 * cmpG p q.1) (fun q => q.2 * cmpG (-p) (-q.1))
  have h2 := sumF_congr b (fun q => q.2 * cmpG p q.1 + q.2 * cmpG (-p) (-q.1)) (fun q => 2 * q.2) (fun q _ => by rw [← Int.mul_add, cmpG_neg, Int.mul_comm 2]; congr 1; omega)
  rw [sumF_mul] at h2
  have h3 := h.symm.trans h2
  show sumF b (fun q => q.2 * cmpG (-p) (-q.1)) = 2 * sumF b (fun q => q.2) - sumF b (fun q => q.2 * cmpG p q.1)
  have h4 : sumF b (fun q => q.2) = sumF b Prod.snd := rfl
  omega
theorem gAB_neg (a b : List Pt) (ha : rightM a = true) (hb : rightM b = true) : gAB (negP a) (negP b) = 20000 - gAB a b := by
  have wa := ((rightM_iff a).1 ha).2.2.2
  have wb := ((rightM_iff b).1 hb).2.2.2
  unfold gAB
  show sumF (a.map fun p => (-p.1, p.2)) _ = _
  rw [sumF_map]
  have h := sumF_add a (fun p => p.2 * gB p.1 b) (fun p => p.2 * gB (-p.1) (negP b))
  have h2 := sumF_congr a (fun p => p.2 * gB p.1 b + p.2 * gB (-p.1) (negP b)) (fun p => p.2 * 200) (fun p _ => by rw [← Int.mul_add, gB_neg, wb]; congr 1; omega)
  rw [sumF_mul_r] at h2
  unfold sumW at wa
  have wa' : sumF a Prod.snd = 100 := wa
  have h3 := h.symm.trans h2
  show sumF a (fun p => p.2 * gB (-p.1) (negP b)) = 20000 - sumF a (fun p => p.2 * gB p.1 b)
  omega
theorem sumW_neg (a : List Pt) : sumW (negP a) = sumW a := by unfold sumW negP; rw [sumF_map]
theorem negP_right (a : List Pt) (ha : rightM a = true) : rightM (negP a) = true := by
  obtain ⟨h1, h2, h3, h4⟩ := (rightM_iff a).1 ha
  refine (rightM_iff _).2 ⟨by unfold negP; rw [List.length_map]; exact h1, by unfold negP; rw [List.length_map]; exact h2, fun p hp => ?_, by rw [sumW_neg]; exact h4⟩
  unfold negP at hp
  obtain ⟨q, hq, rfl⟩ := List.mem_map.1 hp
  have := (okPt_iff q).1 (h3 q hq)
  exact (okPt_iff _).2 (by dsimp only; omega)
theorem turnL_right (L : List (List Pt)) (hL : ∀ o ∈ L, rightM o = true) : ∀ o ∈ turnL L, rightM o = true := by
  intro o ho
  unfold turnL at ho
  obtain ⟨q, hq, rfl⟩ := List.mem_map.1 ho
  exact negP_right q (hL q hq)
theorem turnL_len (L : List (List Pt)) : (turnL L).length = L.length := by unfold turnL; rw [List.length_map]
theorem turnL_get (L : List (List Pt)) (k : Nat) (h : k < L.length) : (turnL L)[k]'(by rw [turnL_len]; exact h) = negP L[k] := by unfold turnL; rw [List.getElem_map]
theorem gAll_neg (r : List Pt) (L : List (List Pt)) (hr : rightM r = true) (hL : ∀ o ∈ L, rightM o = true) : gAll (negP r) (turnL L) = 20000 * L.length - gAll r L := by
  induction L with
  | nil => rfl
  | cons o L ih =>
    have h1 := ih fun y hy => hL y (List.mem_cons_of_mem _ hy)
    have h2 := gAB_neg r o hr (hL o List.mem_cons_self)
    have h3 : turnL (o :: L) = negP o :: turnL L := rfl
    rw [h3, gAll_cons, gAll_cons, h1, h2, List.length_cons]
    push_cast
    omega
theorem both_top (L : List (List Pt)) (hL : ∀ o ∈ L, rightM o = true) (k : Nat) (h : k < L.length) :
    addF ((ptsL L)[k]'(by rw [ptsL_len]; exact h)) ((ptsL (turnL L))[k]'(by rw [ptsL_len, turnL_len]; exact h)) = (2 * ((L.length : Int) - 1), 1) := by
  rw [ptsL_get L k h, ptsL_get (turnL L) k (by rw [turnL_len]; exact h), turnL_get L k h, gAll_neg _ _ (hL _ (List.getElem_mem h)) hL, add_fr, ← whole_fr]
  congr 1
  omega
theorem cmp_low (L : List (List Pt)) (hL : ∀ o ∈ L, rightM o = true) (k : Nat) (h : k < L.length) : 0 ≤ cmpF ((ptsL L)[k]'(by rw [ptsL_len]; exact h)) (0, 1) := by
  have := gAll_rng L hL k h
  rw [ptsL_get L k h, ← whole_fr 0, cmp_fr]
  unfold cmpI
  (repeat' split) <;> omega
theorem cmp_high (L : List (List Pt)) (hL : ∀ o ∈ L, rightM o = true) (k : Nat) (h : k < L.length) : cmpF ((ptsL L)[k]'(by rw [ptsL_len]; exact h)) (2 * ((L.length : Int) - 1), 1) ≤ 0 := by
  have := gAll_rng L hL k h
  rw [ptsL_get L k h, ← whole_fr (2 * ((L.length : Int) - 1)), cmp_fr]
  unfold cmpI
  (repeat' split) <;> omega

theorem sm_whole (n : Int) (h : -1000 ≤ n ∧ n ≤ 1000) : smF (n, 1) := by rw [← whole_fr]; exact sm_fr _ (by omega)

/-! ### Another order. -/
theorem gAll_turn (r : List Pt) (L : List (List Pt)) (k : Nat) : gAll r (L.drop k ++ L.take k) = gAll r L := by
  have h := gAll_app r (L.take k) (L.drop k)
  rw [List.take_append_drop] at h
  rw [gAll_app, h]; omega
theorem turned_get (L : List (List Pt)) (k i : Nat) (hk : k < L.length) (hi : i < L.length) : (L.drop k ++ L.take k)[(i + L.length - k) % L.length]? = some L[i] := by
  by_cases h : i < k
  · have e : (i + L.length - k) % L.length = i + L.length - k := Nat.mod_eq_of_lt (by omega)
    rw [e, List.getElem?_append_right (by rw [List.length_drop]; omega), List.length_drop, List.getElem?_take_of_lt (by omega), show i + L.length - k - (L.length - k) = i by omega, List.getElem?_eq_getElem hi]
  · have e : (i + L.length - k) % L.length = i - k := by
      rw [show i + L.length - k = (i - k) + L.length by omega, Nat.add_mod_right]; exact Nat.mod_eq_of_lt (by omega)
    rw [e, List.getElem?_append_left (by rw [List.length_drop]; omega), List.getElem?_drop, show k + (i - k) = i by omega, List.getElem?_eq_getElem hi]
theorem pts_turned (L : List (List Pt)) (k i : Nat) (hk : k < L.length) (hi : i < L.length) : (ptsL (L.drop k ++ L.take k))[(i + L.length - k) % L.length]? = some ((ptsL L)[i]'(by rw [ptsL_len]; exact hi)) := by
  show ((L.drop k ++ L.take k).map fun r => ptsM r (L.drop k ++ L.take k))[_]? = _
  rw [List.getElem?_map, turned_get L k i hk hi, ptsL_get L i hi]
  show some (ptsM _ _) = _
  unfold ptsM
  rw [gAll_turn]
theorem cmpG_mono {p q : Int} (x : Int) (h : q ≤ p) : cmpG q x ≤ cmpG p x := by unfold cmpG; (repeat' split) <;> omega
theorem gB_mono {p q : Int} (b : List Pt) (hb : ∀ x ∈ b, okPt x = true) (h : q ≤ p) : gB q b ≤ gB p b := by
  induction b with
  | nil => exact Int.le_refl _
  | cons x b ih =>
    have h1 := ih fun y hy => hb y (List.mem_cons_of_mem _ hy)
    have h2 := (okPt_iff x).1 (hb x List.mem_cons_self)
    have h3 := Int.mul_le_mul_of_nonneg_left (cmpG_mono x.1 h) (show 0 ≤ x.2 by omega)
    rw [gB_cons, gB_cons]; omega
theorem one_gAll (p q w : Int) (M : List (List Pt)) (hM : ∀ o ∈ M, rightM o = true) (hw : 0 ≤ w) (h : q ≤ p) : gAll [(q, w)] M ≤ gAll [(p, w)] M := by
  induction M with
  | nil => exact Int.le_refl _
  | cons o M ih =>
    have h1 := ih fun y hy => hM y (List.mem_cons_of_mem _ hy)
    have h2 := Int.mul_le_mul_of_nonneg_left (gB_mono o ((rightM_iff o).1 (hM o List.mem_cons_self)).2.2.1 h) hw
    have e : ∀ x : Int, gAB [(x, w)] o = w * gB x o := fun x => by rw [gAB_cons]; show w * gB x o + 0 = _; omega
    rw [gAll_cons, gAll_cons, e, e]; omega
theorem cmp_one (L : List (List Pt)) (hL : ∀ o ∈ L, rightM o = true) (i j : Nat) (hi : i < L.length) (hj : j < L.length) (h1 : L[i].length = 1) (h2 : L[j].length = 1) (p q u v : Int) (e1 : L[i][0]? = some (p, u)) (e2 : L[j][0]? = some (q, v)) (h : q ≤ p) :
    0 ≤ cmpF ((ptsL L)[i]'(by rw [ptsL_len]; exact hi)) ((ptsL L)[j]'(by rw [ptsL_len]; exact hj)) := by
  rw [ptsL_get L i hi, ptsL_get L j hj, cmp_fr]
  have f : ∀ (x : List Pt) (p u : Int), x.length = 1 → rightM x = true → x[0]? = some (p, u) → x = [(p, 100)] := by
    intro x p u hx hr he
    match x, hx with
    | [y], _ =>
      obtain rfl : y = (p, u) := by simpa using he
      have := ((rightM_iff _).1 hr).2.2.2
      have e : sumW [(p, u)] = u := by show u + 0 = u; omega
      rw [e] at this
      rw [this]
  rw [f L[i] p u h1 (hL _ (List.getElem_mem hi)) e1, f L[j] q v h2 (hL _ (List.getElem_mem hj)) e2]
  have := one_gAll p q 100 L hL (by decide) h
  unfold cmpI
  (repeat' split) <;> omega

/-! ### What a result gets from the others, one by one. -/
def othK (L : List (List Pt)) (i k : Nat) (hi : i < L.length) : Int := gAllTo L[i] L k - if i < k then 10000 else 0
theorem othK_succ (L : List (List Pt)) (hL : ∀ o ∈ L, rightM o = true) (i k : Nat) (hi : i < L.length) (hk : k < L.length) : othK L i (k + 1) hi = if i = k then othK L i k hi else othK L i k hi + gAB L[i] L[k] := by
  unfold othK
  rw [gAllTo_succ _ _ _ hk]
  by_cases h : i = k
  · subst h
    have := gAB_self L[i] (hL _ (List.getElem_mem hi))
    rw [if_pos (by omega), if_pos rfl, if_neg (by omega)]; omega
  · rw [if_neg h]; (repeat' split) <;> omega
theorem othK_all (L : List (List Pt)) (i : Nat) (hi : i < L.length) : fr (othK L i L.length hi) 10000 = (ptsL L)[i]'(by rw [ptsL_len]; exact hi) := by
  rw [ptsL_get L i hi]; unfold othK; rw [gAllTo_all, if_pos hi]
theorem othK_rng (L : List (List Pt)) (hL : ∀ o ∈ L, rightM o = true) (hn : L.length ≤ 24) (i k : Nat) (hi : i < L.length) (hk : k ≤ L.length) : -10000 ≤ othK L i k hi ∧ othK L i k hi ≤ 10000000 := by
  have := gAllTo_bd L[i] L (hL _ (List.getElem_mem hi)) hL k hk
  unfold othK
  split <;> omega
theorem pair_two (a b : List Pt) (ha : rightM a = true) (hb : rightM b = true) : addF (cmpV a b) (cmpV b a) = (2, 1) := by
  unfold cmpV
  rw [ha, hb]
  show addF (fr _ _) (fr _ _) = _
  rw [add_fr, gAB_right a b ha hb]; exact whole_fr 2
theorem pair_self (a : List Pt) (ha : rightM a = true) : cmpV a a = (1, 1) := by
  unfold cmpV
  rw [ha]
  show fr _ _ = _
  rw [gAB_self a ha]; exact whole_fr 1
theorem cmpV_sm (a b : List Pt) (ha : rightM a = true) (hb : rightM b = true) : smF (cmpV a b) := by
  unfold cmpV
  rw [ha, hb]
  have := gAB_range a b ha hb
  exact sm_fr _ (by omega)
theorem cmpV_fr (a b : List Pt) (ha : rightM a = true) (hb : rightM b = true) : cmpV a b = fr (gAB a b) 10000 := by unfold cmpV; rw [ha, hb]; rfl
theorem cmpE_ok (a b : List Pt) (ha : rightM a = true) (hb : rightM b = true) : cmpE a b = 0 := by unfold cmpE; rw [ha, hb]; rfl

/-! ### Products of fractions in lowest terms. No program stands in this text. -/
/-- The product of two fractions. -/
def mulF (f g : Pt) : Pt := fr (f.1 * g.1) (f.2 * g.2)

theorem times_law (n m : Int) (a b : Nat) (ha : 1 ≤ a) (hb : 1 ≤ b) (hn : Int.gcd n a = 1) (hm : Int.gcd m b = 1) (g h u v x y : Nat) (hg : g = Nat.gcd n.natAbs b) (hh : h = Nat.gcd m.natAbs a)
    (hu : u = n.natAbs / g) (hv : v = m.natAbs / h) (hx : x = a / h) (hy : y = b / g) (sg : Bool) (hsg : sg = (decide (n < 0) != decide (m < 0))) :
    mulF (n, (a : Int)) (m, (b : Int)) = ((if sg then -((u * v : Nat) : Int) else ((u * v : Nat) : Int)), ((x * y : Nat) : Int)) ∧ 1 ≤ g ∧ 1 ≤ h ∧ 1 ≤ x ∧ 1 ≤ y := by
  have hg1 : 1 ≤ g := by rw [hg]; exact Nat.gcd_pos_of_pos_right _ hb
  have hh1 : 1 ≤ h := by rw [hh]; exact Nat.gcd_pos_of_pos_right _ ha
  obtain ⟨u', hu'⟩ : g ∣ n.natAbs := hg ▸ Nat.gcd_dvd_left _ _
  obtain ⟨y', hy'⟩ : g ∣ b := hg ▸ Nat.gcd_dvd_right _ _
  obtain ⟨v', hv'⟩ : h ∣ m.natAbs := hh ▸ Nat.gcd_dvd_left _ _
  obtain ⟨x', hx'⟩ : h ∣ a := hh ▸ Nat.gcd_dvd_right _ _
  have eu : u = u' := by rw [hu, hu']; exact Nat.mul_div_cancel_left _ hg1
  have ey : y = y' := by rw [hy, hy']; exact Nat.mul_div_cancel_left _ hg1
  have ev : v = v' := by rw [hv, hv']; exact Nat.mul_div_cancel_left _ hh1
  have ex : x = x' := by rw [hx, hx']; exact Nat.mul_div_cancel_left _ hh1
  subst eu ey ev ex
  have hx1 : 1 ≤ x := by rcases Nat.eq_zero_or_pos x with h | h; (rw [h] at hx'; omega); exact h
  have hy1 : 1 ≤ y := by rcases Nat.eq_zero_or_pos y with h | h; (rw [h] at hy'; omega); exact h
  have huy : Nat.gcd u y = 1 := by
    have h1 : Nat.gcd n.natAbs b = g * Nat.gcd u y := by rw [hu', hy', Nat.gcd_mul_left]
    rw [← hg] at h1
    have : g * Nat.gcd u y = g * 1 := by omega
    exact Nat.eq_of_mul_eq_mul_left hg1 this
  have hvx : Nat.gcd v x = 1 := by
    have h1 : Nat.gcd m.natAbs a = h * Nat.gcd v x := by rw [hv', hx', Nat.gcd_mul_left]
    rw [← hh] at h1
    have : h * Nat.gcd v x = h * 1 := by omega
    exact Nat.eq_of_mul_eq_mul_left hh1 this
  have hux : Nat.gcd u x = 1 := by
    have : Nat.gcd u x ∣ Nat.gcd n.natAbs a := Nat.dvd_gcd (Nat.dvd_trans (Nat.gcd_dvd_left _ _) ⟨g, by rw [hu', Nat.mul_comm]⟩) (Nat.dvd_trans (Nat.gcd_dvd_right _ _) ⟨h, by rw [hx', Nat.mul_comm]⟩)
    rw [show Nat.gcd n.natAbs a = 1 from hn] at this
    exact Nat.dvd_one.1 this
  have hvy : Nat.gcd v y = 1 := by
    have : Nat.gcd v y ∣ Nat.gcd m.natAbs b := Nat.dvd_gcd (Nat.dvd_trans (Nat.gcd_dvd_left _ _) ⟨h, by rw [hv', Nat.mul_comm]⟩) (Nat.dvd_trans (Nat.gcd_dvd_right _ _) ⟨g, by rw [hy', Nat.mul_comm]⟩)
    rw [show Nat.gcd m.natAbs b = 1 from hm] at this
    exact Nat.dvd_one.1 this
  have hco : Nat.Coprime (u * v) (x * y) := Nat.Coprime.mul_left (Nat.Coprime.mul_right hux huy) (Nat.Coprime.mul_right hvx hvy)
  refine ⟨?_, hg1, hh1, hx1, hy1⟩
  have hs : n * m = if sg then -((n.natAbs * m.natAbs : Nat) : Int) else ((n.natAbs * m.natAbs : Nat) : Int) := by
    rw [Int.natCast_mul, hsg]
    by_cases h1 : n < 0 <;> by_cases h2 : m < 0
    · rw [show ((n.natAbs : Nat) : Int) = -n by omega, show ((m.natAbs : Nat) : Int) = -m by omega, show decide (n < 0) = true by simp [h1], show decide (m < 0) = true by simp [h2], show (true != true) = false from rfl, if_neg (by decide)]
      grind
    · rw [show ((n.natAbs : Nat) : Int) = -n by omega, show ((m.natAbs : Nat) : Int) = m by omega, show decide (n < 0) = true by simp [h1], show decide (m < 0) = false by simp [h2], show (true != false) = true from rfl, if_pos rfl]
      grind
    · rw [show ((n.natAbs : Nat) : Int) = n by omega, show ((m.natAbs : Nat) : Int) = -m by omega, show decide (n < 0) = false by simp [h1], show decide (m < 0) = true by simp [h2], show (false != true) = true from rfl, if_pos rfl]
      grind
    · rw [show ((n.natAbs : Nat) : Int) = n by omega, show ((m.natAbs : Nat) : Int) = m by omega, show decide (n < 0) = false by simp [h1], show decide (m < 0) = false by simp [h2], show (false != false) = false from rfl, if_neg (by decide)]
  obtain ⟨N, hN⟩ : ∃ N : Int, (if sg then -((u * v : Nat) : Int) else ((u * v : Nat) : Int)) = N := ⟨_, rfl⟩
  rw [hN]
  have hab : (1 : Int) ≤ (a : Int) * (b : Int) := by rw [← Int.natCast_mul]; have := Nat.mul_pos ha hb; omega
  have hxy : (1 : Int) ≤ ((x * y : Nat) : Int) := by have := Nat.mul_pos hx1 hy1; omega
  have hcr : n * m * ((x * y : Nat) : Int) = N * ((a : Int) * (b : Int)) := by
    rw [hs, ← hN, hu', hv', hx', hy']
    cases sg
    · simp only [Int.natCast_mul, Bool.false_eq_true, if_false]; grind
    · simp only [Int.natCast_mul, if_true]; grind
  have hNa : N.natAbs = u * v := by rw [← hN]; split <;> omega
  unfold mulF
  show fr (n * m) ((a : Int) * (b : Int)) = _
  rw [fr_cross _ _ N ((x * y : Nat) : Int) hab hxy hcr]
  exact fr_self (N, ((x * y : Nat) : Int)) ⟨hxy, by show Nat.gcd N.natAbs (x * y) = 1; rw [hNa]; exact hco⟩

theorem mul_plan (n m : Int) (a b : Nat) (hf : smF (n, (a : Int))) (hg : smF (m, (b : Int))) :
    ∃ (g h u v x y : Nat) (sg : Bool), Nat.gcd n.natAbs b = g ∧ Nat.gcd m.natAbs a = h ∧ n.natAbs / g = u ∧ m.natAbs / h = v ∧ a / h = x ∧ b / g = y ∧ (decide (n < 0) != decide (m < 0)) = sg ∧
      mulF (n, (a : Int)) (m, (b : Int)) = ((if sg then -((u * v : Nat) : Int) else ((u * v : Nat) : Int)), ((x * y : Nat) : Int)) ∧
      1 ≤ g ∧ g ≤ 1000000 ∧ 1 ≤ h ∧ h ≤ 1000000 ∧ u ≤ 1000000000 ∧ v ≤ 1000000000 ∧ x ≤ 1000000 ∧ y ≤ 1000000 ∧ u * v ≤ 1000000000000000000 ∧ x * y ≤ 1000000000000 ∧ n.natAbs ≤ 1000000000 ∧ m.natAbs ≤ 1000000000 ∧ 1 ≤ a ∧ a ≤ 1000000 ∧ 1 ≤ b ∧ b ≤ 1000000 := by
  obtain ⟨⟨ha1, hga⟩, hn, ha⟩ := hf
  obtain ⟨⟨hb1, hgb⟩, hm, hb⟩ := hg
  dsimp only at *
  obtain ⟨e1, e2, e3, -, -⟩ := times_law n m a b (by omega) (by omega) hga hgb _ _ _ _ _ _ rfl rfl rfl rfl rfl rfl _ rfl
  have d1 : Nat.gcd n.natAbs b ≤ b := Nat.gcd_le_right _ (by omega)
  have d2 : Nat.gcd m.natAbs a ≤ a := Nat.gcd_le_right _ (by omega)
  have d3 := Nat.div_le_self n.natAbs (Nat.gcd n.natAbs b)
  have d4 := Nat.div_le_self m.natAbs (Nat.gcd m.natAbs a)
  have d5 := Nat.div_le_self a (Nat.gcd m.natAbs a)
  have d6 := Nat.div_le_self b (Nat.gcd n.natAbs b)
  refine ⟨_, _, _, _, _, _, _, rfl, rfl, rfl, rfl, rfl, rfl, rfl, e1, e2, by omega, e3, by omega, by omega, by omega, by omega, by omega, ?_, ?_, by omega, by omega, by omega, by omega, by omega, by omega⟩
  · exact Nat.le_trans (Nat.mul_le_mul (show _ ≤ 1000000000 by omega) (show _ ≤ 1000000000 by omega)) (by decide)
  · exact Nat.le_trans (Nat.mul_le_mul (show _ ≤ 1000000 by omega) (show _ ≤ 1000000 by omega)) (by decide)

theorem mul_fr (k p : Int) (D q : Int) (hD : 1 ≤ D) (hq : 1 ≤ q) : mulF (fr k D) (fr p q) = fr (k * p) (D * q) := by
  have e1 := fr_val k D hD
  have e2 := fr_val p q hq
  have d1 := (fr_den k D hD).1
  have d2 := (fr_den p q hq).1
  unfold mulF
  generalize fr k D = f at *
  generalize fr p q = g at *
  have h1 := Int.mul_le_mul d1 d2 (by omega) (by omega)
  have h2 := Int.mul_le_mul hD hq (by omega) (by omega)
  refine fr_cross _ _ _ _ (by omega) (by omega) ?_
  rw [show f.1 * g.1 * (D * q) = (f.1 * D) * (g.1 * q) by grind, e1, e2]; grind

theorem add_frD (k l D : Int) (hD : 1 ≤ D) : addF (fr k D) (fr l D) = fr (k + l) D := by
  have e1 := fr_val k D hD
  have e2 := fr_val l D hD
  have d1 := (fr_den k D hD).1
  have d2 := (fr_den l D hD).1
  unfold addF
  generalize fr k D = f at *
  generalize fr l D = g at *
  have h1 := Int.mul_le_mul d1 d2 (by omega) (by omega)
  refine fr_cross _ _ _ _ (by omega) hD ?_
  rw [Int.add_mul, Int.mul_right_comm f.1, e1, Int.mul_right_comm g.1, e2, Int.add_mul, Int.mul_assoc k, Int.mul_assoc l, Int.mul_comm g.2 f.2]

theorem wd_frD (k D : Int) (hD : 1 ≤ D ∧ D ≤ 30000000) (h : -30000000000 ≤ k ∧ k ≤ 30000000000) : wdF (fr k D) := by
  have h1 := fr_isF k D hD.1
  have h2 := fr_num k D hD.1
  have h3 := fr_den k D hD.1
  exact ⟨h1, by omega, by omega⟩
theorem sm_frD (k D : Int) (hD : 1 ≤ D ∧ D ≤ 1000000) (h : -1000000000 ≤ k ∧ k ≤ 1000000000) : smF (fr k D) := by
  have h1 := fr_isF k D hD.1
  have h2 := fr_num k D hD.1
  have h3 := fr_den k D hD.1
  exact ⟨h1, by omega, by omega⟩

end Go.Proofs.YtlobdeakgoicpaaDoor
