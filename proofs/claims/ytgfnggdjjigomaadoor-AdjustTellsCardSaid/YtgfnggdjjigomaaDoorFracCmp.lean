/- The walk of frac.Cmp for fractions that are not too great. -/
import Derived.Test.YtgfnggdjjigomaaDoorFracApi
namespace Go.Proofs.YtgfnggdjjigomaaDoor
open Go.RowKit

/-- How two fractions compare, by their products across. -/
def cmpF (f g : Pt) : Int := if f.1 * g.2 < g.1 * f.2 then -1 else if g.1 * f.2 < f.1 * g.2 then 1 else 0

/-- The products across, by the sizes. -/
theorem cross_sizes (n m : Int) (a b : Nat) : n * (b : Int) = (if n < 0 then -((n.natAbs * b : Nat) : Int) else ((n.natAbs * b : Nat) : Int)) ∧ m * (a : Int) = (if m < 0 then -((m.natAbs * a : Nat) : Int) else ((m.natAbs * a : Nat) : Int)) := by
  constructor
  · rw [Int.natCast_mul]
    split
    · rw [show ((n.natAbs : Nat) : Int) = -n by omega, Int.neg_mul, Int.neg_neg]
    · rw [show ((n.natAbs : Nat) : Int) = n by omega]
  · rw [Int.natCast_mul]
    split
    · rw [show ((m.natAbs : Nat) : Int) = -m by omega, Int.neg_mul, Int.neg_neg]
    · rw [show ((m.natAbs : Nat) : Int) = m by omega]

theorem fcmp_sign (n m : Int) (a b : Nat) (hf : smF (n, (a : Int))) (hg : smF (m, (b : Int))) :
    (n < 0 → ¬ m < 0 → cmpF (n, (a : Int)) (m, (b : Int)) = -1) ∧ (¬ n < 0 → m < 0 → cmpF (n, (a : Int)) (m, (b : Int)) = 1) ∧
    (¬ n < 0 → ¬ m < 0 → cmpF (n, (a : Int)) (m, (b : Int)) = if n.natAbs * b < m.natAbs * a then -1 else if m.natAbs * a < n.natAbs * b then 1 else 0) ∧
    (n < 0 → m < 0 → cmpF (n, (a : Int)) (m, (b : Int)) = -(if n.natAbs * b < m.natAbs * a then -1 else if m.natAbs * a < n.natAbs * b then 1 else 0)) := by
  have ha : 1 ≤ a := by have := hf.1.1; dsimp only at this; omega
  have hb : 1 ≤ b := by have := hg.1.1; dsimp only at this; omega
  obtain ⟨e1, e2⟩ := cross_sizes n m a b
  have l1 : n.natAbs ≤ n.natAbs * b := Nat.le_mul_of_pos_right _ hb
  have l2 : m.natAbs ≤ m.natAbs * a := Nat.le_mul_of_pos_right _ ha
  unfold cmpF
  dsimp only
  rw [e1, e2]
  generalize n.natAbs * b = p at *
  generalize m.natAbs * a = q at *
  refine ⟨fun h1 h2 => ?_, fun h1 h2 => ?_, fun h1 h2 => ?_, fun h1 h2 => ?_⟩
  · rw [if_pos h1, if_neg h2, if_pos (by omega)]
  · rw [if_neg h1, if_pos h2, if_neg (by omega), if_pos (by omega)]
  · rw [if_neg h1, if_neg h2]; (repeat' split) <;> omega
  · rw [if_pos h1, if_pos h2]; (repeat' split) <;> omega

set_option maxHeartbeats 1000000 in
theorem fcmp_low (n m : Int) (a b : Nat) (hf : smF (n, (a : Int))) (hg : smF (m, (b : Int))) (w : World) :
    Calls Tryd.prog 25 #[.agg #[.int .i64 n, .int .i64 a], .agg #[.int .i64 m, .int .i64 b]] w fun e w' => e = .returned (.tuple #[.int .i64 (cmpF (n, (a : Int)) (m, (b : Int))), .int .i64 0]) ∧ Below w.heap.size w w' := by
  have HR1 := Lib.hid (fun W => right_low n a hf W)
  have HR2 := Lib.hid (fun W => right_low m b hg W)
  obtain ⟨v, hv⟩ : ∃ v, cmpF (n, (a : Int)) (m, (b : Int)) = v := ⟨_, rfl⟩
  rw [hv]
  have Hv := Lib.hid hv
  have Hf := Lib.hid hf
  have Hg := Lib.hid hg
  clear hv hf hg
  go_enter Tryd.func25, Tryd.ntmps25
  go_upto_region 1 with fail
  obtain ⟨W0, hW0⟩ : ∃ W0, ((w.alloc (.cells #[.int .i64 n, .int .i64 a] 40)).alloc (.cells #[.int .i64 m, .int .i64 b] 40)) = W0 := ⟨_, rfl⟩
  have hB0 : Below w.heap.size w W0 := by rw [← hW0]; exact (by repeat (first | exact Below.refl _ _ | assumption | refine Below.drew ?_ | refine below_drewN ?_ _ | refine Below.alloc ?_ (by first | omega | (simp; done) | (simp; omega)) _ | refine Below.setCell ?_ (by first | omega | (simp; done) | (simp; omega)) _))
  have k0 : W0.heap[w.heap.size]? = some (.cells #[.int .i64 n, .int .i64 a] 40) := by rw [← hW0]; exact blk_alloc (blk_new _ rfl) _
  have k1 : W0.heap[w.heap.size + 1]? = some (.cells #[.int .i64 m, .int .i64 b] 40) := by rw [← hW0]; exact blk_new _ (by simp)
  have s0 : W0.heap.size = w.heap.size + 2 := by rw [← hW0]; simp
  rw [hW0]
  clear hW0
  have HL := Lib.hid (fun (wa : World) (hba : Below W0.heap.size W0 wa) => (show Below w.heap.size w wa ∧ wa.cell? ⟨w.heap.size, 0, none⟩ = some (.int .i64 n) ∧ wa.cell? ⟨w.heap.size, 1, none⟩ = some (.int .i64 a) ∧ wa.cell? ⟨w.heap.size + 1, 0, none⟩ = some (.int .i64 m) ∧ wa.cell? ⟨w.heap.size + 1, 1, none⟩ = some (.int .i64 b) from
    have h0 := blk_below k0 hba (by omega)
    have h1 := blk_below k1 hba (by omega)
    ⟨hB0.trans (hba.mono (by omega)), blk_cell h0 0, blk_cell h0 1, blk_cell h1 0, blk_cell h1 1⟩))
  obtain ⟨-, c0, c1, c2, c3⟩ := HL.out W0 (Below.refl _ _)
  clear k0 k1 hB0
  go_wp2_with fail
  refine (HR1.out _).mono ?_
  rintro ee W1 ⟨rfl, hb1⟩
  obtain ⟨-, c0, c1, c2, c3⟩ := HL.out W1 hb1
  go_wp2_with fail
  refine (HR2.out _).mono ?_
  rintro ee W2 ⟨rfl, hb2⟩
  have hb2 : Below W0.heap.size W0 W2 := hb1.trans (hb2.mono hb1.size)
  obtain ⟨hB2, c0, c1, c2, c3⟩ := HL.out W2 hb2
  by_cases hs : n = m ∧ a = b
  · obtain ⟨rfl, rfl⟩ := hs
    have hv0 : v = 0 := by rw [← Hv.out]; unfold cmpF; rw [if_neg (by omega), if_neg (by omega)]
    go_wp2
    exact bodyPost_ret (v := .tuple #[.int .i64 v, .int .i64 0]) (by simp [results, Tryd.results25, go_sem, hv0]) rfl ⟨rfl, hB2⟩
  · have hx := fcmp_sign n m a b Hf.out Hg.out
    rw [Hv.out] at hx
    have Hx := Lib.hid hx
    clear hx
    have Hs := Lib.hid hs
    by_cases hn : n < 0 <;> by_cases hm : m < 0
    · have hv0 := Hx.out.2.2.2 hn hm
      have bn := Hf.out
      have bm := Hg.out
      unfold smF isF at bn bm
      dsimp only at bn bm
      obtain ⟨p, hp⟩ : ∃ p, n.natAbs * b = p := ⟨_, rfl⟩
      obtain ⟨q, hq⟩ : ∃ q, m.natAbs * a = q := ⟨_, rfl⟩
      have hp2 : p ≤ 1000000000000000 := by rw [← hp]; exact Nat.le_trans (Nat.mul_le_mul (show n.natAbs ≤ 1000000000 by omega) (show b ≤ 1000000 by omega)) (by decide)
      have hq2 : q ≤ 1000000000000000 := by rw [← hq]; exact Nat.le_trans (Nat.mul_le_mul (show m.natAbs ≤ 1000000000 by omega) (show a ≤ 1000000 by omega)) (by decide)
      have HSa := Lib.hid (fun W => size_any (a : Int) W (by omega))
      have HSb := Lib.hid (fun W => size_any (b : Int) W (by omega))
      have HSn := Lib.hid (fun W => size_any n W (by omega))
      have HSm := Lib.hid (fun W => size_any m W (by omega))
      rw [show (((a : Int).natAbs : Nat) : Int) = (a : Int) by omega] at HSa
      rw [show (((b : Int).natAbs : Nat) : Int) = (b : Int) by omega] at HSb
      have HP1 := Lib.hid (fun W => product_small n.natAbs b W (by omega) (by omega) (by omega))
      have HP2 := Lib.hid (fun W => product_small m.natAbs a W (by omega) (by omega) (by omega))
      rw [hp] at HP1 hv0
      rw [hq] at HP2 hv0
      have HW := Lib.hid (fun W => wcmp_small p q W (by omega) (by omega))
      obtain ⟨u, hu⟩ : ∃ u : Int, (if p < q then -1 else if q < p then 1 else 0) = u := ⟨_, rfl⟩
      have hub : -1 ≤ u ∧ u ≤ 1 := by rw [← hu]; (repeat' split) <;> omega
      rw [hu] at HW hv0
      have h1 : decide (n < 0) = true := decide_eq_true hn
      have h2 : decide (m < 0) = true := decide_eq_true hm
      have iu : IntKind.i64.wrap (-u) = -u := IntWalk.i64_in _ (by omega)
      have l0 : w.heap.size < W2.heap.size := by have := hb2.size; omega
      have l1 : w.heap.size + 1 < W2.heap.size := by have := hb2.size; omega
      clear hu hp hq bn bm HR1 HR2 HL Hs Hx hp2 hq2 hub
      have HS := Lib.hid (fun (wx : World) (hb : Below W2.heap.size W2 wx) => (show wx.cell? ⟨w.heap.size, 0, none⟩ = some (.int .i64 n) ∧ wx.cell? ⟨w.heap.size, 1, none⟩ = some (.int .i64 a) ∧ wx.cell? ⟨w.heap.size + 1, 0, none⟩ = some (.int .i64 m) ∧ wx.cell? ⟨w.heap.size + 1, 1, none⟩ = some (.int .i64 b) from ⟨keepB hb l0 c0, keepB hb l0 c1, keepB hb l1 c2, keepB hb l1 c3⟩))
      have hd : Below W2.heap.size W2 W2.drew := (Below.refl _ _).drew
      rcases Classical.em (n = m) with rfl | hnm
      · have hab : ¬ a = b := fun h => hs ⟨rfl, h⟩
        clear hs
        go_upto_region 9 with fail
        all_goals go_region_held3 (fun w' => w'.cell? ⟨w.heap.size, 0, none⟩ = some (.int .i64 n) ∧ w'.cell? ⟨w.heap.size, 1, none⟩ = some (.int .i64 a) ∧ w'.cell? ⟨w.heap.size + 1, 0, none⟩ = some (.int .i64 n) ∧ w'.cell? ⟨w.heap.size + 1, 1, none⟩ = some (.int .i64 b)) ((first | exact ⟨c0, c1, c2, c3⟩ | exact HS.out _ hbc | exact HS.out _ hbb | exact HS.out _ hba))
          ((first | (go_at_call 51; first | ((with_reducible refine (HSn.out _).mono ?_); rintro ee we ⟨rfl, rfl⟩) | ((with_reducible refine (HSb.out _).mono ?_); rintro ee we ⟨rfl, rfl⟩) | ((with_reducible refine (HSm.out _).mono ?_); rintro ee we ⟨rfl, rfl⟩) | ((with_reducible refine (HSa.out _).mono ?_); rintro ee we ⟨rfl, rfl⟩)) | (go_at_call 50; first | ((with_reducible refine (HP1.out _).mono ?_); rintro ee wa ⟨rfl, hba0⟩; first | (have hba := hd.trans (hba0.mono hd.size)) | (have hba := hbb.trans (hba0.mono hbb.size))) | ((with_reducible refine (HP2.out _).mono ?_); rintro ee wb ⟨rfl, hbb0⟩; first | (have hbb := hd.trans (hbb0.mono hd.size)) | (have hbb := hba.trans (hbb0.mono hba.size)))) | (go_at_call 52; (with_reducible refine (HW.out _).mono ?_); rintro ee wc ⟨rfl, hbc0⟩; first | (have hbc := hbb.trans (hbc0.mono hbb.size)) | (have hbc := hba.trans (hbc0.mono hba.size)))))
        all_goals go_wp2
        all_goals exact bodyPost_ret (v := .tuple #[.int .i64 v, .int .i64 0]) (by simp [results, Tryd.results25, go_sem, hv0]) rfl ⟨rfl, hB2.trans (hbc.mono hB2.size)⟩
      · go_upto_region 9 with fail
        all_goals go_region_held3 (fun w' => w'.cell? ⟨w.heap.size, 0, none⟩ = some (.int .i64 n) ∧ w'.cell? ⟨w.heap.size, 1, none⟩ = some (.int .i64 a) ∧ w'.cell? ⟨w.heap.size + 1, 0, none⟩ = some (.int .i64 m) ∧ w'.cell? ⟨w.heap.size + 1, 1, none⟩ = some (.int .i64 b)) ((first | exact ⟨c0, c1, c2, c3⟩ | exact HS.out _ hbc | exact HS.out _ hbb | exact HS.out _ hba))
          ((first | (go_at_call 51; first | ((with_reducible refine (HSn.out _).mono ?_); rintro ee we ⟨rfl, rfl⟩) | ((with_reducible refine (HSb.out _).mono ?_); rintro ee we ⟨rfl, rfl⟩) | ((with_reducible refine (HSm.out _).mono ?_); rintro ee we ⟨rfl, rfl⟩) | ((with_reducible refine (HSa.out _).mono ?_); rintro ee we ⟨rfl, rfl⟩)) | (go_at_call 50; first | ((with_reducible refine (HP1.out _).mono ?_); rintro ee wa ⟨rfl, hba0⟩; first | (have hba := hd.trans (hba0.mono hd.size)) | (have hba := hbb.trans (hba0.mono hbb.size))) | ((with_reducible refine (HP2.out _).mono ?_); rintro ee wb ⟨rfl, hbb0⟩; first | (have hbb := hd.trans (hbb0.mono hd.size)) | (have hbb := hba.trans (hbb0.mono hba.size)))) | (go_at_call 52; (with_reducible refine (HW.out _).mono ?_); rintro ee wc ⟨rfl, hbc0⟩; first | (have hbc := hbb.trans (hbc0.mono hbb.size)) | (have hbc := hba.trans (hbc0.mono hba.size)))))
        all_goals go_wp2
        all_goals exact bodyPost_ret (v := .tuple #[.int .i64 v, .int .i64 0]) (by simp [results, Tryd.results25, go_sem, hv0]) rfl ⟨rfl, hB2.trans (hbc.mono hB2.size)⟩
    · have hv0 := Hx.out.1 hn hm
      have h1 : decide (n < 0) = true := decide_eq_true hn
      have h2 : decide (m < 0) = false := decide_eq_false hm
      go_wp2
      all_goals exact bodyPost_ret (v := .tuple #[.int .i64 v, .int .i64 0]) (by simp [results, Tryd.results25, go_sem, hv0]) rfl ⟨rfl, hB2⟩
    · have hv0 := Hx.out.2.1 hn hm
      have h1 : decide (n < 0) = false := decide_eq_false hn
      have h2 : decide (m < 0) = true := decide_eq_true hm
      go_wp2
      all_goals exact bodyPost_ret (v := .tuple #[.int .i64 v, .int .i64 0]) (by simp [results, Tryd.results25, go_sem, hv0]) rfl ⟨rfl, hB2⟩
    · have hv0 := Hx.out.2.2.1 hn hm
      have bn := Hf.out
      have bm := Hg.out
      unfold smF isF at bn bm
      dsimp only at bn bm
      obtain ⟨p, hp⟩ : ∃ p, n.natAbs * b = p := ⟨_, rfl⟩
      obtain ⟨q, hq⟩ : ∃ q, m.natAbs * a = q := ⟨_, rfl⟩
      have hp2 : p ≤ 1000000000000000 := by rw [← hp]; exact Nat.le_trans (Nat.mul_le_mul (show n.natAbs ≤ 1000000000 by omega) (show b ≤ 1000000 by omega)) (by decide)
      have hq2 : q ≤ 1000000000000000 := by rw [← hq]; exact Nat.le_trans (Nat.mul_le_mul (show m.natAbs ≤ 1000000000 by omega) (show a ≤ 1000000 by omega)) (by decide)
      have HSa := Lib.hid (fun W => size_any (a : Int) W (by omega))
      have HSb := Lib.hid (fun W => size_any (b : Int) W (by omega))
      have HSn := Lib.hid (fun W => size_any n W (by omega))
      have HSm := Lib.hid (fun W => size_any m W (by omega))
      rw [show (((a : Int).natAbs : Nat) : Int) = (a : Int) by omega] at HSa
      rw [show (((b : Int).natAbs : Nat) : Int) = (b : Int) by omega] at HSb
      have HP1 := Lib.hid (fun W => product_small n.natAbs b W (by omega) (by omega) (by omega))
      have HP2 := Lib.hid (fun W => product_small m.natAbs a W (by omega) (by omega) (by omega))
      rw [hp] at HP1 hv0
      rw [hq] at HP2 hv0
      have HW := Lib.hid (fun W => wcmp_small p q W (by omega) (by omega))
      obtain ⟨u, hu⟩ : ∃ u : Int, (if p < q then -1 else if q < p then 1 else 0) = u := ⟨_, rfl⟩
      have hub : -1 ≤ u ∧ u ≤ 1 := by rw [← hu]; (repeat' split) <;> omega
      rw [hu] at HW hv0
      have h1 : decide (n < 0) = false := decide_eq_false hn
      have h2 : decide (m < 0) = false := decide_eq_false hm
      have iu : IntKind.i64.wrap (-u) = -u := IntWalk.i64_in _ (by omega)
      have l0 : w.heap.size < W2.heap.size := by have := hb2.size; omega
      have l1 : w.heap.size + 1 < W2.heap.size := by have := hb2.size; omega
      clear hu hp hq bn bm HR1 HR2 HL Hs Hx hp2 hq2 hub
      have HS := Lib.hid (fun (wx : World) (hb : Below W2.heap.size W2 wx) => (show wx.cell? ⟨w.heap.size, 0, none⟩ = some (.int .i64 n) ∧ wx.cell? ⟨w.heap.size, 1, none⟩ = some (.int .i64 a) ∧ wx.cell? ⟨w.heap.size + 1, 0, none⟩ = some (.int .i64 m) ∧ wx.cell? ⟨w.heap.size + 1, 1, none⟩ = some (.int .i64 b) from ⟨keepB hb l0 c0, keepB hb l0 c1, keepB hb l1 c2, keepB hb l1 c3⟩))
      have hd : Below W2.heap.size W2 W2.drew := (Below.refl _ _).drew
      rcases Classical.em (n = m) with rfl | hnm
      · have hab : ¬ a = b := fun h => hs ⟨rfl, h⟩
        clear hs
        go_upto_region 9 with fail
        all_goals go_region_held3 (fun w' => w'.cell? ⟨w.heap.size, 0, none⟩ = some (.int .i64 n) ∧ w'.cell? ⟨w.heap.size, 1, none⟩ = some (.int .i64 a) ∧ w'.cell? ⟨w.heap.size + 1, 0, none⟩ = some (.int .i64 n) ∧ w'.cell? ⟨w.heap.size + 1, 1, none⟩ = some (.int .i64 b)) ((first | exact ⟨c0, c1, c2, c3⟩ | exact HS.out _ hbc | exact HS.out _ hbb | exact HS.out _ hba))
          ((first | (go_at_call 51; first | ((with_reducible refine (HSn.out _).mono ?_); rintro ee we ⟨rfl, rfl⟩) | ((with_reducible refine (HSb.out _).mono ?_); rintro ee we ⟨rfl, rfl⟩) | ((with_reducible refine (HSm.out _).mono ?_); rintro ee we ⟨rfl, rfl⟩) | ((with_reducible refine (HSa.out _).mono ?_); rintro ee we ⟨rfl, rfl⟩)) | (go_at_call 50; first | ((with_reducible refine (HP1.out _).mono ?_); rintro ee wa ⟨rfl, hba0⟩; first | (have hba := hd.trans (hba0.mono hd.size)) | (have hba := hbb.trans (hba0.mono hbb.size))) | ((with_reducible refine (HP2.out _).mono ?_); rintro ee wb ⟨rfl, hbb0⟩; first | (have hbb := hd.trans (hbb0.mono hd.size)) | (have hbb := hba.trans (hbb0.mono hba.size)))) | (go_at_call 52; (with_reducible refine (HW.out _).mono ?_); rintro ee wc ⟨rfl, hbc0⟩; first | (have hbc := hbb.trans (hbc0.mono hbb.size)) | (have hbc := hba.trans (hbc0.mono hba.size)))))
        all_goals go_wp2
        all_goals exact bodyPost_ret (v := .tuple #[.int .i64 v, .int .i64 0]) (by simp [results, Tryd.results25, go_sem, hv0]) rfl ⟨rfl, hB2.trans (hbc.mono hB2.size)⟩
      · go_upto_region 9 with fail
        all_goals go_region_held3 (fun w' => w'.cell? ⟨w.heap.size, 0, none⟩ = some (.int .i64 n) ∧ w'.cell? ⟨w.heap.size, 1, none⟩ = some (.int .i64 a) ∧ w'.cell? ⟨w.heap.size + 1, 0, none⟩ = some (.int .i64 m) ∧ w'.cell? ⟨w.heap.size + 1, 1, none⟩ = some (.int .i64 b)) ((first | exact ⟨c0, c1, c2, c3⟩ | exact HS.out _ hbc | exact HS.out _ hbb | exact HS.out _ hba))
          ((first | (go_at_call 51; first | ((with_reducible refine (HSn.out _).mono ?_); rintro ee we ⟨rfl, rfl⟩) | ((with_reducible refine (HSb.out _).mono ?_); rintro ee we ⟨rfl, rfl⟩) | ((with_reducible refine (HSm.out _).mono ?_); rintro ee we ⟨rfl, rfl⟩) | ((with_reducible refine (HSa.out _).mono ?_); rintro ee we ⟨rfl, rfl⟩)) | (go_at_call 50; first | ((with_reducible refine (HP1.out _).mono ?_); rintro ee wa ⟨rfl, hba0⟩; first | (have hba := hd.trans (hba0.mono hd.size)) | (have hba := hbb.trans (hba0.mono hbb.size))) | ((with_reducible refine (HP2.out _).mono ?_); rintro ee wb ⟨rfl, hbb0⟩; first | (have hbb := hd.trans (hbb0.mono hd.size)) | (have hbb := hba.trans (hbb0.mono hba.size)))) | (go_at_call 52; (with_reducible refine (HW.out _).mono ?_); rintro ee wc ⟨rfl, hbc0⟩; first | (have hbc := hbb.trans (hbc0.mono hbb.size)) | (have hbc := hba.trans (hbc0.mono hba.size)))))
        all_goals go_wp2
        all_goals exact bodyPost_ret (v := .tuple #[.int .i64 v, .int .i64 0]) (by simp [results, Tryd.results25, go_sem, hv0]) rfl ⟨rfl, hB2.trans (hbc.mono hB2.size)⟩

end Go.Proofs.YtgfnggdjjigomaaDoor
