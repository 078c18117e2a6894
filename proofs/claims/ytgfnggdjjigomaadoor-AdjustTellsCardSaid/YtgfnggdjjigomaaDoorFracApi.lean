/- The walks of the package frac: Right, Add, Sum, Cmp, for fractions that are not too great. -/
import Derived.Test.YtgfnggdjjigomaaDoorFracAdd2
namespace Go.Proofs.YtgfnggdjjigomaaDoor
open Go.RowKit

set_option maxHeartbeats 1000000 in
theorem right_low (n : Int) (b : Nat) (hg : smF (n, (b : Int))) (w : World) :
    Calls Tryd.prog 49 #[.agg #[.int .i64 n, .int .i64 b]] w fun e w' => e = .returned (.bool true) ∧ Below w.heap.size w w' := by
  obtain ⟨⟨b1, hgb⟩, hn, hb⟩ := hg
  dsimp only at *
  have HSb := Lib.hid (fun W => size_any (b : Int) W (by omega))
  have HSn := Lib.hid (fun W => size_any n W (by omega))
  rw [show (((b : Int).natAbs : Nat) : Int) = (b : Int) by omega] at HSb
  have HG := Lib.hid (fun W => gcd_any n.natAbs b W (by omega) (by omega))
  rw [show Nat.gcd n.natAbs b = 1 from hgb] at HG
  have hd : decide ((b : Int) > 0) = true := decide_eq_true (by omega)
  have hd1 : (0 : Int) < (b : Int) := by omega
  have hd3 : decide ((0 : Int) < (b : Int)) = true := decide_eq_true hd1
  have hd4 : 0 < b := by omega
  have hd5 : decide (0 < b) = true := decide_eq_true hd4
  have hd2 : ((1 : Nat) : Int) = 1 := rfl
  rw [hd2] at HG
  clear hgb
  go_enter Tryd.func49, Tryd.ntmps49
  go_upto_region 1 with fail
  have k0 : (w.alloc (.cells #[.int .i64 n, .int .i64 b] 40)).heap[w.heap.size]? = _ := blk_new _ rfl
  have q0 := blk_cell k0 0
  have q1 := blk_cell k0 1
  have hB0 : Below w.heap.size w (w.alloc (.cells #[.int .i64 n, .int .i64 b] 40)) := (by repeat (first | exact Below.refl _ _ | assumption | refine Below.drew ?_ | refine below_drewN ?_ _ | refine Below.alloc ?_ (by first | omega | (simp; done) | (simp; omega)) _ | refine Below.setCell ?_ (by first | omega | (simp; done) | (simp; omega)) _))
  have hlt : w.heap.size < (w.alloc (.cells #[.int .i64 n, .int .i64 b] 40)).heap.size := by simp
  generalize w.alloc (.cells #[.int .i64 n, .int .i64 b] 40) = W1 at *
  go_region_held3 (fun w' => w'.cell? ⟨w.heap.size, 0, none⟩ = some (.int .i64 n) ∧ w'.cell? ⟨w.heap.size, 1, none⟩ = some (.int .i64 b)) ((first | exact ⟨q0, q1⟩ | exact ⟨keepB hba hlt q0, keepB hba hlt q1⟩))
    ((first | (go_at_call 51; first | ((with_reducible refine (HSb.out _).mono ?_); rintro ee we ⟨rfl, rfl⟩) | ((with_reducible refine (HSn.out _).mono ?_); rintro ee we ⟨rfl, rfl⟩)) | (go_at_call 72; (with_reducible refine (HG.out _).mono ?_); rintro ee wa ⟨rfl, hba⟩)))
  all_goals go_wp2
  all_goals go_ret
  all_goals exact ⟨rfl, (hB0.drew).trans (hba.mono (hB0.size))⟩

set_option maxHeartbeats 1000000 in
theorem fadd_low (n m : Int) (a b : Nat) (hf : smF (n, (a : Int))) (hg : smF (m, (b : Int))) (w : World) :
    Calls Tryd.prog 27 #[.agg #[.int .i64 n, .int .i64 a], .agg #[.int .i64 m, .int .i64 b]] w fun e w' => e = .returned (.tuple #[.agg #[.int .i64 (addF (n, (a : Int)) (m, (b : Int))).1, .int .i64 (addF (n, (a : Int)) (m, (b : Int))).2], .int .i64 0]) ∧ Below w.heap.size w w' := by
  have HR1 := Lib.hid (fun W => right_low n a hf W)
  have HR2 := Lib.hid (fun W => right_low m b hg W)
  have HA := Lib.hid (fun W => add_low n m a b hf hg W)
  obtain ⟨f1, f2, hfe⟩ : ∃ f1 f2, addF (n, (a : Int)) (m, (b : Int)) = (f1, f2) := ⟨_, _, rfl⟩
  rw [hfe] at HA ⊢
  dsimp only at HA ⊢
  clear hfe hf hg
  go_enter Tryd.func27, Tryd.ntmps27
  go_upto_region 1 with fail
  obtain ⟨W0, hW0⟩ : ∃ W0, (((w.alloc (.cells #[.int .i64 n, .int .i64 a] 40)).alloc (.cells #[.int .i64 m, .int .i64 b] 40)).alloc (.cells #[.int .i64 0, .int .i64 0] 40)) = W0 := ⟨_, rfl⟩
  have hB0 : Below w.heap.size w W0 := by rw [← hW0]; exact (by repeat (first | exact Below.refl _ _ | assumption | refine Below.drew ?_ | refine below_drewN ?_ _ | refine Below.alloc ?_ (by first | omega | (simp; done) | (simp; omega)) _ | refine Below.setCell ?_ (by first | omega | (simp; done) | (simp; omega)) _))
  have k0 : W0.heap[w.heap.size]? = some (.cells #[.int .i64 n, .int .i64 a] 40) := by rw [← hW0]; exact blk_alloc (blk_alloc (blk_new _ rfl) _) _
  have k1 : W0.heap[w.heap.size + 1]? = some (.cells #[.int .i64 m, .int .i64 b] 40) := by rw [← hW0]; exact blk_alloc (blk_new _ (by simp)) _
  have k2 : W0.heap[w.heap.size + 2]? = some (.cells #[.int .i64 0, .int .i64 0] 40) := by rw [← hW0]; exact blk_new _ (by simp)
  have s0 : W0.heap.size = w.heap.size + 3 := by rw [← hW0]; simp
  rw [hW0]
  clear hW0
  have HL := Lib.hid (fun (wa : World) (hba : Below W0.heap.size W0 wa) => (show Below w.heap.size w wa ∧ wa.cell? ⟨w.heap.size, 0, none⟩ = some (.int .i64 n) ∧ wa.cell? ⟨w.heap.size, 1, none⟩ = some (.int .i64 a) ∧ wa.cell? ⟨w.heap.size + 1, 0, none⟩ = some (.int .i64 m) ∧ wa.cell? ⟨w.heap.size + 1, 1, none⟩ = some (.int .i64 b) ∧ wa.cell? ⟨w.heap.size + 2, 0, none⟩ = some (.int .i64 0) ∧ wa.cell? ⟨w.heap.size + 2, 1, none⟩ = some (.int .i64 0) ∧ wa.frozen? ⟨w.heap.size + 2, 0, none⟩ = false ∧ wa.frozen? ⟨w.heap.size + 2, 1, none⟩ = false from
    have h0 := blk_below k0 hba (by omega)
    have h1 := blk_below k1 hba (by omega)
    have h2 := blk_below k2 hba (by omega)
    ⟨hB0.trans (hba.mono (by omega)), blk_cell h0 0, blk_cell h0 1, blk_cell h1 0, blk_cell h1 1, blk_cell h2 0, blk_cell h2 1, blk_free h2 0, blk_free h2 1⟩))
  obtain ⟨-, c0, c1, c2, c3, -⟩ := HL.out W0 (Below.refl _ _)
  clear k0 k1 k2 hB0
  go_wp2_with fail
  refine (HR1.out _).mono ?_
  rintro ee W1 ⟨rfl, hb1⟩
  obtain ⟨-, c0, c1, c2, c3, -⟩ := HL.out W1 hb1
  go_wp2_with fail
  refine (HR2.out _).mono ?_
  rintro ee W2 ⟨rfl, hb2⟩
  have hb2 : Below W0.heap.size W0 W2 := hb1.trans (hb2.mono hb1.size)
  obtain ⟨-, c0, c1, c2, c3, -⟩ := HL.out W2 hb2
  go_wp2_with fail
  refine (HA.out _).mono ?_
  rintro ee W3 ⟨rfl, hb3⟩
  obtain ⟨hB3, c0, c1, c2, c3, c4, c5, c6, c7⟩ := HL.out W3 (hb2.trans (hb3.mono hb2.size))
  go_wp2
  exact bodyPost_ret (v := .tuple #[.agg #[.int .i64 f1, .int .i64 f2], .int .i64 0]) (by simp [results, Tryd.results27, go_sem, c4, c5]) rfl ⟨rfl, (hB3.setCell (by show _ ≤ w.heap.size + 2; omega) _).setCell (by show _ ≤ w.heap.size + 2; omega) _⟩

end Go.Proofs.YtgfnggdjjigomaaDoor
