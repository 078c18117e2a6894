/- The walks of neuberg.Sum, Share, Percent, and finesselaw21.q. -/
import Derived.Test.YtgfnggdjjigomaaDoorNeuAdjW
namespace Go.Proofs.YtgfnggdjjigomaaDoor
open Go.RowKit

theorem nboard2 (n : Int) (w : World) (h : 1 ≤ n ∧ n ≤ 24) : Calls Tryd.prog 61 #[.int .i64 n] w fun e w' => e = .returned (.bool true) ∧ w = w' :=
  (nboard n w).mono fun e w' hh => ⟨hh.1.trans (by rw [decide_eq_true h]), hh.2.symm⟩

set_option maxHeartbeats 2000000 in
theorem nshare (p all : Int) (w : World) (hp : 0 ≤ p ∧ p ≤ 100) (ha : 1 ≤ all ∧ all ≤ 24) :
    Calls Tryd.prog 37 #[.int .i64 p, .int .i64 all] w fun e w' => e = .returned (.tuple #[fV (mulF (p, 1) (fr (2 * (all - 1)) 100)), .int .i64 0]) ∧ Below w.heap.size w w' := by
  have HB := Lib.hid (fun W => nboard2 all W ha)
  obtain ⟨T, hT⟩ : ∃ T : Int, 2 * (all - 1) = T := ⟨_, rfl⟩
  have HT := Lib.hid (fun W => topN_any all W (by omega))
  rw [if_neg (by omega)] at HT
  rw [hT] at HT ⊢
  have HA := Lib.hid (fun (W : World) (b t g1 g2 : Nat) hs c0 d0 => napply1 (p, 1) (mulF (p, 1) (fr T 100)) T 100 b t g1 g2 W hs c0 d0 rfl (sm_whole p (by omega)) ⟨by omega, by omega⟩)
  generalize mulF (p, 1) (fr T 100) = r at *
  obtain ⟨x, y⟩ := r
  unfold fV at *
  dsimp only at *
  have t1 : decide (p < 0) = false := decide_eq_false (by omega)
  have t2 : decide (p > 100) = false := decide_eq_false (by omega)
  have t2' : decide (100 < p) = false := decide_eq_false (by omega)
  clear hT
  go_enter Tryd.func37, Tryd.ntmps37
  go_wp2_with fail
  refine (HB.out _).mono ?_
  rintro ee we ⟨rfl, rfl⟩
  go_wp2_with fail
  refine (HT.out _).mono ?_
  rintro ee we ⟨rfl, rfl⟩
  go_wp2_with fail
  refine (ntimes _ _ _).mono ?_
  rintro ee we ⟨rfl, rfl⟩
  go_wp2_with fail
  refine (HA.out _ _ _ _ _ (blk_new _ (by simp)) (blk_cell (blk_alloc (blk_alloc (blk_new _ (by simp)) _) _) 0) (blk_cell (blk_alloc (blk_new _ (by simp)) _) 0)).mono ?_
  rintro ee wa ⟨rfl, hba⟩
  have k1 : wa.heap[w.heap.size]? = some (.cells #[.int .i64 0, .int .i64 0] 40) := blk_below (blk_alloc (blk_alloc (blk_alloc (blk_new _ rfl) _) _) _) hba (by simp; omega)
  have c2 := blk_cell k1 0
  have c3 := blk_cell k1 1
  have g0 := blk_free k1 0
  have g1 := blk_free k1 1
  have hB : Below w.heap.size w wa := (show Below w.heap.size w _ from (by repeat (first | exact Below.refl _ _ | assumption | refine Below.drew ?_ | refine below_drewN ?_ _ | refine Below.alloc ?_ (by first | omega | (simp; done) | (simp; omega)) _ | refine Below.setCell ?_ (by first | omega | (simp; done) | (simp; omega)) _))).trans (hba.mono (by simp; omega))
  go_wp2
  exact bodyPost_ret (v := .tuple #[.agg #[.int .i64 x, .int .i64 y], .int .i64 0]) (by simp [results, Tryd.results37, go_sem, c2, c3]) rfl ⟨rfl, (hB.setCell (Nat.le_refl _) _).setCell (Nat.le_refl _) _⟩

end Go.Proofs.YtgfnggdjjigomaaDoor
