/- The walk of frac.Right for any fraction. -/
import Derived.Test.YtlobdeakgoicpaaDoorFracAdd
namespace Go.Proofs.YtlobdeakgoicpaaDoor
open Go.RowKit

/-- Whether a fraction is right. -/
def rightF (f : Pt) : Bool := decide (0 < f.2) && (Nat.gcd f.1.natAbs f.2.natAbs == 1)

set_option maxHeartbeats 1000000 in
theorem right_gen (n d : Int) (hn : -9223372036854775807 ≤ n ∧ n ≤ 9223372036854775807) (hd0 : -9223372036854775807 ≤ d ∧ d ≤ 9223372036854775807) (w : World) :
    Calls Tryd.prog 34 #[.agg #[.int .i64 n, .int .i64 d]] w fun e w' => e = .returned (.bool (rightF (n, d))) ∧ Below w.heap.size w w' := by
  have k0 : (w.alloc (.cells #[.int .i64 n, .int .i64 d] 23)).heap[w.heap.size]? = _ := blk_new _ rfl
  have q0 := blk_cell k0 0
  have q1 := blk_cell k0 1
  have hB0 : Below w.heap.size w (w.alloc (.cells #[.int .i64 n, .int .i64 d] 23)) := (by repeat (first | exact Below.refl _ _ | assumption | refine Below.drew ?_ | refine below_drewN ?_ _ | refine Below.alloc ?_ (by first | omega | (simp; done) | (simp; omega)) _ | refine Below.setCell ?_ (by first | omega | (simp; done) | (simp; omega)) _))
  have hlt : w.heap.size < (w.alloc (.cells #[.int .i64 n, .int .i64 d] 23)).heap.size := by simp
  by_cases hp : 0 < d
  · obtain ⟨g, hg⟩ : ∃ g, Nat.gcd n.natAbs d.natAbs = g := ⟨_, rfl⟩
    have HSb := Lib.hid (fun W => size_any d W hd0)
    have HSn := Lib.hid (fun W => size_any n W hn)
    have HG := Lib.hid (fun W => gcd_any n.natAbs d.natAbs W (by omega) (by omega))
    rw [hg] at HG
    have hr : rightF (n, d) = ((g : Int) == 1) := by
      unfold rightF
      dsimp only
      rw [decide_eq_true hp, Bool.true_and, hg]
      by_cases h : g = 1
      · subst h; rfl
      · rw [beq_eq_false_iff_ne.2 h, beq_eq_false_iff_ne.2 (by omega)]
    rw [hr]
    have hd3 : decide (d > 0) = true := decide_eq_true hp
    clear hr hg
    go_enter Tryd.func34, Tryd.ntmps34
    go_upto_region 1 with fail
    generalize w.alloc (.cells #[.int .i64 n, .int .i64 d] 23) = W1 at *
    go_region_held3 (fun w' => w'.cell? ⟨w.heap.size, 0, none⟩ = some (.int .i64 n) ∧ w'.cell? ⟨w.heap.size, 1, none⟩ = some (.int .i64 d)) ((first | exact ⟨q0, q1⟩ | exact ⟨keepB hba hlt q0, keepB hba hlt q1⟩))
      ((first | (go_at_call 58; first | ((with_reducible refine (HSb.out _).mono ?_); rintro ee we ⟨rfl, rfl⟩) | ((with_reducible refine (HSn.out _).mono ?_); rintro ee we ⟨rfl, rfl⟩)) | (go_at_call 60; (with_reducible refine (HG.out _).mono ?_); rintro ee wa ⟨rfl, hba⟩)))
    all_goals go_wp2
    all_goals go_ret
    all_goals exact ⟨rfl, (hB0.drew).trans (hba.mono (hB0.size))⟩
  · have hr : rightF (n, d) = false := by unfold rightF; rw [decide_eq_false hp]; rfl
    rw [hr]
    have hd3 : decide (d > 0) = false := decide_eq_false hp
    have hd4 : decide (0 < d) = false := decide_eq_false hp
    clear hr
    go_enter Tryd.func34, Tryd.ntmps34
    go_upto_region 1 with fail
    generalize w.alloc (.cells #[.int .i64 n, .int .i64 d] 23) = W1 at *
    go_quiet (fail)
    go_wp2
    go_ret
    exact ⟨rfl, below_drewN hB0 _⟩

end Go.Proofs.YtlobdeakgoicpaaDoor
