/- The rejections of finesseref21.Adjust. -/
import Derived.Test.YtlobdeakgoicpaaDoorR21A
namespace Go.Proofs.YtlobdeakgoicpaaDoor
open Go.RowKit

set_option maxHeartbeats 1000000 in
theorem radj_b1 (f1 f2 n all : Int) (w : World) (hb : boardB n all = false) :
    Calls Tryd.prog 12 #[.agg #[.int .i64 f1, .int .i64 f2], .int .i64 n, .int .i64 all] w fun e w' => e = .returned (.tuple #[.agg #[.int .i64 0, .int .i64 0], .int .i64 2]) ∧ Below w.heap.size w w' := by
  have HB := Lib.hid (fun W => r21board n all W)
  rw [hb] at HB
  clear hb
  go_enter Tryd.func12, Tryd.ntmps12
  go_wp2_with fail
  refine (HB.out _).mono ?_
  rintro ee w1 ⟨rfl, rfl⟩
  go_wp2
  exact bodyPost_ret (v := .tuple #[.agg #[.int .i64 0, .int .i64 0], .int .i64 2]) (by simp [results, Tryd.results12, go_sem]) rfl ⟨rfl, (by repeat (first | exact Below.refl _ _ | assumption | refine Below.drew ?_ | refine below_drewN ?_ _ | refine Below.alloc ?_ (by first | omega | (simp; done) | (simp; omega)) _ | refine Below.setCell ?_ (by first | omega | (simp; done) | (simp; omega)) _))⟩

set_option maxHeartbeats 1000000 in
theorem radj_b2 (f1 f2 n all : Int) (w : World) (hb : boardB n all = true) (hn : n < 1) :
    Calls Tryd.prog 12 #[.agg #[.int .i64 f1, .int .i64 f2], .int .i64 n, .int .i64 all] w fun e w' => e = .returned (.tuple #[.agg #[.int .i64 0, .int .i64 0], .int .i64 2]) ∧ Below w.heap.size w w' := by
  have HB := Lib.hid (fun W => r21board n all W)
  rw [hb] at HB
  clear hb
  go_enter Tryd.func12, Tryd.ntmps12
  go_wp2_with fail
  refine (HB.out _).mono ?_
  rintro ee w1 ⟨rfl, rfl⟩
  go_wp2
  exact bodyPost_ret (v := .tuple #[.agg #[.int .i64 0, .int .i64 0], .int .i64 2]) (by simp [results, Tryd.results12, go_sem]) rfl ⟨rfl, (by repeat (first | exact Below.refl _ _ | assumption | refine Below.drew ?_ | refine below_drewN ?_ _ | refine Below.alloc ?_ (by first | omega | (simp; done) | (simp; omega)) _ | refine Below.setCell ?_ (by first | omega | (simp; done) | (simp; omega)) _))⟩

set_option maxRecDepth 100000 in
set_option maxHeartbeats 1000000 in
theorem radj_b3 (f1 f2 n all : Int) (w : World) (h1 : -9223372036854775808 ≤ f1 ∧ f1 ≤ 9223372036854775807) (h2 : -9223372036854775808 ≤ f2 ∧ f2 ≤ 9223372036854775807) (hb : boardB n all = true) (hn : 1 ≤ n) (hr : rightF (f1, f2) = false) :
    Calls Tryd.prog 12 #[.agg #[.int .i64 f1, .int .i64 f2], .int .i64 n, .int .i64 all] w fun e w' => e = .returned (.tuple #[.agg #[.int .i64 0, .int .i64 0], .int .i64 2]) ∧ Below w.heap.size w w' := by
  have HB := Lib.hid (fun W => r21board n all W)
  have HR := Lib.hid (fun W => r01right f1 f2 W h1 h2)
  rw [hb] at HB
  rw [hr] at HR
  have t1 : ¬ n < 1 := by omega
  clear hb hr hn h1 h2
  go_enter Tryd.func12, Tryd.ntmps12
  go_wp2_with fail
  refine (HB.out _).mono ?_
  rintro ee w1 ⟨rfl, rfl⟩
  go_wp2_with fail
  refine (HR.out _).mono ?_
  rintro ee w2 ⟨rfl, hb2⟩
  have k := blk_below (blk_new (w := w.alloc (.cells #[.int .i64 f1, .int .i64 f2] 23)) (.cells #[.int .i64 0, .int .i64 0] 23) rfl) hb2 (by simp)
  have kf := blk_below (blk_alloc (blk_new (w := w) (.cells #[.int .i64 f1, .int .i64 f2] 23) rfl) (.cells #[.int .i64 0, .int .i64 0] 23)) hb2 (by simp; omega)
  have hbz : Below w.heap.size w w2 := below_viaD (W1 := (w.alloc (.cells #[.int .i64 f1, .int .i64 f2] 23)).alloc (.cells #[.int .i64 0, .int .i64 0] 23)) (by repeat (first | exact Below.refl _ _ | assumption | refine Below.drew ?_ | refine below_drewN ?_ _ | refine Below.alloc ?_ (by first | omega | (simp; done) | (simp; omega)) _ | refine Below.setCell ?_ (by first | omega | (simp; done) | (simp; omega)) _)) hb2
  rw [show (w.alloc (.cells #[.int .i64 f1, .int .i64 f2] 23)).heap.size = w.heap.size + 1 by simp] at k
  have c0 := blk_cell k 0
  have c1 := blk_cell k 1
  have f0 := blk_free k 0
  have f1' := blk_free k 1
  have d0 := blk_cell kf 0
  have d1 := blk_cell kf 1
  go_wp2
  have z := blk_set (blk_set k 0 (.int .i64 0)) 1 (.int .i64 0)
  have z0 := blk_cell z 0
  have z1 := blk_cell z 1
  exact bodyPost_ret (v := .tuple #[.agg #[.int .i64 0, .int .i64 0], .int .i64 2]) (by simp [results, Tryd.results12, go_sem, z0, z1]) rfl ⟨rfl, (hbz.setCell (p := ⟨w.heap.size + 1, 0, none⟩) (Nat.le_succ _) _).setCell (p := ⟨w.heap.size + 1, 1, none⟩) (Nat.le_succ _) _⟩

set_option maxRecDepth 100000 in
set_option maxHeartbeats 1000000 in
theorem radj_b4 (f1 f2 n all : Int) (w : World) (h1 : -9223372036854775808 ≤ f1 ∧ f1 ≤ 9223372036854775807) (h2 : -9223372036854775808 ≤ f2 ∧ f2 ≤ 9223372036854775807) (hb : boardB n all = true) (hn : 1 ≤ n) (hr : rightF (f1, f2) = true) (t2 : f1 < 0) :
    Calls Tryd.prog 12 #[.agg #[.int .i64 f1, .int .i64 f2], .int .i64 n, .int .i64 all] w fun e w' => e = .returned (.tuple #[.agg #[.int .i64 0, .int .i64 0], .int .i64 2]) ∧ Below w.heap.size w w' := by
  have HB := Lib.hid (fun W => r21board n all W)
  have HR := Lib.hid (fun W => r01right f1 f2 W h1 h2)
  rw [hb] at HB
  rw [hr] at HR
  have t1 : ¬ n < 1 := by omega
  clear hb hr hn h1 h2
  go_enter Tryd.func12, Tryd.ntmps12
  go_wp2_with fail
  refine (HB.out _).mono ?_
  rintro ee w1 ⟨rfl, rfl⟩
  go_wp2_with fail
  refine (HR.out _).mono ?_
  rintro ee w2 ⟨rfl, hb2⟩
  have k := blk_below (blk_new (w := w.alloc (.cells #[.int .i64 f1, .int .i64 f2] 23)) (.cells #[.int .i64 0, .int .i64 0] 23) rfl) hb2 (by simp)
  have kf := blk_below (blk_alloc (blk_new (w := w) (.cells #[.int .i64 f1, .int .i64 f2] 23) rfl) (.cells #[.int .i64 0, .int .i64 0] 23)) hb2 (by simp; omega)
  have hbz : Below w.heap.size w w2 := below_viaD (W1 := (w.alloc (.cells #[.int .i64 f1, .int .i64 f2] 23)).alloc (.cells #[.int .i64 0, .int .i64 0] 23)) (by repeat (first | exact Below.refl _ _ | assumption | refine Below.drew ?_ | refine below_drewN ?_ _ | refine Below.alloc ?_ (by first | omega | (simp; done) | (simp; omega)) _ | refine Below.setCell ?_ (by first | omega | (simp; done) | (simp; omega)) _)) hb2
  rw [show (w.alloc (.cells #[.int .i64 f1, .int .i64 f2] 23)).heap.size = w.heap.size + 1 by simp] at k
  have c0 := blk_cell k 0
  have c1 := blk_cell k 1
  have f0 := blk_free k 0
  have f1' := blk_free k 1
  have d0 := blk_cell kf 0
  have d1 := blk_cell kf 1
  go_wp2
  have z := blk_set (blk_set k 0 (.int .i64 0)) 1 (.int .i64 0)
  have z0 := blk_cell z 0
  have z1 := blk_cell z 1
  exact bodyPost_ret (v := .tuple #[.agg #[.int .i64 0, .int .i64 0], .int .i64 2]) (by simp [results, Tryd.results12, go_sem, z0, z1]) rfl ⟨rfl, (hbz.setCell (p := ⟨w.heap.size + 1, 0, none⟩) (Nat.le_succ _) _).setCell (p := ⟨w.heap.size + 1, 1, none⟩) (Nat.le_succ _) _⟩

set_option maxRecDepth 100000 in
set_option maxHeartbeats 1000000 in
theorem radj_b5 (f1 f2 n all : Int) (w : World) (h1 : -9223372036854775808 ≤ f1 ∧ f1 ≤ 9223372036854775807) (h2 : -9223372036854775808 ≤ f2 ∧ f2 ≤ 9223372036854775807) (hb : boardB n all = true) (hn : 1 ≤ n) (hr : rightF (f1, f2) = true) (hp : 0 ≤ f1) (t3 : 10000 < f2) :
    Calls Tryd.prog 12 #[.agg #[.int .i64 f1, .int .i64 f2], .int .i64 n, .int .i64 all] w fun e w' => e = .returned (.tuple #[.agg #[.int .i64 0, .int .i64 0], .int .i64 2]) ∧ Below w.heap.size w w' := by
  have HB := Lib.hid (fun W => r21board n all W)
  have HR := Lib.hid (fun W => r01right f1 f2 W h1 h2)
  rw [hb] at HB
  rw [hr] at HR
  have t1 : ¬ n < 1 := by omega
  have t2 : ¬ f1 < 0 := by omega
  clear hp
  clear hb hr hn h1 h2
  go_enter Tryd.func12, Tryd.ntmps12
  go_wp2_with fail
  refine (HB.out _).mono ?_
  rintro ee w1 ⟨rfl, rfl⟩
  go_wp2_with fail
  refine (HR.out _).mono ?_
  rintro ee w2 ⟨rfl, hb2⟩
  have k := blk_below (blk_new (w := w.alloc (.cells #[.int .i64 f1, .int .i64 f2] 23)) (.cells #[.int .i64 0, .int .i64 0] 23) rfl) hb2 (by simp)
  have kf := blk_below (blk_alloc (blk_new (w := w) (.cells #[.int .i64 f1, .int .i64 f2] 23) rfl) (.cells #[.int .i64 0, .int .i64 0] 23)) hb2 (by simp; omega)
  have hbz : Below w.heap.size w w2 := below_viaD (W1 := (w.alloc (.cells #[.int .i64 f1, .int .i64 f2] 23)).alloc (.cells #[.int .i64 0, .int .i64 0] 23)) (by repeat (first | exact Below.refl _ _ | assumption | refine Below.drew ?_ | refine below_drewN ?_ _ | refine Below.alloc ?_ (by first | omega | (simp; done) | (simp; omega)) _ | refine Below.setCell ?_ (by first | omega | (simp; done) | (simp; omega)) _)) hb2
  rw [show (w.alloc (.cells #[.int .i64 f1, .int .i64 f2] 23)).heap.size = w.heap.size + 1 by simp] at k
  have c0 := blk_cell k 0
  have c1 := blk_cell k 1
  have f0 := blk_free k 0
  have f1' := blk_free k 1
  have d0 := blk_cell kf 0
  have d1 := blk_cell kf 1
  go_wp2
  have z := blk_set (blk_set k 0 (.int .i64 0)) 1 (.int .i64 0)
  have z0 := blk_cell z 0
  have z1 := blk_cell z 1
  exact bodyPost_ret (v := .tuple #[.agg #[.int .i64 0, .int .i64 0], .int .i64 2]) (by simp [results, Tryd.results12, go_sem, z0, z1]) rfl ⟨rfl, (hbz.setCell (p := ⟨w.heap.size + 1, 0, none⟩) (Nat.le_succ _) _).setCell (p := ⟨w.heap.size + 1, 1, none⟩) (Nat.le_succ _) _⟩

end Go.Proofs.YtlobdeakgoicpaaDoor
