/- The walk of neuberg.Adjust for matchpoints that are right. -/
import Derived.Test.YtlobdeakgoicpaaDoorNeuApplyW
namespace Go.Proofs.YtlobdeakgoicpaaDoor
open Go.RowKit

theorem nboard (n : Int) (w : World) : Calls Tryd.prog 33 #[.int .i64 n] w fun e w' => e = .returned (.bool (decide (1 ≤ n ∧ n ≤ 24))) ∧ w' = w := by
  go_enter Tryd.func33, Tryd.ntmps33
  by_cases h1 : 1 ≤ n
  · by_cases h2 : n ≤ 24
    · have t1 : decide (n ≥ 1) = true := decide_eq_true h1
      have t2 : decide (n ≤ 24) = true := decide_eq_true h2
      have t3 : decide (1 ≤ n ∧ n ≤ 24) = true := decide_eq_true ⟨h1, h2⟩
      rw [t3]
      go_wp2
      go_ret
      exact ⟨rfl, rfl⟩
    · have t1 : decide (n ≥ 1) = true := decide_eq_true h1
      have t2 : decide (n ≤ 24) = false := decide_eq_false h2
      have t3 : decide (1 ≤ n ∧ n ≤ 24) = false := decide_eq_false (fun h => h2 h.2)
      rw [t3]
      go_wp2
      go_ret
      exact ⟨rfl, rfl⟩
  · have t1 : decide (n ≥ 1) = false := decide_eq_false h1
    have t3 : decide (1 ≤ n ∧ n ≤ 24) = false := decide_eq_false (fun h => h1 h.1)
    rw [t3]
    go_wp2
    go_ret
    exact ⟨rfl, rfl⟩

set_option maxHeartbeats 2000000 in
theorem nadjust (f : Pt) (n all : Int) (w : World) (hn : 1 ≤ n ∧ n ≤ all) (ha : all ≤ 24) (hf : 1 ≤ f.2 ∧ f.2 ≤ 10000 ∧ 0 ≤ f.1 ∧ f.1 ≤ 2 * (n - 1) * f.2) (s0 : smF f) (s1 : smF (addF f (1, 1))) (s2 : smF (mulF (addF f (1, 1)) (fr all n))) :
    Calls Tryd.prog 11 #[fV f, .int .i64 n, .int .i64 all] w fun e w' => e = .returned (.tuple #[fV (adjF f n all), .int .i64 0]) ∧ Below w.heap.size w w' := by
  have HB := Lib.hid (fun W => nboard all W)
  rw [decide_eq_true (show 1 ≤ all ∧ all ≤ 24 by omega)] at HB
  have HR := Lib.hid (fun W => right_sm f s0 W)
  have w1 := sm_whole 1 (by omega)
  have w2 := sm_whole (-1) (by omega)
  have HA := Lib.hid (fun (W : World) (b t g1 g2 g3 g4 : Nat) hs c0 c1 d1 c2 => napply3 f (addF f (1, 1)) (mulF (addF f (1, 1)) (fr all n)) (adjF f n all) 1 all n (-1) b t g1 g2 g3 g4 W hs c0 c1 d1 c2 rfl rfl rfl s0 s1 s2 w1 ⟨by omega, by omega⟩ w2)
  obtain ⟨T, hT⟩ : ∃ T : Int, (if n < 1 then 0 else 2 * (n - 1)) = T := ⟨_, rfl⟩
  have HT := Lib.hid (fun W => topN_any n W (by omega))
  rw [hT] at HT
  rw [if_neg (by omega)] at hT
  rw [hT] at hf
  generalize adjF f n all = r at *
  generalize mulF (addF f (1, 1)) (fr all n) = r2 at *
  generalize addF f (1, 1) = r1 at *
  obtain ⟨f1, f2⟩ := f
  obtain ⟨x, y⟩ := r
  unfold fV at *
  dsimp only at *
  obtain ⟨p, hp⟩ : ∃ p, T * f2 = p := ⟨_, rfl⟩
  rw [hp] at hf
  have hpb : p ≤ 1000000 := by
    rw [← hp]
    have := Int.mul_le_mul (show T ≤ 46 by omega) hf.2.1 (by omega) (by omega)
    omega
  have t1 : decide (n < 1) = false := decide_eq_false (by omega)
  have t2 : decide (n > all) = false := decide_eq_false (by omega)
  have t3 : decide (f2 > 10000) = false := decide_eq_false (by omega)
  have t4 : decide (f1 < 0) = false := decide_eq_false (by omega)
  have t5 : decide (f1 > p) = false := decide_eq_false (by omega)
  have t6 : IntKind.i64.wrap (T * f2) = p := by rw [hp]; exact IntWalk.i64_in _ (by omega)
  have t2' : decide (all < n) = false := decide_eq_false (by omega)
  have t3' : decide (10000 < f2) = false := decide_eq_false (by omega)
  have t5' : decide (p < f1) = false := decide_eq_false (by omega)
  have T6 := Lib.hid t6
  clear t6 hp hT s0 s1 s2 w1 w2
  go_enter Tryd.func11, Tryd.ntmps11
  go_upto_region 1 with fail
  obtain ⟨W0, hW0⟩ : ∃ W0, ((w.alloc (.cells #[.int .i64 f1, .int .i64 f2] 23)).alloc (.cells #[.int .i64 0, .int .i64 0] 23)) = W0 := ⟨_, rfl⟩
  have hB0 : Below w.heap.size w W0 := by rw [← hW0]; exact (by repeat (first | exact Below.refl _ _ | assumption | refine Below.drew ?_ | refine below_drewN ?_ _ | refine Below.alloc ?_ (by first | omega | (simp; done) | (simp; omega)) _ | refine Below.setCell ?_ (by first | omega | (simp; done) | (simp; omega)) _))
  have k0 : W0.heap[w.heap.size]? = some (.cells #[.int .i64 f1, .int .i64 f2] 23) := by rw [← hW0]; exact blk_alloc (blk_new _ rfl) _
  have k1 : W0.heap[w.heap.size + 1]? = some (.cells #[.int .i64 0, .int .i64 0] 23) := by rw [← hW0]; exact blk_new _ (by simp)
  have s0 : W0.heap.size = w.heap.size + 2 := by rw [← hW0]; simp
  (try rw [hW0])
  clear hW0
  have c0 := blk_cell k0 0
  have c1 := blk_cell k0 1
  go_wp2_with fail
  refine (HB.out _).mono ?_
  rintro ee we ⟨rfl, rfl⟩
  go_wp2_with fail
  refine (HR.out _).mono ?_
  rintro ee W1 ⟨rfl, hb1⟩
  have m0 := blk_below k0 hb1 (by omega)
  have m1 := blk_below k1 hb1 (by omega)
  have c0 := blk_cell m0 0
  have c1 := blk_cell m0 1
  have hB1 := hB0.trans (hb1.mono hB0.size)
  have sz1 := hb1.size
  go_upto_region 3 with fail
  have t6 := T6.out
  go_region_held3 (fun w' => w'.cell? ⟨w.heap.size, 0, none⟩ = some (.int .i64 f1) ∧ w'.cell? ⟨w.heap.size, 1, none⟩ = some (.int .i64 f2)) ((first | exact ⟨c0, c1⟩))
    ((go_at_call 35; (with_reducible refine (HT.out _).mono ?_); rintro ee we ⟨rfl, rfl⟩))
  clear t6
  go_upto_region 5 with fail
  obtain ⟨WX, hWX⟩ : ∃ WX, (((((W1.alloc (.cells #[.int .i64 1] 3)).alloc (.cells #[.int .i64 all] 3)).alloc (.cells #[.int .i64 n] 3)).alloc (.cells #[.int .i64 (-1)] 3)).alloc (.cells #[.func (.func 61) #[] #[.pointer (some ⟨W1.heap.size, 0, none⟩)], .func (.func 62) #[] #[.pointer (some ⟨W1.heap.size + 1, 0, none⟩), .pointer (some ⟨W1.heap.size + 1 + 1, 0, none⟩)], .func (.func 61) #[] #[.pointer (some ⟨W1.heap.size + 1 + 1 + 1, 0, none⟩)]] 70)) = WX := ⟨_, rfl⟩
  have x0 : WX.heap[W1.heap.size]? = some (.cells #[.int .i64 1] 3) := by rw [← hWX]; exact blk_alloc (blk_alloc (blk_alloc (blk_alloc (blk_new _ rfl) _) _) _) _
  have x1 : WX.heap[W1.heap.size + 1]? = some (.cells #[.int .i64 all] 3) := by rw [← hWX]; exact blk_alloc (blk_alloc (blk_alloc (blk_new _ (by simp)) _) _) _
  have x2 : WX.heap[W1.heap.size + 1 + 1]? = some (.cells #[.int .i64 n] 3) := by rw [← hWX]; exact blk_alloc (blk_alloc (blk_new _ (by simp)) _) _
  have x3 : WX.heap[W1.heap.size + 1 + 1 + 1]? = some (.cells #[.int .i64 (-1)] 3) := by rw [← hWX]; exact blk_alloc (blk_new _ (by simp)) _
  have x4 : WX.heap[W1.heap.size + 1 + 1 + 1 + 1]? = some (.cells #[.func (.func 61) #[] #[.pointer (some ⟨W1.heap.size, 0, none⟩)], .func (.func 62) #[] #[.pointer (some ⟨W1.heap.size + 1, 0, none⟩), .pointer (some ⟨W1.heap.size + 1 + 1, 0, none⟩)], .func (.func 61) #[] #[.pointer (some ⟨W1.heap.size + 1 + 1 + 1, 0, none⟩)]] 70) := by rw [← hWX]; exact blk_new _ (by simp)
  have hBX : Below W1.heap.size W1 WX := by rw [← hWX]; exact (by repeat (first | exact Below.refl _ _ | assumption | refine Below.drew ?_ | refine below_drewN ?_ _ | refine Below.alloc ?_ (by first | omega | (simp; done) | (simp; omega)) _ | refine Below.setCell ?_ (by first | omega | (simp; done) | (simp; omega)) _))
  have HX := HA.out WX.drew.drew _ _ _ _ _ _ x4 (blk_cell x0 0) (blk_cell x1 0) (blk_cell x2 0) (blk_cell x3 0)
  have HX2 := HX.mono fun ee wa (h : ee = .returned (.tuple #[.agg #[.int .i64 x, .int .i64 y], .int .i64 0]) ∧ Below WX.drew.drew.heap.size WX.drew.drew wa) =>
    (show ee = .returned (.tuple #[.agg #[.int .i64 x, .int .i64 y], .int .i64 0]) ∧ Below w.heap.size w wa ∧ wa.cell? ⟨w.heap.size, 0, none⟩ = some (.int .i64 f1) ∧ wa.cell? ⟨w.heap.size, 1, none⟩ = some (.int .i64 f2) ∧ wa.cell? ⟨w.heap.size + 1, 0, none⟩ = some (.int .i64 0) ∧ wa.cell? ⟨w.heap.size + 1, 1, none⟩ = some (.int .i64 0) ∧ wa.frozen? ⟨w.heap.size + 1, 0, none⟩ = false ∧ wa.frozen? ⟨w.heap.size + 1, 1, none⟩ = false from
      have hb : Below W1.heap.size W1 wa := hBX.drew.drew.trans (h.2.mono hBX.size)
      have a0 := blk_below m0 hb (by omega)
      have a1 := blk_below m1 hb (by omega)
      ⟨h.1, hB1.trans (hb.mono hB1.size), blk_cell a0 0, blk_cell a0 1, blk_cell a1 0, blk_cell a1 1, blk_free a1 0, blk_free a1 1⟩)
  rw [← hWX] at HX2
  have HX3 := Lib.hid HX2
  have HK := Lib.hid (fun (w' : World) (h : ∀ (p : Addr) (v : Value), W1.cell? p = some v → w'.cell? p = some v) => (show w'.cell? ⟨w.heap.size, 0, none⟩ = some (.int .i64 f1) ∧ w'.cell? ⟨w.heap.size, 1, none⟩ = some (.int .i64 f2) from ⟨h _ _ c0, h _ _ c1⟩))
  have ne0 : w.heap.size + 1 ≠ w.heap.size := by omega
  clear HX HX2 hWX x0 x1 x2 x3 x4 hBX HA HB HR HT hf hn ha t1 t2 t3 t4 t5 t2' t3' t5' hpb
  go_region_held3 (fun w' => w'.cell? ⟨w.heap.size, 0, none⟩ = some (.int .i64 f1) ∧ w'.cell? ⟨w.heap.size, 1, none⟩ = some (.int .i64 f2)) ((first | exact ⟨keepS (keepS hk0 ne0 _) ne0 _, keepS (keepS hk1 ne0 _) ne0 _⟩ | exact ⟨hk0, hk1⟩ | exact HK.out _ (fun p v h => h) | exact HK.out _ (fun p v h => keepC h _) | exact HK.out _ (fun p v h => keepC (keepC (keepC h _) _) _) | exact HK.out _ (fun p v h => keepC (keepC (keepC (keepC h _) _) _) _) | exact HK.out _ (fun p v h => keepC (keepC (keepC (keepC (keepC h _) _) _) _) _)))
    ((first
      | (go_at_call 37; (with_reducible refine (nplus _ _).mono ?_); rintro ee we ⟨rfl, rfl⟩)
      | (go_at_call 38; (with_reducible refine (ntimes _ _ _).mono ?_); rintro ee we ⟨rfl, rfl⟩)
      | (go_at_call 36; refine HX3.out.mono ?_; rintro ee wa ⟨rfl, hBa, hk0, hk1, hc2, hc3, hf2, hf3⟩)))
  go_wp2
  exact bodyPost_ret (v := .tuple #[.agg #[.int .i64 x, .int .i64 y], .int .i64 0]) (by simp [results, Tryd.results11, go_sem, hc2, hc3]) rfl ⟨rfl, (hBa.setCell (by show _ ≤ w.heap.size + 1; omega) _).setCell (by show _ ≤ w.heap.size + 1; omega) _⟩

end Go.Proofs.YtlobdeakgoicpaaDoor
