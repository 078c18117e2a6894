/- The walks of the steps of package neuberg. -/
import Derived.Test.YtgfnggdjjigomaaDoorNeuLaw
import Derived.Test.YtgfnggdjjigomaaDoorFracMulW
namespace Go.Proofs.YtgfnggdjjigomaaDoor
open Go.RowKit

set_option maxHeartbeats 1000000 in
theorem ntimes1 (f : Pt) (n d : Int) (g h : Nat) (w : World) (hg : w.cell? ⟨g, 0, none⟩ = some (.int .i64 n)) (hh : w.cell? ⟨h, 0, none⟩ = some (.int .i64 d)) (hf : smF f) (hn : 0 ≤ n ∧ n ≤ 1000) (hd : 1 ≤ d ∧ d ≤ 1000) :
    Calls Tryd.prog 85 #[fV f, .pointer (some ⟨g, 0, none⟩), .pointer (some ⟨h, 0, none⟩)] w fun e w' => e = .returned (.tuple #[fV (mulF f (fr n d)), .int .i64 0]) ∧ Below w.heap.size w w' := by
  have HM := Lib.hid (fun W => make_pos n d W (by omega) (by omega))
  have HA := Lib.hid (fun W => fmul_sm f (fr n d) hf (sm_frD n d (by omega) (by omega)) W)
  have hgl : g < w.heap.size := World.block_lt_of_cell? w ⟨g, 0, none⟩ hg
  have hhl : h < w.heap.size := World.block_lt_of_cell? w ⟨h, 0, none⟩ hh
  generalize mulF f (fr n d) = r at *
  generalize fr n d = q at *
  obtain ⟨f1, f2⟩ := f
  obtain ⟨r1, r2⟩ := r
  obtain ⟨q1, q2⟩ := q
  unfold fV at *
  dsimp only at *
  clear hf
  go_enter Tryd.func85, Tryd.ntmps85
  go_upto_region 1 with fail
  obtain ⟨W0, hW0⟩ : ∃ W0, ((w.alloc (.cells #[.int .i64 f1, .int .i64 f2] 40)).alloc (.cells #[.int .i64 0, .int .i64 0] 40)) = W0 := ⟨_, rfl⟩
  have hB0 : Below w.heap.size w W0 := by rw [← hW0]; exact (by repeat (first | exact Below.refl _ _ | assumption | refine Below.drew ?_ | refine below_drewN ?_ _ | refine Below.alloc ?_ (by first | omega | (simp; done) | (simp; omega)) _ | refine Below.setCell ?_ (by first | omega | (simp; done) | (simp; omega)) _))
  have k0 : W0.heap[w.heap.size]? = some (.cells #[.int .i64 f1, .int .i64 f2] 40) := by rw [← hW0]; exact blk_alloc (blk_new _ rfl) _
  have k1 : W0.heap[w.heap.size + 1]? = some (.cells #[.int .i64 0, .int .i64 0] 40) := by rw [← hW0]; exact blk_new _ (by simp)
  have s0 : W0.heap.size = w.heap.size + 2 := by rw [← hW0]; simp
  (try rw [hW0])
  clear hW0
  have cg := keepB hB0 hgl hg
  have ch := keepB hB0 hhl hh
  go_wp2_with fail
  refine (HM.out _).mono ?_
  rintro ee W1 ⟨rfl, hb1⟩
  have hb2 : Below W0.heap.size W0 (W1.alloc (.cells #[.int .i64 q1, .int .i64 q2] 40)) := hb1.alloc hb1.size _
  have m0 := blk_below k0 hb2 (by omega)
  have m1 := blk_below k1 hb2 (by omega)
  have m2 : (W1.alloc (.cells #[.int .i64 q1, .int .i64 q2] 40)).heap[W1.heap.size]? = some (.cells #[.int .i64 q1, .int .i64 q2] 40) := blk_new _ rfl
  have s2 := hb2.size
  obtain ⟨G, hG⟩ : ∃ G, W1.heap.size = G := ⟨_, rfl⟩
  go_upto_region 2 with fail
  rw [hG] at m2
  (try rw [hG])
  clear hG hb1
  generalize W1.alloc (.cells #[.int .i64 q1, .int .i64 q2] 40) = W2 at hb2 m0 m1 m2 s2 ⊢
  have c0 := blk_cell m0 0
  have c1 := blk_cell m0 1
  have c4 := blk_cell m2 0
  have c5 := blk_cell m2 1
  go_wp2_with fail
  refine (HA.out _).mono ?_
  rintro ee W3 ⟨rfl, hb3⟩
  have m1 := blk_below m1 hb3 (by omega)
  have c2 := blk_cell m1 0
  have c3 := blk_cell m1 1
  have f2' := blk_free m1 0
  have f3' := blk_free m1 1
  have hB1 := (hB0.trans (hb2.mono hB0.size)).trans (hb3.mono (by omega))
  go_wp2
  exact bodyPost_ret (v := .tuple #[.agg #[.int .i64 r1, .int .i64 r2], .int .i64 0]) (by simp [results, Tryd.results85, go_sem, c2, c3]) rfl ⟨rfl, (hB1.setCell (by show _ ≤ w.heap.size + 1; omega) _).setCell (by show _ ≤ w.heap.size + 1; omega) _⟩

theorem ntimes (n d : Int) (w : World) : Calls Tryd.prog 63 #[.int .i64 n, .int .i64 d] w fun e w' => e = .returned (.func (.func 85) #[] #[.pointer (some ⟨w.heap.size, 0, none⟩), .pointer (some ⟨w.heap.size + 1, 0, none⟩)]) ∧ w' = (w.alloc (.cells #[.int .i64 n] 3)).alloc (.cells #[.int .i64 d] 3) := by
  go_enter Tryd.func63, Tryd.ntmps63
  go_wp2
  go_ret
  exact ⟨rfl, rfl⟩

end Go.Proofs.YtgfnggdjjigomaaDoor
