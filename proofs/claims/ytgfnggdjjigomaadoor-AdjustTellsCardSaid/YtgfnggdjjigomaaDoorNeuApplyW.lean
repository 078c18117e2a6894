/- The walk of neuberg.apply: over the three steps of Adjust, and over one step. (Written by gennapply.py.) -/
import Derived.Test.YtgfnggdjjigomaaDoorNeuW
namespace Go.Proofs.YtgfnggdjjigomaaDoor
open Go.RowKit

set_option maxHeartbeats 2000000 in
theorem napply1 (v0 v1 : Pt) (n1 n2 : Int) (b t g1 g2 : Nat) (w : World) (hs : w.heap[b]? = some (.cells #[Value.func (.func 85) #[] #[.pointer (some ⟨g1, 0, none⟩), .pointer (some ⟨g2, 0, none⟩)]] t (0, 0))) (c0 : w.cell? ⟨g1, 0, none⟩ = some (.int .i64 n1)) (d0 : w.cell? ⟨g2, 0, none⟩ = some (.int .i64 n2)) (e1 : v1 = mulF v0 (fr n1 n2)) (s0 : smF v0) (w0 : (0 ≤ n1 ∧ n1 ≤ 1000) ∧ 1 ≤ n2 ∧ n2 ≤ 1000) :
    Calls Tryd.prog 62 #[fV v0, .slice (some ⟨b, 0, none⟩) 1 1] w fun e w' => e = .returned (.tuple #[fV v1, .int .i64 0]) ∧ Below w.heap.size w w' := by
  have hbl := blk_lt hs
  have HS0 := Lib.hid (fun (W : World) (hW : Below w.heap.size w W) => ntimes1 v0 n1 n2 g1 g2 W ((hW.cell (p := ⟨g1, 0, none⟩) (World.block_lt_of_cell? w _ c0)).trans c0) ((hW.cell (p := ⟨g2, 0, none⟩) (World.block_lt_of_cell? w _ d0)).trans d0) s0 w0.1 w0.2)
  rw [← e1] at HS0
  have Hs := Lib.hid hs
  clear hs c0 d0 e1 s0 w0
  obtain ⟨x0, y0⟩ := v0
  obtain ⟨x1, y1⟩ := v1
  unfold fV at *
  dsimp only at *
  go_enter Tryd.func62, Tryd.ntmps62
  go_wp2_with fail
  obtain ⟨W0, hW0⟩ : ∃ W0, ((w.alloc (.cells #[.int .i64 x0, .int .i64 y0] 40)).alloc (.cells #[.int .i64 0, .int .i64 0] 40)) = W0 := ⟨_, rfl⟩
  have hB0 : Below w.heap.size w W0 := by rw [← hW0]; exact (by repeat (first | exact Below.refl _ _ | assumption | refine Below.drew ?_ | refine below_drewN ?_ _ | refine Below.alloc ?_ (by first | omega | (simp; done) | (simp; omega)) _ | refine Below.setCell ?_ (by first | omega | (simp; done) | (simp; omega)) _))
  have k0 : W0.heap[w.heap.size]? = some (.cells #[.int .i64 x0, .int .i64 y0] 40) := by rw [← hW0]; exact blk_alloc (blk_new _ rfl) _
  have k1 : W0.heap[w.heap.size + 1]? = some (.cells #[.int .i64 0, .int .i64 0] 40) := by rw [← hW0]; exact blk_new _ (by simp)
  have s0 : W0.heap.size = w.heap.size + 2 := by rw [← hW0]; simp
  (try rw [hW0])
  clear hW0
  go_loopw [12] (fun i wr => ∃ (k : Nat) (x y : Int), k ≤ 1 ∧ i = .int .i64 (k : Int) ∧ Hid ([(x0, y0), (x1, y1)][k]? = some (x, y)) ∧ wr.heap[w.heap.size]? = some (.cells #[.int .i64 x, .int .i64 y] 40) ∧ wr.heap[w.heap.size + 1]? = some (.cells #[.int .i64 0, .int .i64 0] 40) ∧ Below w.heap.size w wr) (fun i _ => 1 - (intOf i).toNat)
  case atStart => exact ⟨0, x0, y0, by omega, rfl, rfl, k0, k1, hB0⟩
  case round =>
    obtain ⟨k, x, y, hk, rfl, hv, j0, j1, hbel⟩ := hrel
    have hsr := hbel.size
    have jl := blk_lt j1
    by_cases hlt : k < 1
    · have hv := hv.out
      have hst := blk_below Hs.out hbel hbl
      obtain rfl : k = 0 := by omega
      obtain ⟨rfl, rfl⟩ : x0 = x ∧ y0 = y := by have h := Option.some.inj hv; exact ⟨congrArg Prod.fst h, congrArg Prod.snd h⟩
      have q0 : wr.cell? ⟨b, 0, none⟩ = _ := blk_cell hst 0
      have q1 := blk_cell j0 0
      have q2 := blk_cell j0 1
      go_wp2_with fail
      refine (HS0.out _ hbel).mono ?_
      rintro ee wa ⟨rfl, hba⟩
      have hb2 : Below wr.heap.size wr (wa.alloc (.cells #[.int .i64 x1, .int .i64 y1] 40)) := hba.alloc hba.size _
      have m0 := blk_below j0 hb2 (by omega)
      have m1 := blk_below j1 hb2 jl
      have m2 : (wa.alloc (.cells #[.int .i64 x1, .int .i64 y1] 40)).heap[wa.heap.size]? = some (.cells #[.int .i64 x1, .int .i64 y1] 40) := blk_new _ rfl
      have hB2 := hbel.trans (hb2.mono hsr)
      go_upto_region 5 with fail
      generalize wa.alloc (.cells #[.int .i64 x1, .int .i64 y1] 40) = W2 at hb2 m0 m1 m2 hB2 ⊢
      have c0 := blk_cell m0 0
      have c1 := blk_cell m0 1
      have g0 := blk_free m0 0
      have g1 := blk_free m0 1
      have c4 := blk_cell m2 0
      have c5 := blk_cell m2 1
      go_wp2
      go_roundw
      case rel => exact ⟨1, x1, y1, by omega, by go_num, rfl, blk_set (blk_set m0 0 _) 1 _, blk_far (blk_far m1 (by show w.heap.size + 1 ≠ w.heap.size; omega) _) (by show w.heap.size + 1 ≠ w.heap.size; omega) _, (hB2.setCell (Nat.le_refl _) _).setCell (Nat.le_refl _) _⟩
      case measure => simp [intOf]
    · have t0 : decide ((k : Int) < 1) = false := decide_eq_false (by omega)
      obtain rfl : k = 1 := by omega
      obtain ⟨rfl, rfl⟩ : x1 = x ∧ y1 = y := by have h := Option.some.inj hv.out; exact ⟨congrArg Prod.fst h, congrArg Prod.snd h⟩
      have c0 := blk_cell j0 0
      have c1 := blk_cell j0 1
      have c2 := blk_cell j1 0
      have c3 := blk_cell j1 1
      have g0 := blk_free j1 0
      have g1 := blk_free j1 1
      go_wp2
      exact bodyPost_ret (v := .tuple #[.agg #[.int .i64 x1, .int .i64 y1], .int .i64 0]) (by simp [results, Tryd.results62, go_sem, c2, c3]) rfl ⟨rfl, (hbel.setCell (by show _ ≤ w.heap.size + 1; omega) _).setCell (by show _ ≤ w.heap.size + 1; omega) _⟩

end Go.Proofs.YtgfnggdjjigomaaDoor
