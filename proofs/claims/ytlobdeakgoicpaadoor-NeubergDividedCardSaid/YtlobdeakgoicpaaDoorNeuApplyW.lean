/- The walk of neuberg.apply: over the three steps of Adjust, and over one step. (Written by gennapply.py.) -/
import Derived.Test.YtlobdeakgoicpaaDoorNeuW
namespace Go.Proofs.YtlobdeakgoicpaaDoor
open Go.RowKit

set_option maxHeartbeats 2000000 in
theorem napply3 (v0 v1 v2 v3 : Pt) (n1 n2 n3 n4 : Int) (b t g1 g2 g3 g4 : Nat) (w : World) (hs : w.heap[b]? = some (.cells #[Value.func (.func 61) #[] #[.pointer (some ⟨g1, 0, none⟩)], Value.func (.func 62) #[] #[.pointer (some ⟨g2, 0, none⟩), .pointer (some ⟨g3, 0, none⟩)], Value.func (.func 61) #[] #[.pointer (some ⟨g4, 0, none⟩)]] t (0, 0))) (c0 : w.cell? ⟨g1, 0, none⟩ = some (.int .i64 n1)) (c1 : w.cell? ⟨g2, 0, none⟩ = some (.int .i64 n2)) (d1 : w.cell? ⟨g3, 0, none⟩ = some (.int .i64 n3)) (c2 : w.cell? ⟨g4, 0, none⟩ = some (.int .i64 n4)) (e1 : v1 = addF v0 (n1, 1)) (e2 : v2 = mulF v1 (fr n2 n3)) (e3 : v3 = addF v2 (n4, 1)) (s0 : smF v0) (s1 : smF v1) (s2 : smF v2) (w0 : smF (n1, 1)) (w1 : (0 ≤ n2 ∧ n2 ≤ 1000) ∧ 1 ≤ n3 ∧ n3 ≤ 1000) (w2 : smF (n4, 1)) :
    Calls Tryd.prog 36 #[fV v0, .slice (some ⟨b, 0, none⟩) 3 3] w fun e w' => e = .returned (.tuple #[fV v3, .int .i64 0]) ∧ Below w.heap.size w w' := by
  have hbl := blk_lt hs
  have HS0 := Lib.hid (fun (W : World) (hW : Below w.heap.size w W) => nplus1 v0 n1 g1 W ((hW.cell (p := ⟨g1, 0, none⟩) (World.block_lt_of_cell? w _ c0)).trans c0) s0 w0)
  rw [← e1] at HS0
  have HS1 := Lib.hid (fun (W : World) (hW : Below w.heap.size w W) => ntimes1 v1 n2 n3 g2 g3 W ((hW.cell (p := ⟨g2, 0, none⟩) (World.block_lt_of_cell? w _ c1)).trans c1) ((hW.cell (p := ⟨g3, 0, none⟩) (World.block_lt_of_cell? w _ d1)).trans d1) s1 w1.1 w1.2)
  rw [← e2] at HS1
  have HS2 := Lib.hid (fun (W : World) (hW : Below w.heap.size w W) => nplus1 v2 n4 g4 W ((hW.cell (p := ⟨g4, 0, none⟩) (World.block_lt_of_cell? w _ c2)).trans c2) s2 w2)
  rw [← e3] at HS2
  have Hs := Lib.hid hs
  clear hs c0 e1 s0 w0 c1 d1 e2 s1 w1 c2 e3 s2 w2
  obtain ⟨x0, y0⟩ := v0
  obtain ⟨x1, y1⟩ := v1
  obtain ⟨x2, y2⟩ := v2
  obtain ⟨x3, y3⟩ := v3
  unfold fV at *
  dsimp only at *
  go_enter Tryd.func36, Tryd.ntmps36
  go_wp2_with fail
  obtain ⟨W0, hW0⟩ : ∃ W0, ((w.alloc (.cells #[.int .i64 x0, .int .i64 y0] 23)).alloc (.cells #[.int .i64 0, .int .i64 0] 23)) = W0 := ⟨_, rfl⟩
  have hB0 : Below w.heap.size w W0 := by rw [← hW0]; exact (by repeat (first | exact Below.refl _ _ | assumption | refine Below.drew ?_ | refine below_drewN ?_ _ | refine Below.alloc ?_ (by first | omega | (simp; done) | (simp; omega)) _ | refine Below.setCell ?_ (by first | omega | (simp; done) | (simp; omega)) _))
  have k0 : W0.heap[w.heap.size]? = some (.cells #[.int .i64 x0, .int .i64 y0] 23) := by rw [← hW0]; exact blk_alloc (blk_new _ rfl) _
  have k1 : W0.heap[w.heap.size + 1]? = some (.cells #[.int .i64 0, .int .i64 0] 23) := by rw [← hW0]; exact blk_new _ (by simp)
  have s0 : W0.heap.size = w.heap.size + 2 := by rw [← hW0]; simp
  (try rw [hW0])
  clear hW0
  go_loopw [12] (fun i wr => ∃ (k : Nat) (x y : Int), k ≤ 3 ∧ i = .int .i64 (k : Int) ∧ Hid ([(x0, y0), (x1, y1), (x2, y2), (x3, y3)][k]? = some (x, y)) ∧ wr.heap[w.heap.size]? = some (.cells #[.int .i64 x, .int .i64 y] 23) ∧ wr.heap[w.heap.size + 1]? = some (.cells #[.int .i64 0, .int .i64 0] 23) ∧ Below w.heap.size w wr) (fun i _ => 3 - (intOf i).toNat)
  case atStart => exact ⟨0, x0, y0, by omega, rfl, rfl, k0, k1, hB0⟩
  case round =>
    obtain ⟨k, x, y, hk, rfl, hv, j0, j1, hbel⟩ := hrel
    have hsr := hbel.size
    have jl := blk_lt j1
    by_cases hlt : k < 3
    · have hv := hv.out
      have hst := blk_below Hs.out hbel hbl
      rcases (show k = 0 ∨ k = 1 ∨ k = 2 by omega) with rfl | rfl | rfl
      · obtain ⟨rfl, rfl⟩ : x0 = x ∧ y0 = y := by have h := Option.some.inj hv; exact ⟨congrArg Prod.fst h, congrArg Prod.snd h⟩
        have q0 : wr.cell? ⟨b, 0, none⟩ = _ := blk_cell hst 0
        have q1 := blk_cell j0 0
        have q2 := blk_cell j0 1
        go_wp2_with fail
        refine (HS0.out _ hbel).mono ?_
        rintro ee wa ⟨rfl, hba⟩
        have hb2 : Below wr.heap.size wr (wa.alloc (.cells #[.int .i64 x1, .int .i64 y1] 23)) := hba.alloc hba.size _
        have m0 := blk_below j0 hb2 (by omega)
        have m1 := blk_below j1 hb2 jl
        have m2 : (wa.alloc (.cells #[.int .i64 x1, .int .i64 y1] 23)).heap[wa.heap.size]? = some (.cells #[.int .i64 x1, .int .i64 y1] 23) := blk_new _ rfl
        have hB2 := hbel.trans (hb2.mono hsr)
        go_upto_region 5 with fail
        generalize wa.alloc (.cells #[.int .i64 x1, .int .i64 y1] 23) = W2 at hb2 m0 m1 m2 hB2 ⊢
        have c0 := blk_cell m0 0
        have c1 := blk_cell m0 1
        have g0 := blk_free m0 0
        have g1 := blk_free m0 1
        have c4 := blk_cell m2 0
        have c5 := blk_cell m2 1
        go_wp2
        go_roundw
        case rel => exact ⟨1, x1, y1, by omega, by go_num, rfl, blk_set (blk_set m0 0 _) 1 _, blk_far (blk_far m1 (by show w.heap.size + 1 ≠ w.heap.size; omega) _) (by show w.heap.size + 1 ≠ w.heap.size; omega) _, (hB2.setCell (Nat.le_refl _) _).setCell (Nat.le_refl _) _⟩
        case measure => simp [intOf]
      · obtain ⟨rfl, rfl⟩ : x1 = x ∧ y1 = y := by have h := Option.some.inj hv; exact ⟨congrArg Prod.fst h, congrArg Prod.snd h⟩
        have q0 : wr.cell? ⟨b, 1, none⟩ = _ := blk_cell hst 1
        have q1 := blk_cell j0 0
        have q2 := blk_cell j0 1
        go_wp2_with fail
        refine (HS1.out _ hbel).mono ?_
        rintro ee wa ⟨rfl, hba⟩
        have hb2 : Below wr.heap.size wr (wa.alloc (.cells #[.int .i64 x2, .int .i64 y2] 23)) := hba.alloc hba.size _
        have m0 := blk_below j0 hb2 (by omega)
        have m1 := blk_below j1 hb2 jl
        have m2 : (wa.alloc (.cells #[.int .i64 x2, .int .i64 y2] 23)).heap[wa.heap.size]? = some (.cells #[.int .i64 x2, .int .i64 y2] 23) := blk_new _ rfl
        have hB2 := hbel.trans (hb2.mono hsr)
        go_upto_region 5 with fail
        generalize wa.alloc (.cells #[.int .i64 x2, .int .i64 y2] 23) = W2 at hb2 m0 m1 m2 hB2 ⊢
        have c0 := blk_cell m0 0
        have c1 := blk_cell m0 1
        have g0 := blk_free m0 0
        have g1 := blk_free m0 1
        have c4 := blk_cell m2 0
        have c5 := blk_cell m2 1
        go_wp2
        go_roundw
        case rel => exact ⟨2, x2, y2, by omega, by go_num, rfl, blk_set (blk_set m0 0 _) 1 _, blk_far (blk_far m1 (by show w.heap.size + 1 ≠ w.heap.size; omega) _) (by show w.heap.size + 1 ≠ w.heap.size; omega) _, (hB2.setCell (Nat.le_refl _) _).setCell (Nat.le_refl _) _⟩
        case measure => simp [intOf]
      · obtain ⟨rfl, rfl⟩ : x2 = x ∧ y2 = y := by have h := Option.some.inj hv; exact ⟨congrArg Prod.fst h, congrArg Prod.snd h⟩
        have q0 : wr.cell? ⟨b, 2, none⟩ = _ := blk_cell hst 2
        have q1 := blk_cell j0 0
        have q2 := blk_cell j0 1
        go_wp2_with fail
        refine (HS2.out _ hbel).mono ?_
        rintro ee wa ⟨rfl, hba⟩
        have hb2 : Below wr.heap.size wr (wa.alloc (.cells #[.int .i64 x3, .int .i64 y3] 23)) := hba.alloc hba.size _
        have m0 := blk_below j0 hb2 (by omega)
        have m1 := blk_below j1 hb2 jl
        have m2 : (wa.alloc (.cells #[.int .i64 x3, .int .i64 y3] 23)).heap[wa.heap.size]? = some (.cells #[.int .i64 x3, .int .i64 y3] 23) := blk_new _ rfl
        have hB2 := hbel.trans (hb2.mono hsr)
        go_upto_region 5 with fail
        generalize wa.alloc (.cells #[.int .i64 x3, .int .i64 y3] 23) = W2 at hb2 m0 m1 m2 hB2 ⊢
        have c0 := blk_cell m0 0
        have c1 := blk_cell m0 1
        have g0 := blk_free m0 0
        have g1 := blk_free m0 1
        have c4 := blk_cell m2 0
        have c5 := blk_cell m2 1
        go_wp2
        go_roundw
        case rel => exact ⟨3, x3, y3, by omega, by go_num, rfl, blk_set (blk_set m0 0 _) 1 _, blk_far (blk_far m1 (by show w.heap.size + 1 ≠ w.heap.size; omega) _) (by show w.heap.size + 1 ≠ w.heap.size; omega) _, (hB2.setCell (Nat.le_refl _) _).setCell (Nat.le_refl _) _⟩
        case measure => simp [intOf]
    · have t0 : decide ((k : Int) < 3) = false := decide_eq_false (by omega)
      obtain rfl : k = 3 := by omega
      obtain ⟨rfl, rfl⟩ : x3 = x ∧ y3 = y := by have h := Option.some.inj hv.out; exact ⟨congrArg Prod.fst h, congrArg Prod.snd h⟩
      have c0 := blk_cell j0 0
      have c1 := blk_cell j0 1
      have c2 := blk_cell j1 0
      have c3 := blk_cell j1 1
      have g0 := blk_free j1 0
      have g1 := blk_free j1 1
      go_wp2
      exact bodyPost_ret (v := .tuple #[.agg #[.int .i64 x3, .int .i64 y3], .int .i64 0]) (by simp [results, Tryd.results36, go_sem, c2, c3]) rfl ⟨rfl, (hbel.setCell (by show _ ≤ w.heap.size + 1; omega) _).setCell (by show _ ≤ w.heap.size + 1; omega) _⟩

set_option maxHeartbeats 2000000 in
theorem napply1 (v0 v1 : Pt) (n1 n2 : Int) (b t g1 g2 : Nat) (w : World) (hs : w.heap[b]? = some (.cells #[Value.func (.func 62) #[] #[.pointer (some ⟨g1, 0, none⟩), .pointer (some ⟨g2, 0, none⟩)]] t (0, 0))) (c0 : w.cell? ⟨g1, 0, none⟩ = some (.int .i64 n1)) (d0 : w.cell? ⟨g2, 0, none⟩ = some (.int .i64 n2)) (e1 : v1 = mulF v0 (fr n1 n2)) (s0 : smF v0) (w0 : (0 ≤ n1 ∧ n1 ≤ 1000) ∧ 1 ≤ n2 ∧ n2 ≤ 1000) :
    Calls Tryd.prog 36 #[fV v0, .slice (some ⟨b, 0, none⟩) 1 1] w fun e w' => e = .returned (.tuple #[fV v1, .int .i64 0]) ∧ Below w.heap.size w w' := by
  have hbl := blk_lt hs
  have HS0 := Lib.hid (fun (W : World) (hW : Below w.heap.size w W) => ntimes1 v0 n1 n2 g1 g2 W ((hW.cell (p := ⟨g1, 0, none⟩) (World.block_lt_of_cell? w _ c0)).trans c0) ((hW.cell (p := ⟨g2, 0, none⟩) (World.block_lt_of_cell? w _ d0)).trans d0) s0 w0.1 w0.2)
  rw [← e1] at HS0
  have Hs := Lib.hid hs
  clear hs c0 d0 e1 s0 w0
  obtain ⟨x0, y0⟩ := v0
  obtain ⟨x1, y1⟩ := v1
  unfold fV at *
  dsimp only at *
  go_enter Tryd.func36, Tryd.ntmps36
  go_wp2_with fail
  obtain ⟨W0, hW0⟩ : ∃ W0, ((w.alloc (.cells #[.int .i64 x0, .int .i64 y0] 23)).alloc (.cells #[.int .i64 0, .int .i64 0] 23)) = W0 := ⟨_, rfl⟩
  have hB0 : Below w.heap.size w W0 := by rw [← hW0]; exact (by repeat (first | exact Below.refl _ _ | assumption | refine Below.drew ?_ | refine below_drewN ?_ _ | refine Below.alloc ?_ (by first | omega | (simp; done) | (simp; omega)) _ | refine Below.setCell ?_ (by first | omega | (simp; done) | (simp; omega)) _))
  have k0 : W0.heap[w.heap.size]? = some (.cells #[.int .i64 x0, .int .i64 y0] 23) := by rw [← hW0]; exact blk_alloc (blk_new _ rfl) _
  have k1 : W0.heap[w.heap.size + 1]? = some (.cells #[.int .i64 0, .int .i64 0] 23) := by rw [← hW0]; exact blk_new _ (by simp)
  have s0 : W0.heap.size = w.heap.size + 2 := by rw [← hW0]; simp
  (try rw [hW0])
  clear hW0
  go_loopw [12] (fun i wr => ∃ (k : Nat) (x y : Int), k ≤ 1 ∧ i = .int .i64 (k : Int) ∧ Hid ([(x0, y0), (x1, y1)][k]? = some (x, y)) ∧ wr.heap[w.heap.size]? = some (.cells #[.int .i64 x, .int .i64 y] 23) ∧ wr.heap[w.heap.size + 1]? = some (.cells #[.int .i64 0, .int .i64 0] 23) ∧ Below w.heap.size w wr) (fun i _ => 1 - (intOf i).toNat)
  case atStart => exact ⟨0, x0, y0, by omega, rfl, rfl, k0, k1, hB0⟩
  case round =>
    obtain ⟨k, x, y, hk, rfl, hv, j0, j1, hbel⟩ := hrel
    have hsr := hbel.size
    have jl := blk_lt j1
    by_cases hlt : k < 1
    · have hv := hv.out
      have hst := blk_below Hs.out hbel hbl
      obtain rfl : k = 0 := by omega
      obtain ⟨rfl, rfl⟩ : x0 = x ∧ y0 = y := by have h := Option.some.inj hv; exact ⟨congrArg Prod.fst h, congrArg Prod.snd h⟩
      have q0 : wr.cell? ⟨b, 0, none⟩ = _ := blk_cell hst 0
      have q1 := blk_cell j0 0
      have q2 := blk_cell j0 1
      go_wp2_with fail
      refine (HS0.out _ hbel).mono ?_
      rintro ee wa ⟨rfl, hba⟩
      have hb2 : Below wr.heap.size wr (wa.alloc (.cells #[.int .i64 x1, .int .i64 y1] 23)) := hba.alloc hba.size _
      have m0 := blk_below j0 hb2 (by omega)
      have m1 := blk_below j1 hb2 jl
      have m2 : (wa.alloc (.cells #[.int .i64 x1, .int .i64 y1] 23)).heap[wa.heap.size]? = some (.cells #[.int .i64 x1, .int .i64 y1] 23) := blk_new _ rfl
      have hB2 := hbel.trans (hb2.mono hsr)
      go_upto_region 5 with fail
      generalize wa.alloc (.cells #[.int .i64 x1, .int .i64 y1] 23) = W2 at hb2 m0 m1 m2 hB2 ⊢
      have c0 := blk_cell m0 0
      have c1 := blk_cell m0 1
      have g0 := blk_free m0 0
      have g1 := blk_free m0 1
      have c4 := blk_cell m2 0
      have c5 := blk_cell m2 1
      go_wp2
      go_roundw
      case rel => exact ⟨1, x1, y1, by omega, by go_num, rfl, blk_set (blk_set m0 0 _) 1 _, blk_far (blk_far m1 (by show w.heap.size + 1 ≠ w.heap.size; omega) _) (by show w.heap.size + 1 ≠ w.heap.size; omega) _, (hB2.setCell (Nat.le_refl _) _).setCell (Nat.le_refl _) _⟩
      case measure => simp [intOf]
    · have t0 : decide ((k : Int) < 1) = false := decide_eq_false (by omega)
      obtain rfl : k = 1 := by omega
      obtain ⟨rfl, rfl⟩ : x1 = x ∧ y1 = y := by have h := Option.some.inj hv.out; exact ⟨congrArg Prod.fst h, congrArg Prod.snd h⟩
      have c0 := blk_cell j0 0
      have c1 := blk_cell j0 1
      have c2 := blk_cell j1 0
      have c3 := blk_cell j1 1
      have g0 := blk_free j1 0
      have g1 := blk_free j1 1
      go_wp2
      exact bodyPost_ret (v := .tuple #[.agg #[.int .i64 x1, .int .i64 y1], .int .i64 0]) (by simp [results, Tryd.results36, go_sem, c2, c3]) rfl ⟨rfl, (hbel.setCell (by show _ ≤ w.heap.size + 1; omega) _).setCell (by show _ ≤ w.heap.size + 1; omega) _⟩

end Go.Proofs.YtlobdeakgoicpaaDoor
