/- The walks of the steps of package neuberg. The walk of neuberg.apply: over the three steps of Adjust, and over one step. (Written by gennapply.py.) The walk of neuberg.Adjust for matchpoints that are right. The walks of neuberg.Sum, Share, Percent, and finesselaw21.q. The walk of neuberg.Field for results that are right. -/
import Derived.Test.YtlobdeakgoicpaaDoorNeuLaw
import Derived.Test.YtlobdeakgoicpaaDoorFracMulW
import Derived.Test.YtlobdeakgoicpaaDoorMatOwn
namespace Go.Proofs.YtlobdeakgoicpaaDoor
open Go.RowKit

/-! ### The walks of the steps of package neuberg. -/
set_option maxHeartbeats 1000000 in
theorem nplus1 (f : Pt) (n : Int) (g : Nat) (w : World) (hg : w.cell? ⟨g, 0, none⟩ = some (.int .i64 n)) (hf : smF f) (hn : smF (n, 1)) :
    Calls Tryd.prog 61 #[fV f, .pointer (some ⟨g, 0, none⟩)] w fun e w' => e = .returned (.tuple #[fV (addF f (n, 1)), .int .i64 0]) ∧ Below w.heap.size w w' := by
  have HA := Lib.hid (fun W => fadd_sm f (n, 1) hf hn W)
  have hgl : g < w.heap.size := World.block_lt_of_cell? w ⟨g, 0, none⟩ hg
  generalize addF f (n, 1) = r at *
  obtain ⟨f1, f2⟩ := f
  obtain ⟨r1, r2⟩ := r
  unfold fV at *
  dsimp only at *
  clear hf hn
  go_enter Tryd.func61, Tryd.ntmps61
  go_upto_region 1 with fail
  obtain ⟨W0, hW0⟩ : ∃ W0, ((w.alloc (.cells #[.int .i64 f1, .int .i64 f2] 23)).alloc (.cells #[.int .i64 0, .int .i64 0] 23)) = W0 := ⟨_, rfl⟩
  have hB0 : Below w.heap.size w W0 := by rw [← hW0]; exact (by repeat (first | exact Below.refl _ _ | assumption | refine Below.drew ?_ | refine below_drewN ?_ _ | refine Below.alloc ?_ (by first | omega | (simp; done) | (simp; omega)) _ | refine Below.setCell ?_ (by first | omega | (simp; done) | (simp; omega)) _))
  have k0 : W0.heap[w.heap.size]? = some (.cells #[.int .i64 f1, .int .i64 f2] 23) := by rw [← hW0]; exact blk_alloc (blk_new _ rfl) _
  have k1 : W0.heap[w.heap.size + 1]? = some (.cells #[.int .i64 0, .int .i64 0] 23) := by rw [← hW0]; exact blk_new _ (by simp)
  have s0 : W0.heap.size = w.heap.size + 2 := by rw [← hW0]; simp
  (try rw [hW0])
  clear hW0
  have c0 := blk_cell k0 0
  have c1 := blk_cell k0 1
  have cg := keepB hB0 hgl hg
  go_wp2_with fail
  refine (HA.out _).mono ?_
  rintro ee W1 ⟨rfl, hb1⟩
  have k1 := blk_below k1 hb1 (by omega)
  have c2 := blk_cell k1 0
  have c3 := blk_cell k1 1
  have f2' := blk_free k1 0
  have f3' := blk_free k1 1
  have hB1 := hB0.trans (hb1.mono hB0.size)
  go_wp2
  exact bodyPost_ret (v := .tuple #[.agg #[.int .i64 r1, .int .i64 r2], .int .i64 0]) (by simp [results, Tryd.results61, go_sem, c2, c3]) rfl ⟨rfl, (hB1.setCell (by show _ ≤ w.heap.size + 1; omega) _).setCell (by show _ ≤ w.heap.size + 1; omega) _⟩

set_option maxHeartbeats 1000000 in
theorem ntimes1 (f : Pt) (n d : Int) (g h : Nat) (w : World) (hg : w.cell? ⟨g, 0, none⟩ = some (.int .i64 n)) (hh : w.cell? ⟨h, 0, none⟩ = some (.int .i64 d)) (hf : smF f) (hn : 0 ≤ n ∧ n ≤ 1000) (hd : 1 ≤ d ∧ d ≤ 1000) :
    Calls Tryd.prog 62 #[fV f, .pointer (some ⟨g, 0, none⟩), .pointer (some ⟨h, 0, none⟩)] w fun e w' => e = .returned (.tuple #[fV (mulF f (fr n d)), .int .i64 0]) ∧ Below w.heap.size w w' := by
  have HM := Lib.hid (fun W => make_pos n d W (by omega) (by omega))
  have HA := Lib.hid (fun W => fmul_sm f (fr n d) hf (sm_frD n d (by omega) (by omega)) W)
  have hgl : g < w.heap.size := World.block_lt_of_cell? w ⟨g, 0, none⟩ hg
  have hhl : h < w.heap.size := World.block_lt_of_cell? w ⟨h, 0, none⟩ hh
  generalize mulF f (fr n d) = r at *
  generalize fr n d = q at *
  obtain ⟨f1, f2⟩ := f
  obtain ⟨r1, r2⟩ := r
  obtain ⟨q1, q2⟩ := q
  unfold fV at *
  dsimp only at *
  clear hf
  go_enter Tryd.func62, Tryd.ntmps62
  go_upto_region 1 with fail
  obtain ⟨W0, hW0⟩ : ∃ W0, ((w.alloc (.cells #[.int .i64 f1, .int .i64 f2] 23)).alloc (.cells #[.int .i64 0, .int .i64 0] 23)) = W0 := ⟨_, rfl⟩
  have hB0 : Below w.heap.size w W0 := by rw [← hW0]; exact (by repeat (first | exact Below.refl _ _ | assumption | refine Below.drew ?_ | refine below_drewN ?_ _ | refine Below.alloc ?_ (by first | omega | (simp; done) | (simp; omega)) _ | refine Below.setCell ?_ (by first | omega | (simp; done) | (simp; omega)) _))
  have k0 : W0.heap[w.heap.size]? = some (.cells #[.int .i64 f1, .int .i64 f2] 23) := by rw [← hW0]; exact blk_alloc (blk_new _ rfl) _
  have k1 : W0.heap[w.heap.size + 1]? = some (.cells #[.int .i64 0, .int .i64 0] 23) := by rw [← hW0]; exact blk_new _ (by simp)
  have s0 : W0.heap.size = w.heap.size + 2 := by rw [← hW0]; simp
  (try rw [hW0])
  clear hW0
  have cg := keepB hB0 hgl hg
  have ch := keepB hB0 hhl hh
  go_wp2_with fail
  refine (HM.out _).mono ?_
  rintro ee W1 ⟨rfl, hb1⟩
  have hb2 : Below W0.heap.size W0 (W1.alloc (.cells #[.int .i64 q1, .int .i64 q2] 23)) := hb1.alloc hb1.size _
  have m0 := blk_below k0 hb2 (by omega)
  have m1 := blk_below k1 hb2 (by omega)
  have m2 : (W1.alloc (.cells #[.int .i64 q1, .int .i64 q2] 23)).heap[W1.heap.size]? = some (.cells #[.int .i64 q1, .int .i64 q2] 23) := blk_new _ rfl
  have s2 := hb2.size
  obtain ⟨G, hG⟩ : ∃ G, W1.heap.size = G := ⟨_, rfl⟩
  go_upto_region 2 with fail
  rw [hG] at m2
  (try rw [hG])
  clear hG hb1
  generalize W1.alloc (.cells #[.int .i64 q1, .int .i64 q2] 23) = W2 at hb2 m0 m1 m2 s2 ⊢
  have c0 := blk_cell m0 0
  have c1 := blk_cell m0 1
  have c4 := blk_cell m2 0
  have c5 := blk_cell m2 1
  go_wp2_with fail
  refine (HA.out _).mono ?_
  rintro ee W3 ⟨rfl, hb3⟩
  have m1 := blk_below m1 hb3 (by omega)
  have c2 := blk_cell m1 0
  have c3 := blk_cell m1 1
  have f2' := blk_free m1 0
  have f3' := blk_free m1 1
  have hB1 := (hB0.trans (hb2.mono hB0.size)).trans (hb3.mono (by omega))
  go_wp2
  exact bodyPost_ret (v := .tuple #[.agg #[.int .i64 r1, .int .i64 r2], .int .i64 0]) (by simp [results, Tryd.results62, go_sem, c2, c3]) rfl ⟨rfl, (hB1.setCell (by show _ ≤ w.heap.size + 1; omega) _).setCell (by show _ ≤ w.heap.size + 1; omega) _⟩

theorem nplus (n : Int) (w : World) : Calls Tryd.prog 37 #[.int .i64 n] w fun e w' => e = .returned (.func (.func 61) #[] #[.pointer (some ⟨w.heap.size, 0, none⟩)]) ∧ w' = w.alloc (.cells #[.int .i64 n] 3) := by
  go_enter Tryd.func37, Tryd.ntmps37
  go_wp2
  go_ret
  exact ⟨rfl, rfl⟩
theorem ntimes (n d : Int) (w : World) : Calls Tryd.prog 38 #[.int .i64 n, .int .i64 d] w fun e w' => e = .returned (.func (.func 62) #[] #[.pointer (some ⟨w.heap.size, 0, none⟩), .pointer (some ⟨w.heap.size + 1, 0, none⟩)]) ∧ w' = (w.alloc (.cells #[.int .i64 n] 3)).alloc (.cells #[.int .i64 d] 3) := by
  go_enter Tryd.func38, Tryd.ntmps38
  go_wp2
  go_ret
  exact ⟨rfl, rfl⟩

/-! ### The walk of neuberg.apply: over the three steps of Adjust, and over one step. (Written by gennapply.py.) -/
set_option maxHeartbeats 2000000 in
theorem napply3 (v0 v1 v2 v3 : Pt) (n1 n2 n3 n4 : Int) (b t g1 g2 g3 g4 : Nat) (w : World) (hs : w.heap[b]? = some (.cells #[Value.func (.func 61) #[] #[.pointer (some ⟨g1, 0, none⟩)], Value.func (.func 62) #[] #[.pointer (some ⟨g2, 0, none⟩), .pointer (some ⟨g3, 0, none⟩)], Value.func (.func 61) #[] #[.pointer (some ⟨g4, 0, none⟩)]] t (0, 0))) (c0 : w.cell? ⟨g1, 0, none⟩ = some (.int .i64 n1)) (c1 : w.cell? ⟨g2, 0, none⟩ = some (.int .i64 n2)) (d1 : w.cell? ⟨g3, 0, none⟩ = some (.int .i64 n3)) (c2 : w.cell? ⟨g4, 0, none⟩ = some (.int .i64 n4)) (e1 : v1 = addF v0 (n1, 1)) (e2 : v2 = mulF v1 (fr n2 n3)) (e3 : v3 = addF v2 (n4, 1)) (s0 : smF v0) (s1 : smF v1) (s2 : smF v2) (w0 : smF (n1, 1)) (w1 : (0 ≤ n2 ∧ n2 ≤ 1000) ∧ 1 ≤ n3 ∧ n3 ≤ 1000) (w2 : smF (n4, 1)) :
    Calls Tryd.prog 36 #[fV v0, .slice (some ⟨b, 0, none⟩) 3 3] w fun e w' => e = .returned (.tuple #[fV v3, .int .i64 0]) ∧ Below w.heap.size w w' := by
  have hbl := blk_lt hs
  have HS0 := Lib.hid (fun (W : World) (hW : Below w.heap.size w W) => nplus1 v0 n1 g1 W ((hW.cell (p := ⟨g1, 0, none⟩) (World.block_lt_of_cell? w _ c0)).trans c0) s0 w0)
  rw [← e1] at HS0
  have HS1 := Lib.hid (fun (W : World) (hW : Below w.heap.size w W) => ntimes1 v1 n2 n3 g2 g3 W ((hW.cell (p := ⟨g2, 0, none⟩) (World.block_lt_of_cell? w _ c1)).trans c1) ((hW.cell (p := ⟨g3, 0, none⟩) (World.block_lt_of_cell? w _ d1)).trans d1) s1 w1.1 w1.2)
  rw [← e2] at HS1
  have HS2 := Lib.hid (fun (W : World) (hW : Below w.heap.size w W) => nplus1 v2 n4 g4 W ((hW.cell (p := ⟨g4, 0, none⟩) (World.block_lt_of_cell? w _ c2)).trans c2) s2 w2)
  rw [← e3] at HS2
  have Hs := Lib.hid hs
  clear hs c0 e1 s0 w0 c1 d1 e2 s1 w1 c2 e3 s2 w2
  obtain ⟨x0, y0⟩ := v0
  obtain ⟨x1, y1⟩ := v1
  obtain ⟨x2, y2⟩ := v2
  obtain ⟨x3, y3⟩ := v3
  unfold fV at *
  dsimp only at *
  go_enter Tryd.func36, Tryd.ntmps36
  go_wp2_with fail
  obtain ⟨W0, hW0⟩ : ∃ W0, ((w.alloc (.cells #[.int .i64 x0, .int .i64 y0] 23)).alloc (.cells #[.int .i64 0, .int .i64 0] 23)) = W0 := ⟨_, rfl⟩
  have hB0 : Below w.heap.size w W0 := by rw [← hW0]; exact (by repeat (first | exact Below.refl _ _ | assumption | refine Below.drew ?_ | refine below_drewN ?_ _ | refine Below.alloc ?_ (by first | omega | (simp; done) | (simp; omega)) _ | refine Below.setCell ?_ (by first | omega | (simp; done) | (simp; omega)) _))
  have k0 : W0.heap[w.heap.size]? = some (.cells #[.int .i64 x0, .int .i64 y0] 23) := by rw [← hW0]; exact blk_alloc (blk_new _ rfl) _
  have k1 : W0.heap[w.heap.size + 1]? = some (.cells #[.int .i64 0, .int .i64 0] 23) := by rw [← hW0]; exact blk_new _ (by simp)
  have s0 : W0.heap.size = w.heap.size + 2 := by rw [← hW0]; simp
  (try rw [hW0])
  clear hW0
  go_loopw [12] (fun i wr => ∃ (k : Nat) (x y : Int), k ≤ 3 ∧ i = .int .i64 (k : Int) ∧ Hid ([(x0, y0), (x1, y1), (x2, y2), (x3, y3)][k]? = some (x, y)) ∧ wr.heap[w.heap.size]? = some (.cells #[.int .i64 x, .int .i64 y] 23) ∧ wr.heap[w.heap.size + 1]? = some (.cells #[.int .i64 0, .int .i64 0] 23) ∧ Below w.heap.size w wr) (fun i _ => 3 - (intOf i).toNat)
  case atStart => exact ⟨0, x0, y0, by omega, rfl, rfl, k0, k1, hB0⟩
  case round =>
    obtain ⟨k, x, y, hk, rfl, hv, j0, j1, hbel⟩ := hrel
    have hsr := hbel.size
    have jl := blk_lt j1
    by_cases hlt : k < 3
    · have hv := hv.out
      have hst := blk_below Hs.out hbel hbl
      rcases (show k = 0 ∨ k = 1 ∨ k = 2 by omega) with rfl | rfl | rfl
      · obtain ⟨rfl, rfl⟩ : x0 = x ∧ y0 = y := by have h := Option.some.inj hv; exact ⟨congrArg Prod.fst h, congrArg Prod.snd h⟩
        have q0 : wr.cell? ⟨b, 0, none⟩ = _ := blk_cell hst 0
        have q1 := blk_cell j0 0
        have q2 := blk_cell j0 1
        go_wp2_with fail
        refine (HS0.out _ hbel).mono ?_
        rintro ee wa ⟨rfl, hba⟩
        have hb2 : Below wr.heap.size wr (wa.alloc (.cells #[.int .i64 x1, .int .i64 y1] 23)) := hba.alloc hba.size _
        have m0 := blk_below j0 hb2 (by omega)
        have m1 := blk_below j1 hb2 jl
        have m2 : (wa.alloc (.cells #[.int .i64 x1, .int .i64 y1] 23)).heap[wa.heap.size]? = some (.cells #[.int .i64 x1, .int .i64 y1] 23) := blk_new _ rfl
        have hB2 := hbel.trans (hb2.mono hsr)
        go_upto_region 5 with fail
        generalize wa.alloc (.cells #[.int .i64 x1, .int .i64 y1] 23) = W2 at hb2 m0 m1 m2 hB2 ⊢
        have c0 := blk_cell m0 0
        have c1 := blk_cell m0 1
        have g0 := blk_free m0 0
        have g1 := blk_free m0 1
        have c4 := blk_cell m2 0
        have c5 := blk_cell m2 1
        go_wp2
        go_roundw
        case rel => exact ⟨1, x1, y1, by omega, by go_num, rfl, blk_set (blk_set m0 0 _) 1 _, blk_far (blk_far m1 (by show w.heap.size + 1 ≠ w.heap.size; omega) _) (by show w.heap.size + 1 ≠ w.heap.size; omega) _, (hB2.setCell (Nat.le_refl _) _).setCell (Nat.le_refl _) _⟩
        case measure => simp [intOf]
      · obtain ⟨rfl, rfl⟩ : x1 = x ∧ y1 = y := by have h := Option.some.inj hv; exact ⟨congrArg Prod.fst h, congrArg Prod.snd h⟩
        have q0 : wr.cell? ⟨b, 1, none⟩ = _ := blk_cell hst 1
        have q1 := blk_cell j0 0
        have q2 := blk_cell j0 1
        go_wp2_with fail
        refine (HS1.out _ hbel).mono ?_
        rintro ee wa ⟨rfl, hba⟩
        have hb2 : Below wr.heap.size wr (wa.alloc (.cells #[.int .i64 x2, .int .i64 y2] 23)) := hba.alloc hba.size _
        have m0 := blk_below j0 hb2 (by omega)
        have m1 := blk_below j1 hb2 jl
        have m2 : (wa.alloc (.cells #[.int .i64 x2, .int .i64 y2] 23)).heap[wa.heap.size]? = some (.cells #[.int .i64 x2, .int .i64 y2] 23) := blk_new _ rfl
        have hB2 := hbel.trans (hb2.mono hsr)
        go_upto_region 5 with fail
        generalize wa.alloc (.cells #[.int .i64 x2, .int .i64 y2] 23) = W2 at hb2 m0 m1 m2 hB2 ⊢
        have c0 := blk_cell m0 0
        have c1 := blk_cell m0 1
        have g0 := blk_free m0 0
        have g1 := blk_free m0 1
        have c4 := blk_cell m2 0
        have c5 := blk_cell m2 1
        go_wp2
        go_roundw
        case rel => exact ⟨2, x2, y2, by omega, by go_num, rfl, blk_set (blk_set m0 0 _) 1 _, blk_far (blk_far m1 (by show w.heap.size + 1 ≠ w.heap.size; omega) _) (by show w.heap.size + 1 ≠ w.heap.size; omega) _, (hB2.setCell (Nat.le_refl _) _).setCell (Nat.le_refl _) _⟩
        case measure => simp [intOf]
      · obtain ⟨rfl, rfl⟩ : x2 = x ∧ y2 = y := by have h := Option.some.inj hv; exact ⟨congrArg Prod.fst h, congrArg Prod.snd h⟩
        have q0 : wr.cell? ⟨b, 2, none⟩ = _ := blk_cell hst 2
        have q1 := blk_cell j0 0
        have q2 := blk_cell j0 1
        go_wp2_with fail
        refine (HS2.out _ hbel).mono ?_
        rintro ee wa ⟨rfl, hba⟩
        have hb2 : Below wr.heap.size wr (wa.alloc (.cells #[.int .i64 x3, .int .i64 y3] 23)) := hba.alloc hba.size _
        have m0 := blk_below j0 hb2 (by omega)
        have m1 := blk_below j1 hb2 jl
        have m2 : (wa.alloc (.cells #[.int .i64 x3, .int .i64 y3] 23)).heap[wa.heap.size]? = some (.cells #[.int .i64 x3, .int .i64 y3] 23) := blk_new _ rfl
        have hB2 := hbel.trans (hb2.mono hsr)
        go_upto_region 5 with fail
        generalize wa.alloc (.cells #[.int .i64 x3, .int .i64 y3] 23) = W2 at hb2 m0 m1 m2 hB2 ⊢
        have c0 := blk_cell m0 0
        have c1 := blk_cell m0 1
        have g0 := blk_free m0 0
        have g1 := blk_free m0 1
        have c4 := blk_cell m2 0
        have c5 := blk_cell m2 1
        go_wp2
        go_roundw
        case rel => exact ⟨3, x3, y3, by omega, by go_num, rfl, blk_set (blk_set m0 0 _) 1 _, blk_far (blk_far m1 (by show w.heap.size + 1 ≠ w.heap.size; omega) _) (by show w.heap.size + 1 ≠ w.heap.size; omega) _, (hB2.setCell (Nat.le_refl _) _).setCell (Nat.le_refl _) _⟩
        case measure => simp [intOf]
    · have t0 : decide ((k : Int) < 3) = false := decide_eq_false (by omega)
      obtain rfl : k = 3 := by omega
      obtain ⟨rfl, rfl⟩ : x3 = x ∧ y3 = y := by have h := Option.some.inj hv.out; exact ⟨congrArg Prod.fst h, congrArg Prod.snd h⟩
      have c0 := blk_cell j0 0
      have c1 := blk_cell j0 1
      have c2 := blk_cell j1 0
      have c3 := blk_cell j1 1
      have g0 := blk_free j1 0
      have g1 := blk_free j1 1
      go_wp2
      exact bodyPost_ret (v := .tuple #[.agg #[.int .i64 x3, .int .i64 y3], .int .i64 0]) (by simp [results, Tryd.results36, go_sem, c2, c3]) rfl ⟨rfl, (hbel.setCell (by show _ ≤ w.heap.size + 1; omega) _).setCell (by show _ ≤ w.heap.size + 1; omega) _⟩

set_option maxHeartbeats 2000000 in
theorem napply1 (v0 v1 : Pt) (n1 n2 : Int) (b t g1 g2 : Nat) (w : World) (hs : w.heap[b]? = some (.cells #[Value.func (.func 62) #[] #[.pointer (some ⟨g1, 0, none⟩), .pointer (some ⟨g2, 0, none⟩)]] t (0, 0))) (c0 : w.cell? ⟨g1, 0, none⟩ = some (.int .i64 n1)) (d0 : w.cell? ⟨g2, 0, none⟩ = some (.int .i64 n2)) (e1 : v1 = mulF v0 (fr n1 n2)) (s0 : smF v0) (w0 : (0 ≤ n1 ∧ n1 ≤ 1000) ∧ 1 ≤ n2 ∧ n2 ≤ 1000) :
    Calls Tryd.prog 36 #[fV v0, .slice (some ⟨b, 0, none⟩) 1 1] w fun e w' => e = .returned (.tuple #[fV v1, .int .i64 0]) ∧ Below w.heap.size w w' := by
  have hbl := blk_lt hs
  have HS0 := Lib.hid (fun (W : World) (hW : Below w.heap.size w W) => ntimes1 v0 n1 n2 g1 g2 W ((hW.cell (p := ⟨g1, 0, none⟩) (World.block_lt_of_cell? w _ c0)).trans c0) ((hW.cell (p := ⟨g2, 0, none⟩) (World.block_lt_of_cell? w _ d0)).trans d0) s0 w0.1 w0.2)
  rw [← e1] at HS0
  have Hs := Lib.hid hs
  clear hs c0 d0 e1 s0 w0
  obtain ⟨x0, y0⟩ := v0
  obtain ⟨x1, y1⟩ := v1
  unfold fV at *
  dsimp only at *
  go_enter Tryd.func36, Tryd.ntmps36
  go_wp2_with fail
  obtain ⟨W0, hW0⟩ : ∃ W0, ((w.alloc (.cells #[.int .i64 x0, .int .i64 y0] 23)).alloc (.cells #[.int .i64 0, .int .i64 0] 23)) = W0 := ⟨_, rfl⟩
  have hB0 : Below w.heap.size w W0 := by rw [← hW0]; exact (by repeat (first | exact Below.refl _ _ | assumption | refine Below.drew ?_ | refine below_drewN ?_ _ | refine Below.alloc ?_ (by first | omega | (simp; done) | (simp; omega)) _ | refine Below.setCell ?_ (by first | omega | (simp; done) | (simp; omega)) _))
  have k0 : W0.heap[w.heap.size]? = some (.cells #[.int .i64 x0, .int .i64 y0] 23) := by rw [← hW0]; exact blk_alloc (blk_new _ rfl) _
  have k1 : W0.heap[w.heap.size + 1]? = some (.cells #[.int .i64 0, .int .i64 0] 23) := by rw [← hW0]; exact blk_new _ (by simp)
  have s0 : W0.heap.size = w.heap.size + 2 := by rw [← hW0]; simp
  (try rw [hW0])
  clear hW0
  go_loopw [12] (fun i wr => ∃ (k : Nat) (x y : Int), k ≤ 1 ∧ i = .int .i64 (k : Int) ∧ Hid ([(x0, y0), (x1, y1)][k]? = some (x, y)) ∧ wr.heap[w.heap.size]? = some (.cells #[.int .i64 x, .int .i64 y] 23) ∧ wr.heap[w.heap.size + 1]? = some (.cells #[.int .i64 0, .int .i64 0] 23) ∧ Below w.heap.size w wr) (fun i _ => 1 - (intOf i).toNat)
  case atStart => exact ⟨0, x0, y0, by omega, rfl, rfl, k0, k1, hB0⟩
  case round =>
    obtain ⟨k, x, y, hk, rfl, hv, j0, j1, hbel⟩ := hrel
    have hsr := hbel.size
    have jl := blk_lt j1
    by_cases hlt : k < 1
    · have hv := hv.out
      have hst := blk_below Hs.out hbel hbl
      obtain rfl : k = 0 := by omega
      obtain ⟨rfl, rfl⟩ : x0 = x ∧ y0 = y := by have h := Option.some.inj hv; exact ⟨congrArg Prod.fst h, congrArg Prod.snd h⟩
      have q0 : wr.cell? ⟨b, 0, none⟩ = _ := blk_cell hst 0
      have q1 := blk_cell j0 0
      have q2 := blk_cell j0 1
      go_wp2_with fail
      refine (HS0.out _ hbel).mono ?_
      rintro ee wa ⟨rfl, hba⟩
      have hb2 : Below wr.heap.size wr (wa.alloc (.cells #[.int .i64 x1, .int .i64 y1] 23)) := hba.alloc hba.size _
      have m0 := blk_below j0 hb2 (by omega)
      have m1 := blk_below j1 hb2 jl
      have m2 : (wa.alloc (.cells #[.int .i64 x1, .int .i64 y1] 23)).heap[wa.heap.size]? = some (.cells #[.int .i64 x1, .int .i64 y1] 23) := blk_new _ rfl
      have hB2 := hbel.trans (hb2.mono hsr)
      go_upto_region 5 with fail
      generalize wa.alloc (.cells #[.int .i64 x1, .int .i64 y1] 23) = W2 at hb2 m0 m1 m2 hB2 ⊢
      have c0 := blk_cell m0 0
      have c1 := blk_cell m0 1
      have g0 := blk_free m0 0
      have g1 := blk_free m0 1
      have c4 := blk_cell m2 0
      have c5 := blk_cell m2 1
      go_wp2
      go_roundw
      case rel => exact ⟨1, x1, y1, by omega, by go_num, rfl, blk_set (blk_set m0 0 _) 1 _, blk_far (blk_far m1 (by show w.heap.size + 1 ≠ w.heap.size; omega) _) (by show w.heap.size + 1 ≠ w.heap.size; omega) _, (hB2.setCell (Nat.le_refl _) _).setCell (Nat.le_refl _) _⟩
      case measure => simp [intOf]
    · have t0 : decide ((k : Int) < 1) = false := decide_eq_false (by omega)
      obtain rfl : k = 1 := by omega
      obtain ⟨rfl, rfl⟩ : x1 = x ∧ y1 = y := by have h := Option.some.inj hv.out; exact ⟨congrArg Prod.fst h, congrArg Prod.snd h⟩
      have c0 := blk_cell j0 0
      have c1 := blk_cell j0 1
      have c2 := blk_cell j1 0
      have c3 := blk_cell j1 1
      have g0 := blk_free j1 0
      have g1 := blk_free j1 1
      go_wp2
      exact bodyPost_ret (v := .tuple #[.agg #[.int .i64 x1, .int .i64 y1], .int .i64 0]) (by simp [results, Tryd.results36, go_sem, c2, c3]) rfl ⟨rfl, (hbel.setCell (by show _ ≤ w.heap.size + 1; omega) _).setCell (by show _ ≤ w.heap.size + 1; omega) _⟩

/-! ### The walk of neuberg.Adjust for matchpoints that are right. -/
theorem nboard (n : Int) (w : World) : Calls Tryd.prog 33 #[.int .i64 n] w fun e w' => e = .returned (.bool (decide (1 ≤ n ∧ n ≤ 24))) ∧ w' = w := by
  go_enter Tryd.func33, Tryd.ntmps33
  by_cases h1 : 1 ≤ n
  · by_cases h2 : n ≤ 24
    · have t1 : decide (n ≥ 1) = true := decide_eq_true h1
      have t2 : decide (n ≤ 24) = true := decide_eq_true h2
      have t3 : decide (1 ≤ n ∧ n ≤ 24) = true := decide_eq_true ⟨h1, h2⟩
      rw [t3]
      go_wp2
      go_ret
      exact ⟨rfl, rfl⟩
    · have t1 : decide (n ≥ 1) = true := decide_eq_true h1
      have t2 : decide (n ≤ 24) = false := decide_eq_false h2
      have t3 : decide (1 ≤ n ∧ n ≤ 24) = false := decide_eq_false (fun h => h2 h.2)
      rw [t3]
      go_wp2
      go_ret
      exact ⟨rfl, rfl⟩
  · have t1 : decide (n ≥ 1) = false := decide_eq_false h1
    have t3 : decide (1 ≤ n ∧ n ≤ 24) = false := decide_eq_false (fun h => h1 h.1)
    rw [t3]
    go_wp2
    go_ret
    exact ⟨rfl, rfl⟩

set_option maxHeartbeats 2000000 in
theorem nadjust (f : Pt) (n all : Int) (w : World) (hn : 1 ≤ n ∧ n ≤ all) (ha : all ≤ 24) (hf : 1 ≤ f.2 ∧ f.2 ≤ 10000 ∧ 0 ≤ f.1 ∧ f.1 ≤ 2 * (n - 1) * f.2) (s0 : smF f) (s1 : smF (addF f (1, 1))) (s2 : smF (mulF (addF f (1, 1)) (fr all n))) :
    Calls Tryd.prog 11 #[fV f, .int .i64 n, .int .i64 all] w fun e w' => e = .returned (.tuple #[fV (adjF f n all), .int .i64 0]) ∧ Below w.heap.size w w' := by
  have HB := Lib.hid (fun W => nboard all W)
  rw [decide_eq_true (show 1 ≤ all ∧ all ≤ 24 by omega)] at HB
  have HR := Lib.hid (fun W => right_sm f s0 W)
  have w1 := sm_whole 1 (by omega)
  have w2 := sm_whole (-1) (by omega)
  have HA := Lib.hid (fun (W : World) (b t g1 g2 g3 g4 : Nat) hs c0 c1 d1 c2 => napply3 f (addF f (1, 1)) (mulF (addF f (1, 1)) (fr all n)) (adjF f n all) 1 all n (-1) b t g1 g2 g3 g4 W hs c0 c1 d1 c2 rfl rfl rfl s0 s1 s2 w1 ⟨by omega, by omega⟩ w2)
  obtain ⟨T, hT⟩ : ∃ T : Int, (if n < 1 then 0 else 2 * (n - 1)) = T := ⟨_, rfl⟩
  have HT := Lib.hid (fun W => topN_any n W (by omega))
  rw [hT] at HT
  rw [if_neg (by omega)] at hT
  rw [hT] at hf
  generalize adjF f n all = r at *
  generalize mulF (addF f (1, 1)) (fr all n) = r2 at *
  generalize addF f (1, 1) = r1 at *
  obtain ⟨f1, f2⟩ := f
  obtain ⟨x, y⟩ := r
  unfold fV at *
  dsimp only at *
  obtain ⟨p, hp⟩ : ∃ p, T * f2 = p := ⟨_, rfl⟩
  rw [hp] at hf
  have hpb : p ≤ 1000000 := by
    rw [← hp]
    have := Int.mul_le_mul (show T ≤ 46 by omega) hf.2.1 (by omega) (by omega)
    omega
  have t1 : decide (n < 1) = false := decide_eq_false (by omega)
  have t2 : decide (n > all) = false := decide_eq_false (by omega)
  have t3 : decide (f2 > 10000) = false := decide_eq_false (by omega)
  have t4 : decide (f1 < 0) = false := decide_eq_false (by omega)
  have t5 : decide (f1 > p) = false := decide_eq_false (by omega)
  have t6 : IntKind.i64.wrap (T * f2) = p := by rw [hp]; exact IntWalk.i64_in _ (by omega)
  have t2' : decide (all < n) = false := decide_eq_false (by omega)
  have t3' : decide (10000 < f2) = false := decide_eq_false (by omega)
  have t5' : decide (p < f1) = false := decide_eq_false (by omega)
  have T6 := Lib.hid t6
  clear t6 hp hT s0 s1 s2 w1 w2
  go_enter Tryd.func11, Tryd.ntmps11
  go_upto_region 1 with fail
  obtain ⟨W0, hW0⟩ : ∃ W0, ((w.alloc (.cells #[.int .i64 f1, .int .i64 f2] 23)).alloc (.cells #[.int .i64 0, .int .i64 0] 23)) = W0 := ⟨_, rfl⟩
  have hB0 : Below w.heap.size w W0 := by rw [← hW0]; exact (by repeat (first | exact Below.refl _ _ | assumption | refine Below.drew ?_ | refine below_drewN ?_ _ | refine Below.alloc ?_ (by first | omega | (simp; done) | (simp; omega)) _ | refine Below.setCell ?_ (by first | omega | (simp; done) | (simp; omega)) _))
  have k0 : W0.heap[w.heap.size]? = some (.cells #[.int .i64 f1, .int .i64 f2] 23) := by rw [← hW0]; exact blk_alloc (blk_new _ rfl) _
  have k1 : W0.heap[w.heap.size + 1]? = some (.cells #[.int .i64 0, .int .i64 0] 23) := by rw [← hW0]; exact blk_new _ (by simp)
  have s0 : W0.heap.size = w.heap.size + 2 := by rw [← hW0]; simp
  (try rw [hW0])
  clear hW0
  have c0 := blk_cell k0 0
  have c1 := blk_cell k0 1
  go_wp2_with fail
  refine (HB.out _).mono ?_
  rintro ee we ⟨rfl, rfl⟩
  go_wp2_with fail
  refine (HR.out _).mono ?_
  rintro ee W1 ⟨rfl, hb1⟩
  have m0 := blk_below k0 hb1 (by omega)
  have m1 := blk_below k1 hb1 (by omega)
  have c0 := blk_cell m0 0
  have c1 := blk_cell m0 1
  have hB1 := hB0.trans (hb1.mono hB0.size)
  have sz1 := hb1.size
  go_upto_region 3 with fail
  have t6 := T6.out
  go_region_held3 (fun w' => w'.cell? ⟨w.heap.size, 0, none⟩ = some (.int .i64 f1) ∧ w'.cell? ⟨w.heap.size, 1, none⟩ = some (.int .i64 f2)) ((first | exact ⟨c0, c1⟩))
    ((go_at_call 35; (with_reducible refine (HT.out _).mono ?_); rintro ee we ⟨rfl, rfl⟩))
  clear t6
  go_upto_region 5 with fail
  obtain ⟨WX, hWX⟩ : ∃ WX, (((((W1.alloc (.cells #[.int .i64 1] 3)).alloc (.cells #[.int .i64 all] 3)).alloc (.cells #[.int .i64 n] 3)).alloc (.cells #[.int .i64 (-1)] 3)).alloc (.cells #[.func (.func 61) #[] #[.pointer (some ⟨W1.heap.size, 0, none⟩)], .func (.func 62) #[] #[.pointer (some ⟨W1.heap.size + 1, 0, none⟩), .pointer (some ⟨W1.heap.size + 1 + 1, 0, none⟩)], .func (.func 61) #[] #[.pointer (some ⟨W1.heap.size + 1 + 1 + 1, 0, none⟩)]] 70)) = WX := ⟨_, rfl⟩
  have x0 : WX.heap[W1.heap.size]? = some (.cells #[.int .i64 1] 3) := by rw [← hWX]; exact blk_alloc (blk_alloc (blk_alloc (blk_alloc (blk_new _ rfl) _) _) _) _
  have x1 : WX.heap[W1.heap.size + 1]? = some (.cells #[.int .i64 all] 3) := by rw [← hWX]; exact blk_alloc (blk_alloc (blk_alloc (blk_new _ (by simp)) _) _) _
  have x2 : WX.heap[W1.heap.size + 1 + 1]? = some (.cells #[.int .i64 n] 3) := by rw [← hWX]; exact blk_alloc (blk_alloc (blk_new _ (by simp)) _) _
  have x3 : WX.heap[W1.heap.size + 1 + 1 + 1]? = some (.cells #[.int .i64 (-1)] 3) := by rw [← hWX]; exact blk_alloc (blk_new _ (by simp)) _
  have x4 : WX.heap[W1.heap.size + 1 + 1 + 1 + 1]? = some (.cells #[.func (.func 61) #[] #[.pointer (some ⟨W1.heap.size, 0, none⟩)], .func (.func 62) #[] #[.pointer (some ⟨W1.heap.size + 1, 0, none⟩), .pointer (some ⟨W1.heap.size + 1 + 1, 0, none⟩)], .func (.func 61) #[] #[.pointer (some ⟨W1.heap.size + 1 + 1 + 1, 0, none⟩)]] 70) := by rw [← hWX]; exact blk_new _ (by simp)
  have hBX : Below W1.heap.size W1 WX := by rw [← hWX]; exact (by repeat (first | exact Below.refl _ _ | assumption | refine Below.drew ?_ | refine below_drewN ?_ _ | refine Below.alloc ?_ (by first | omega | (simp; done) | (simp; omega)) _ | refine Below.setCell ?_ (by first | omega | (simp; done) | (simp; omega)) _))
  have HX := HA.out WX.drew.drew _ _ _ _ _ _ x4 (blk_cell x0 0) (blk_cell x1 0) (blk_cell x2 0) (blk_cell x3 0)
  have HX2 := HX.mono fun ee wa (h : ee = .returned (.tuple #[.agg #[.int .i64 x, .int .i64 y], .int .i64 0]) ∧ Below WX.drew.drew.heap.size WX.drew.drew wa) =>
    (show ee = .returned (.tuple #[.agg #[.int .i64 x, .int .i64 y], .int .i64 0]) ∧ Below w.heap.size w wa ∧ wa.cell? ⟨w.heap.size, 0, none⟩ = some (.int .i64 f1) ∧ wa.cell? ⟨w.heap.size, 1, none⟩ = some (.int .i64 f2) ∧ wa.cell? ⟨w.heap.size + 1, 0, none⟩ = some (.int .i64 0) ∧ wa.cell? ⟨w.heap.size + 1, 1, none⟩ = some (.int .i64 0) ∧ wa.frozen? ⟨w.heap.size + 1, 0, none⟩ = false ∧ wa.frozen? ⟨w.heap.size + 1, 1, none⟩ = false from
      have hb : Below W1.heap.size W1 wa := hBX.drew.drew.trans (h.2.mono hBX.size)
      have a0 := blk_below m0 hb (by omega)
      have a1 := blk_below m1 hb (by omega)
      ⟨h.1, hB1.trans (hb.mono hB1.size), blk_cell a0 0, blk_cell a0 1, blk_cell a1 0, blk_cell a1 1, blk_free a1 0, blk_free a1 1⟩)
  rw [← hWX] at HX2
  have HX3 := Lib.hid HX2
  have HK := Lib.hid (fun (w' : World) (h : ∀ (p : Addr) (v : Value), W1.cell? p = some v → w'.cell? p = some v) => (show w'.cell? ⟨w.heap.size, 0, none⟩ = some (.int .i64 f1) ∧ w'.cell? ⟨w.heap.size, 1, none⟩ = some (.int .i64 f2) from ⟨h _ _ c0, h _ _ c1⟩))
  have ne0 : w.heap.size + 1 ≠ w.heap.size := by omega
  clear HX HX2 hWX x0 x1 x2 x3 x4 hBX HA HB HR HT hf hn ha t1 t2 t3 t4 t5 t2' t3' t5' hpb
  go_region_held3 (fun w' => w'.cell? ⟨w.heap.size, 0, none⟩ = some (.int .i64 f1) ∧ w'.cell? ⟨w.heap.size, 1, none⟩ = some (.int .i64 f2)) ((first | exact ⟨keepS (keepS hk0 ne0 _) ne0 _, keepS (keepS hk1 ne0 _) ne0 _⟩ | exact ⟨hk0, hk1⟩ | exact HK.out _ (fun p v h => h) | exact HK.out _ (fun p v h => keepC h _) | exact HK.out _ (fun p v h => keepC (keepC (keepC h _) _) _) | exact HK.out _ (fun p v h => keepC (keepC (keepC (keepC h _) _) _) _) | exact HK.out _ (fun p v h => keepC (keepC (keepC (keepC (keepC h _) _) _) _) _)))
    ((first
      | (go_at_call 37; (with_reducible refine (nplus _ _).mono ?_); rintro ee we ⟨rfl, rfl⟩)
      | (go_at_call 38; (with_reducible refine (ntimes _ _ _).mono ?_); rintro ee we ⟨rfl, rfl⟩)
      | (go_at_call 36; refine HX3.out.mono ?_; rintro ee wa ⟨rfl, hBa, hk0, hk1, hc2, hc3, hf2, hf3⟩)))
  go_wp2
  exact bodyPost_ret (v := .tuple #[.agg #[.int .i64 x, .int .i64 y], .int .i64 0]) (by simp [results, Tryd.results11, go_sem, hc2, hc3]) rfl ⟨rfl, (hBa.setCell (by show _ ≤ w.heap.size + 1; omega) _).setCell (by show _ ≤ w.heap.size + 1; omega) _⟩

/-! ### The walks of neuberg.Sum, Share, Percent, and finesselaw21.q. -/
theorem nboard2 (n : Int) (w : World) (h : 1 ≤ n ∧ n ≤ 24) : Calls Tryd.prog 33 #[.int .i64 n] w fun e w' => e = .returned (.bool true) ∧ w = w' :=
  (nboard n w).mono fun e w' hh => ⟨hh.1.trans (by rw [decide_eq_true h]), hh.2.symm⟩

theorem q_any (n d : Int) (w : World) : Calls Tryd.prog 24 #[.int .i64 n, .int .i64 d] w fun e w' => e = .returned (.agg #[.int .i64 n, .int .i64 d]) ∧ Below w.heap.size w w' := by
  go_enter Tryd.func24, Tryd.ntmps24
  go_wp2
  exact bodyPost_ret (v := .agg #[.int .i64 n, .int .i64 d]) (by simp [results, Tryd.results24, go_sem]) rfl ⟨rfl, (by repeat (first | exact Below.refl _ _ | assumption | refine Below.drew ?_ | refine below_drewN ?_ _ | refine Below.alloc ?_ (by first | omega | (simp; done) | (simp; omega)) _ | refine Below.setCell ?_ (by first | omega | (simp; done) | (simp; omega)) _))⟩

theorem nsum (n all : Int) (w : World) (hn : 0 ≤ n ∧ n ≤ all) (ha : 1 ≤ all ∧ all ≤ 24) :
    Calls Tryd.prog 13 #[.int .i64 n, .int .i64 all] w fun e w' => e = .returned (.tuple #[.int .i64 (n * (all - 1)), .int .i64 0]) ∧ w = w' := by
  have HB := Lib.hid (fun W => nboard2 all W ha)
  have t1 : decide (n < 0) = false := decide_eq_false (by omega)
  have t2 : decide (n > all) = false := decide_eq_false (by omega)
  have t2' : decide (all < n) = false := decide_eq_false (by omega)
  have hb : 0 ≤ n * (all - 1) ∧ n * (all - 1) ≤ 24 * 24 := ⟨Int.mul_nonneg (by omega) (by omega), Int.mul_le_mul (by omega) (by omega) (by omega) (by omega)⟩
  obtain ⟨p, hp⟩ : ∃ p, n * (all - 1) = p := ⟨_, rfl⟩
  rw [hp] at hb ⊢
  have a1 : IntKind.i64.wrap (all - 1) = all - 1 := IntWalk.i64_in _ (by omega)
  have a2 : IntKind.i64.wrap (n * (all - 1)) = p := by rw [hp]; exact IntWalk.i64_in _ (by omega)
  go_enter Tryd.func13, Tryd.ntmps13
  go_wp2_with fail
  refine (HB.out _).mono ?_
  rintro ee we ⟨rfl, rfl⟩
  go_wp2
  go_ret2
  exact ⟨rfl, rfl⟩

set_option maxHeartbeats 2000000 in
theorem nshare (p all : Int) (w : World) (hp : 0 ≤ p ∧ p ≤ 100) (ha : 1 ≤ all ∧ all ≤ 24) :
    Calls Tryd.prog 17 #[.int .i64 p, .int .i64 all] w fun e w' => e = .returned (.tuple #[fV (mulF (p, 1) (fr (2 * (all - 1)) 100)), .int .i64 0]) ∧ Below w.heap.size w w' := by
  have HB := Lib.hid (fun W => nboard2 all W ha)
  obtain ⟨T, hT⟩ : ∃ T : Int, 2 * (all - 1) = T := ⟨_, rfl⟩
  have HT := Lib.hid (fun W => topN_any all W (by omega))
  rw [if_neg (by omega)] at HT
  rw [hT] at HT ⊢
  have HA := Lib.hid (fun (W : World) (b t g1 g2 : Nat) hs c0 d0 => napply1 (p, 1) (mulF (p, 1) (fr T 100)) T 100 b t g1 g2 W hs c0 d0 rfl (sm_whole p (by omega)) ⟨by omega, by omega⟩)
  generalize mulF (p, 1) (fr T 100) = r at *
  obtain ⟨x, y⟩ := r
  unfold fV at *
  dsimp only at *
  have t1 : decide (p < 0) = false := decide_eq_false (by omega)
  have t2 : decide (p > 100) = false := decide_eq_false (by omega)
  have t2' : decide (100 < p) = false := decide_eq_false (by omega)
  clear hT
  go_enter Tryd.func17, Tryd.ntmps17
  go_wp2_with fail
  refine (HB.out _).mono ?_
  rintro ee we ⟨rfl, rfl⟩
  go_wp2_with fail
  refine (HT.out _).mono ?_
  rintro ee we ⟨rfl, rfl⟩
  go_wp2_with fail
  refine (ntimes _ _ _).mono ?_
  rintro ee we ⟨rfl, rfl⟩
  go_wp2_with fail
  refine (HA.out _ _ _ _ _ (blk_new _ (by simp)) (blk_cell (blk_alloc (blk_alloc (blk_new _ (by simp)) _) _) 0) (blk_cell (blk_alloc (blk_new _ (by simp)) _) 0)).mono ?_
  rintro ee wa ⟨rfl, hba⟩
  have k1 : wa.heap[w.heap.size]? = some (.cells #[.int .i64 0, .int .i64 0] 23) := blk_below (blk_alloc (blk_alloc (blk_alloc (blk_new _ rfl) _) _) _) hba (by simp; omega)
  have c2 := blk_cell k1 0
  have c3 := blk_cell k1 1
  have g0 := blk_free k1 0
  have g1 := blk_free k1 1
  have hB : Below w.heap.size w wa := (show Below w.heap.size w _ from (by repeat (first | exact Below.refl _ _ | assumption | refine Below.drew ?_ | refine below_drewN ?_ _ | refine Below.alloc ?_ (by first | omega | (simp; done) | (simp; omega)) _ | refine Below.setCell ?_ (by first | omega | (simp; done) | (simp; omega)) _))).trans (hba.mono (by simp; omega))
  go_wp2
  exact bodyPost_ret (v := .tuple #[.agg #[.int .i64 x, .int .i64 y], .int .i64 0]) (by simp [results, Tryd.results17, go_sem, c2, c3]) rfl ⟨rfl, (hB.setCell (Nat.le_refl _) _).setCell (Nat.le_refl _) _⟩

set_option maxHeartbeats 2000000 in
theorem npercent (f : Pt) (all : Int) (w : World) (ha : 2 ≤ all ∧ all ≤ 24) (s0 : smF f) :
    Calls Tryd.prog 15 #[fV f, .int .i64 all] w fun e w' => e = .returned (.tuple #[fV (mulF f (fr 100 (2 * (all - 1)))), .int .i64 0]) ∧ Below w.heap.size w w' := by
  have HB := Lib.hid (fun W => nboard2 all W (by omega))
  have HR := Lib.hid (fun W => right_sm f s0 W)
  obtain ⟨T, hT⟩ : ∃ T : Int, 2 * (all - 1) = T := ⟨_, rfl⟩
  have HT := Lib.hid (fun W => topN_any all W (by omega))
  rw [if_neg (by omega)] at HT
  rw [hT] at HT ⊢
  have HA := Lib.hid (fun (W : World) (b t g1 g2 : Nat) hs c0 d0 => napply1 f (mulF f (fr 100 T)) 100 T b t g1 g2 W hs c0 d0 rfl s0 ⟨by omega, by omega⟩)
  generalize mulF f (fr 100 T) = r at *
  obtain ⟨f1, f2⟩ := f
  obtain ⟨x, y⟩ := r
  unfold fV at *
  dsimp only at *
  have t1 : (all == 1) = false := beq_eq_false_iff_ne.2 (by omega)
  have t2 : ¬ all = 1 := by omega
  clear hT s0
  go_enter Tryd.func15, Tryd.ntmps15
  go_upto_region 1 with fail
  obtain ⟨W0, hW0⟩ : ∃ W0, ((w.alloc (.cells #[.int .i64 f1, .int .i64 f2] 23)).alloc (.cells #[.int .i64 0, .int .i64 0] 23)) = W0 := ⟨_, rfl⟩
  have hB0 : Below w.heap.size w W0 := by rw [← hW0]; exact (by repeat (first | exact Below.refl _ _ | assumption | refine Below.drew ?_ | refine below_drewN ?_ _ | refine Below.alloc ?_ (by first | omega | (simp; done) | (simp; omega)) _ | refine Below.setCell ?_ (by first | omega | (simp; done) | (simp; omega)) _))
  have k0 : W0.heap[w.heap.size]? = some (.cells #[.int .i64 f1, .int .i64 f2] 23) := by rw [← hW0]; exact blk_alloc (blk_new _ rfl) _
  have k1 : W0.heap[w.heap.size + 1]? = some (.cells #[.int .i64 0, .int .i64 0] 23) := by rw [← hW0]; exact blk_new _ (by simp)
  have s0 : W0.heap.size = w.heap.size + 2 := by rw [← hW0]; simp
  (try rw [hW0])
  clear hW0
  have c0 := blk_cell k0 0
  have c1 := blk_cell k0 1
  go_wp2_with fail
  refine (HB.out _).mono ?_
  rintro ee we ⟨rfl, rfl⟩
  go_wp2_with fail
  refine (HR.out _).mono ?_
  rintro ee W1 ⟨rfl, hb1⟩
  have m0 := blk_below k0 hb1 (by omega)
  have m1 := blk_below k1 hb1 (by omega)
  have c0 := blk_cell m0 0
  have c1 := blk_cell m0 1
  have hB1 := hB0.trans (hb1.mono hB0.size)
  have sz1 := hb1.size
  go_upto_region 5 with fail
  obtain ⟨WX, hWX⟩ : ∃ WX, (((W1.alloc (.cells #[.int .i64 100] 3)).alloc (.cells #[.int .i64 T] 3)).alloc (.cells #[.func (.func 62) #[] #[.pointer (some ⟨W1.heap.size, 0, none⟩), .pointer (some ⟨W1.heap.size + 1, 0, none⟩)]] 70)) = WX := ⟨_, rfl⟩
  have x0 : WX.heap[W1.heap.size]? = some (.cells #[.int .i64 100] 3) := by rw [← hWX]; exact blk_alloc (blk_alloc (blk_new _ rfl) _) _
  have x1 : WX.heap[W1.heap.size + 1]? = some (.cells #[.int .i64 T] 3) := by rw [← hWX]; exact blk_alloc (blk_new _ (by simp)) _
  have x4 : WX.heap[W1.heap.size + 1 + 1]? = some (.cells #[.func (.func 62) #[] #[.pointer (some ⟨W1.heap.size, 0, none⟩), .pointer (some ⟨W1.heap.size + 1, 0, none⟩)]] 70) := by rw [← hWX]; exact blk_new _ (by simp)
  have hBX : Below W1.heap.size W1 WX := by rw [← hWX]; exact (by repeat (first | exact Below.refl _ _ | assumption | refine Below.drew ?_ | refine below_drewN ?_ _ | refine Below.alloc ?_ (by first | omega | (simp; done) | (simp; omega)) _ | refine Below.setCell ?_ (by first | omega | (simp; done) | (simp; omega)) _))
  have HX := HA.out WX.drew _ _ _ _ x4 (blk_cell x0 0) (blk_cell x1 0)
  have HX2 := HX.mono fun ee wa (h : ee = .returned (.tuple #[.agg #[.int .i64 x, .int .i64 y], .int .i64 0]) ∧ Below WX.drew.heap.size WX.drew wa) =>
    (show ee = .returned (.tuple #[.agg #[.int .i64 x, .int .i64 y], .int .i64 0]) ∧ Below w.heap.size w wa ∧ wa.cell? ⟨w.heap.size, 0, none⟩ = some (.int .i64 f1) ∧ wa.cell? ⟨w.heap.size, 1, none⟩ = some (.int .i64 f2) ∧ wa.cell? ⟨w.heap.size + 1, 0, none⟩ = some (.int .i64 0) ∧ wa.cell? ⟨w.heap.size + 1, 1, none⟩ = some (.int .i64 0) ∧ wa.frozen? ⟨w.heap.size + 1, 0, none⟩ = false ∧ wa.frozen? ⟨w.heap.size + 1, 1, none⟩ = false from
      have hb : Below W1.heap.size W1 wa := hBX.drew.trans (h.2.mono hBX.size)
      have a0 := blk_below m0 hb (by omega)
      have a1 := blk_below m1 hb (by omega)
      ⟨h.1, hB1.trans (hb.mono hB1.size), blk_cell a0 0, blk_cell a0 1, blk_cell a1 0, blk_cell a1 1, blk_free a1 0, blk_free a1 1⟩)
  rw [← hWX] at HX2
  have HX3 := Lib.hid HX2
  have HK := Lib.hid (fun (w' : World) (h : ∀ (p : Addr) (v : Value), W1.cell? p = some v → w'.cell? p = some v) => (show w'.cell? ⟨w.heap.size, 0, none⟩ = some (.int .i64 f1) ∧ w'.cell? ⟨w.heap.size, 1, none⟩ = some (.int .i64 f2) from ⟨h _ _ c0, h _ _ c1⟩))
  have ne0 : w.heap.size + 1 ≠ w.heap.size := by omega
  clear HX HX2 hWX x0 x1 x4 hBX HA HB HR t1 t2 ha
  go_region_held3 (fun w' => w'.cell? ⟨w.heap.size, 0, none⟩ = some (.int .i64 f1) ∧ w'.cell? ⟨w.heap.size, 1, none⟩ = some (.int .i64 f2)) ((first | exact ⟨keepS (keepS hk0 ne0 _) ne0 _, keepS (keepS hk1 ne0 _) ne0 _⟩ | exact ⟨hk0, hk1⟩ | exact HK.out _ (fun p v h => h) | exact HK.out _ (fun p v h => keepC (keepC h _) _) | exact HK.out _ (fun p v h => keepC (keepC (keepC h _) _) _)))
    ((first
      | (go_at_call 35; (with_reducible refine (HT.out _).mono ?_); rintro ee we ⟨rfl, rfl⟩)
      | (go_at_call 38; (with_reducible refine (ntimes _ _ _).mono ?_); rintro ee we ⟨rfl, rfl⟩)
      | (go_at_call 36; refine HX3.out.mono ?_; rintro ee wa ⟨rfl, hBa, hk0, hk1, hc2, hc3, hf2, hf3⟩)))
  go_wp2
  exact bodyPost_ret (v := .tuple #[.agg #[.int .i64 x, .int .i64 y], .int .i64 0]) (by simp [results, Tryd.results15, go_sem, hc2, hc3]) rfl ⟨rfl, (hBa.setCell (by show _ ≤ w.heap.size + 1; omega) _).setCell (by show _ ≤ w.heap.size + 1; omega) _⟩

set_option maxHeartbeats 1000000 in
theorem npercent_one (f : Pt) (w : World) (s0 : smF f) :
    Calls Tryd.prog 15 #[fV f, .int .i64 1] w fun e w' => e = .returned (.tuple #[.agg #[.int .i64 0, .int .i64 0], .int .i64 6]) ∧ Below w.heap.size w w' := by
  have HB := Lib.hid (fun W => nboard2 1 W (by omega))
  have HR := Lib.hid (fun W => right_sm f s0 W)
  obtain ⟨f1, f2⟩ := f
  unfold fV at *
  dsimp only at *
  clear s0
  go_enter Tryd.func15, Tryd.ntmps15
  go_upto_region 1 with fail
  obtain ⟨W0, hW0⟩ : ∃ W0, ((w.alloc (.cells #[.int .i64 f1, .int .i64 f2] 23)).alloc (.cells #[.int .i64 0, .int .i64 0] 23)) = W0 := ⟨_, rfl⟩
  have hB0 : Below w.heap.size w W0 := by rw [← hW0]; exact (by repeat (first | exact Below.refl _ _ | assumption | refine Below.drew ?_ | refine below_drewN ?_ _ | refine Below.alloc ?_ (by first | omega | (simp; done) | (simp; omega)) _ | refine Below.setCell ?_ (by first | omega | (simp; done) | (simp; omega)) _))
  have k0 : W0.heap[w.heap.size]? = some (.cells #[.int .i64 f1, .int .i64 f2] 23) := by rw [← hW0]; exact blk_alloc (blk_new _ rfl) _
  have k1 : W0.heap[w.heap.size + 1]? = some (.cells #[.int .i64 0, .int .i64 0] 23) := by rw [← hW0]; exact blk_new _ (by simp)
  have s0 : W0.heap.size = w.heap.size + 2 := by rw [← hW0]; simp
  (try rw [hW0])
  clear hW0
  have c0 := blk_cell k0 0
  have c1 := blk_cell k0 1
  go_wp2_with fail
  refine (HB.out _).mono ?_
  rintro ee we ⟨rfl, rfl⟩
  go_wp2_with fail
  refine (HR.out _).mono ?_
  rintro ee W1 ⟨rfl, hb1⟩
  have m1 := blk_below k1 hb1 (by omega)
  have c2 := blk_cell m1 0
  have c3 := blk_cell m1 1
  have g0 := blk_free m1 0
  have g1 := blk_free m1 1
  have hB1 := hB0.trans (hb1.mono hB0.size)
  go_wp2
  exact bodyPost_ret (v := .tuple #[.agg #[.int .i64 0, .int .i64 0], .int .i64 6]) (by simp [results, Tryd.results15, go_sem, c2, c3]) rfl ⟨rfl, (hB1.setCell (by show _ ≤ w.heap.size + 1; omega) _).setCell (by show _ ≤ w.heap.size + 1; omega) _⟩

/-! ### The walk of neuberg.Field for results that are right. -/
/-- The first matchpoints adjusted, the others not yet. -/
def mixF (L : List (List Pt)) (all : Int) (k : Nat) : List Pt := (adjL L all).take k ++ (ptsL L).drop k
theorem mix_zero (L : List (List Pt)) (all : Int) : mixF L all 0 = ptsL L := rfl
theorem mix_all (L : List (List Pt)) (all : Int) : mixF L all L.length = adjL L all := by
  unfold mixF
  rw [List.take_of_length_le (by rw [adjL_len]; exact Nat.le_refl _), List.drop_of_length_le (by rw [ptsL_len]; exact Nat.le_refl _), List.append_nil]
theorem mix_len (L : List (List Pt)) (all : Int) (k : Nat) (h : k ≤ L.length) : (mixF L all k).length = L.length := by
  unfold mixF; rw [List.length_append, List.length_take, List.length_drop, adjL_len, ptsL_len]; omega
theorem mix_get (L : List (List Pt)) (all : Int) (k : Nat) (h : k < L.length) : (mixF L all k)[k]? = some ((ptsL L)[k]'(by rw [ptsL_len]; exact h)) := by
  unfold mixF
  rw [List.getElem?_append_right (by rw [List.length_take, adjL_len]; omega), List.length_take, adjL_len, List.getElem?_drop, show k + (k - min k L.length) = k by omega, List.getElem?_eq_getElem (by rw [ptsL_len]; exact h)]
theorem mix_succ (L : List (List Pt)) (all : Int) (k : Nat) (h : k < L.length) : (mixF L all k).set k ((adjL L all)[k]'(by rw [adjL_len]; exact h)) = mixF L all (k + 1) := by
  unfold mixF
  have hm : k - min k (adjL L all).length = 0 := by rw [adjL_len]; omega
  rw [List.set_append_right _ _ (by rw [List.length_take, adjL_len]; omega), List.length_take, hm, List.take_succ_eq_append_getElem (by rw [adjL_len]; exact h), List.append_assoc]
  congr 1
  rw [List.drop_eq_getElem_cons (by rw [ptsL_len]; exact h)]
  rfl
theorem pC_set2 (T : List Pt) : ∀ (k : Nat) (_ : k < T.length) (p : Pt), ((pC T).set (k * 2) (.int .i64 p.1)).set (k * 2 + 1) (.int .i64 p.2) = pC (T.set k p) := by
  induction T with
  | nil => intro k h; simp at h
  | cons q T ih =>
    intro k h p
    have e : ∀ (q : Pt) (T : List Pt), pC (q :: T) = .int .i64 q.1 :: .int .i64 q.2 :: pC T := fun q T => rfl
    cases k with
    | zero => rw [e]; rfl
    | succ k =>
      rw [show (k + 1) * 2 = k * 2 + 1 + 1 by omega, e, List.set_cons_succ, List.set_cons_succ, List.set_cons_succ, List.set_cons_succ, ih k (by simpa using h) p]
      rfl

set_option maxHeartbeats 2000000 in
theorem nfield (L : List (List Pt)) (A : Option Addr) (c : Nat) (all : Int) (w : World) (hL : Laid w) (hA : RdL w w.heap.size A L) (hn : (L.length : Int) ≤ all) (ha : 1 ≤ all ∧ all ≤ 24) (hro : ∀ o ∈ L, rightM o = true) :
    Calls Tryd.prog 21 #[.slice A L.length c, .int .i64 all] w fun e w' => ∃ v, e = .returned (.tuple #[v, .int .i64 0]) ∧ w'.ownsRow w.heap.size 23 2 v L.length (pC (adjL L all)) ∧ Below w.heap.size w w' := by
  have HB := Lib.hid (fun W => (nboard all W).mono fun e w' (h : e = .returned (.bool (decide (1 ≤ all ∧ all ≤ 24))) ∧ w' = W) => (show e = .returned (.bool (decide (1 ≤ all ∧ all ≤ 24))) ∧ W = w' from ⟨h.1, h.2.symm⟩))
  rw [decide_eq_true ha] at HB
  have HP := Lib.hid (points_any L A c w hL hA (by omega) hro)
  have Hro := Lib.hid hro
  have t1 : decide ((L.length : Int) > all) = false := decide_eq_false (by omega)
  have t1' : decide (all < (L.length : Int)) = false := decide_eq_false (by omega)
  clear hL hA hro
  go_enter Tryd.func21, Tryd.ntmps21
  go_wp2_with fail
  refine (HB.out _).mono ?_
  rintro ee we ⟨rfl, rfl⟩
  go_wp2_with fail
  refine HP.out.mono ?_
  rintro e w1 ⟨v, rfl, ho1, hb1⟩
  have h1 := hb1.size
  clear HP HB
  by_cases hz : L.length = 0
  · obtain ⟨P, cp, rfl⟩ := own_form ho1
    have hnil : L = [] := List.eq_nil_of_length_eq_zero hz
    subst hnil
    go_wp2_with fail
    go_loopw [29] (fun i wr => i = .int .i64 0 ∧ w1 = wr) (fun i _ => 0)
    case atStart => exact ⟨rfl, rfl⟩
    case round =>
      obtain ⟨rfl, rfl⟩ := hrel
      go_wp2
      go_ret2
      exact ⟨_, rfl, ho1, hb1⟩
  rcases ho1.2 with ⟨_, h0⟩ | ⟨g, cap, cur, rfl, hgb, hblk, hnc, hcm, hcs, htk⟩
  · omega
  have Htk := Lib.hid (show cur.toList.take (L.length * 2) = pC (mixF L all 0) from htk)
  have hgl := blk_lt hblk
  clear htk ho1
  go_wp2_with fail
  go_loopw [29] (fun i wr => ∃ (k : Nat) (cs : Array Value), k ≤ L.length ∧ i = .int .i64 (k : Int) ∧ wr.heap[g]? = some (.cells cs 23 (0, 0)) ∧ cs.size = cap * 2 ∧ Hid (cs.toList.take (L.length * 2) = pC (mixF L all k)) ∧ Below w.heap.size w wr) (fun i _ => L.length - (intOf i).toNat)
  case atStart => exact ⟨0, cur, by omega, rfl, hblk, hcs, Htk.out, hb1⟩
  case round =>
    obtain ⟨k, cs, hk, rfl, hb, hsz, htk, hbel⟩ := hrel
    have hsr := hbel.size
    have hgr := blk_lt hb
    by_cases hlt : k < L.length
    · have hg := mix_get L all k hlt
      have hcell : ∀ j, j < L.length * 2 → wr.cell? ⟨g, j, none⟩ = (pC (mixF L all k))[j]? := fun j hj => by
        rw [blk_cell hb j, ← htk.out, List.getElem?_take_of_lt hj]; simp
      have hml := mix_len L all k hk
      have hget := pC_get (mixF L all k) k (by omega)
      have hmk : (mixF L all k)[k]'(by omega) = (ptsL L)[k]'(by rw [ptsL_len]; exact hlt) := by rw [List.getElem?_eq_getElem (by omega)] at hg; exact Option.some.inj hg
      rw [hmk] at hget
      have d0 := (hcell (k * 2) (by omega)).trans hget.1
      have d1 := (hcell (k * 2 + 1) (by omega)).trans hget.2
      obtain ⟨r1, r2, r3, r4, -, -⟩ := adj_rng L Hro.out all (by omega) ⟨hn, ha.2⟩ k hlt
      have hask := adj_asks L Hro.out k hlt _ rfl
      have HQ := Lib.hid (fun W => nadjust _ (L.length : Int) all W ⟨by omega, hn⟩ ha.2 hask r1 r2 r3)
      have Hs := Lib.hid (show (mixF L all k).set k (adjF ((ptsL L)[k]'(by rw [ptsL_len]; exact hlt)) L.length all) = mixF L all (k + 1) by rw [← mix_succ L all k hlt, adjL_pt L all k hlt])
      clear hcell hml hget hmk hg r1 r2 r3 r4 hask
      generalize adjF ((ptsL L)[k]'_) (L.length : Int) all = r at HQ Hs
      generalize (ptsL L)[k]'_ = f at d0 d1 HQ
      obtain ⟨f1, f2⟩ := f
      obtain ⟨x, y⟩ := r
      unfold fV at HQ
      dsimp only at HQ d0 d1
      go_wp2_with fail
      refine (HQ.out _).mono ?_
      rintro ee wa ⟨rfl, hba⟩
      have hbw : Below wr.heap.size wr wa := ((Below.refl _ _).alloc (Nat.le_refl _) _).trans (hba.mono (by simp))
      have hb2 := blk_below hb hbw hgr
      have e0 := (hbw.cell (p := ⟨g, k * 2, none⟩) hgr).trans d0
      have e1 := (hbw.cell (p := ⟨g, k * 2 + 1, none⟩) hgr).trans d1
      have g0 := blk_free hb2 (k * 2)
      have g1 := blk_free hb2 (k * 2 + 1)
      have hB2 := hbel.trans (hbw.mono hsr)
      go_wp2
      go_roundw
      case rel =>
        refine ⟨k + 1, _, by omega, by go_num, blk_set (blk_set hb2 (k * 2) _) (k * 2 + 1) _, by simp [hsz], ?_, (hB2.setCell hgb _).setCell hgb _⟩
        show _ = pC (mixF L all (k + 1))
        rw [take_set_, take_set_, htk.out, ← Hs.out]
        exact pC_set2 _ k (by rw [mix_len L all k hk]; exact hlt) (x, y)
      case measure => simp [intOf]; omega
    · have t0 : decide ((k : Int) < (L.length : Int)) = false := decide_eq_false (by omega)
      obtain rfl : k = L.length := by omega
      have Hx := Lib.hid (show cs.toList.take (L.length * 2) = pC (adjL L all) by rw [htk.out, mix_all])
      go_wp2
      go_ret2
      exact ⟨_, rfl, ⟨by rw [pC_len, adjL_len], .inr ⟨g, cap, cs, rfl, hgb, hb, hnc, hcm, hsz, Hx.out⟩⟩, hbel⟩

end Go.Proofs.YtlobdeakgoicpaaDoor
