/- The walks of neuberg.times$1, apply over one step, and Percent for any fraction. (Written by genper.py.) -/
import Derived.Test.YtlobdeakgoicpaaDoorFracWide
namespace Go.Proofs.YtlobdeakgoicpaaDoor
open Go.RowKit

set_option maxHeartbeats 1000000 in
theorem ntimesP (f1 : Int) (a : Nat) (n d q1 : Int) (b : Nat) (r1 r2 E : Int) (g h : Nat) (w : World) (hg : w.cell? ⟨g, 0, none⟩ = some (.int .i64 n)) (hh : w.cell? ⟨h, 0, none⟩ = some (.int .i64 d)) (hn : 0 ≤ n ∧ n ≤ 1000) (hd : 1 ≤ d ∧ d ≤ 1000) (hq : fr n d = (q1, (b : Int)))
    (HA0 : ∀ W, Calls Tryd.prog 63 #[.agg #[.int .i64 f1, .int .i64 a], .agg #[.int .i64 q1, .int .i64 b]] W fun e w' => e = .returned (.tuple #[.agg #[.int .i64 r1, .int .i64 r2], .int .i64 E]) ∧ Below W.heap.size W w') :
    Calls Tryd.prog 62 #[.agg #[.int .i64 f1, .int .i64 a], .pointer (some ⟨g, 0, none⟩), .pointer (some ⟨h, 0, none⟩)] w fun e w' => e = .returned (.tuple #[.agg #[.int .i64 r1, .int .i64 r2], .int .i64 E]) ∧ Below w.heap.size w w' := by
  have HM := Lib.hid (fun W => make_pos n d W (by omega) (by omega))
  rw [hq] at HM
  dsimp only at HM
  have HA := Lib.hid HA0
  obtain ⟨f2, hf2⟩ : ∃ f2 : Int, (a : Int) = f2 := ⟨_, rfl⟩
  obtain ⟨q2, hq2⟩ : ∃ q2 : Int, (b : Int) = q2 := ⟨_, rfl⟩
  rw [hf2, hq2] at HA
  rw [hq2] at HM
  rw [hf2]
  clear hf2 hq2 hq HA0
  have hgl : g < w.heap.size := World.block_lt_of_cell? w ⟨g, 0, none⟩ hg
  have hhl : h < w.heap.size := World.block_lt_of_cell? w ⟨h, 0, none⟩ hh
  go_enter Tryd.func62, Tryd.ntmps62
  go_upto_region 1 with fail
  obtain ⟨W0, hW0⟩ : ∃ W0, ((w.alloc (.cells #[.int .i64 f1, .int .i64 f2] 23)).alloc (.cells #[.int .i64 0, .int .i64 0] 23)) = W0 := ⟨_, rfl⟩
  have hB0 : Below w.heap.size w W0 := by rw [← hW0]; exact (by repeat (first | exact Below.refl _ _ | assumption | refine Below.drew ?_ | refine below_drewN ?_ _ | refine Below.alloc ?_ (by first | omega | (simp; done) | (simp; omega)) _ | refine Below.setCell ?_ (by first | omega | (simp; done) | (simp; omega)) _))
  have k0 : W0.heap[w.heap.size]? = some (.cells #[.int .i64 f1, .int .i64 f2] 23) := by rw [← hW0]; exact blk_alloc (blk_new _ rfl) _
  have k1 : W0.heap[w.heap.size + 1]? = some (.cells #[.int .i64 0, .int .i64 0] 23) := by rw [← hW0]; exact blk_new _ (by simp)
  have s0 : W0.heap.size = w.heap.size + 2 := by rw [← hW0]; simp
  (try rw [hW0])
  clear hW0
  have cg := keepB hB0 hgl hg
  have ch := keepB hB0 hhl hh
  go_wp2_with fail
  refine (HM.out _).mono ?_
  rintro ee W1 ⟨rfl, hb1⟩
  have hb2 : Below W0.heap.size W0 (W1.alloc (.cells #[.int .i64 q1, .int .i64 q2] 23)) := hb1.alloc hb1.size _
  have m0 := blk_below k0 hb2 (by omega)
  have m1 := blk_below k1 hb2 (by omega)
  have m2 : (W1.alloc (.cells #[.int .i64 q1, .int .i64 q2] 23)).heap[W1.heap.size]? = some (.cells #[.int .i64 q1, .int .i64 q2] 23) := blk_new _ rfl
  have s2 := hb2.size
  obtain ⟨G, hG⟩ : ∃ G, W1.heap.size = G := ⟨_, rfl⟩
  go_upto_region 2 with fail
  rw [hG] at m2
  (try rw [hG])
  clear hG hb1
  generalize W1.alloc (.cells #[.int .i64 q1, .int .i64 q2] 23) = W2 at hb2 m0 m1 m2 s2 ⊢
  have c0 := blk_cell m0 0
  have c1 := blk_cell m0 1
  have c4 := blk_cell m2 0
  have c5 := blk_cell m2 1
  go_wp2_with fail
  refine (HA.out _).mono ?_
  rintro ee W3 ⟨rfl, hb3⟩
  have m1 := blk_below m1 hb3 (by omega)
  have c2 := blk_cell m1 0
  have c3 := blk_cell m1 1
  have f2' := blk_free m1 0
  have f3' := blk_free m1 1
  have hB1 := (hB0.trans (hb2.mono hB0.size)).trans (hb3.mono (by omega))
  go_wp2
  exact bodyPost_ret (v := .tuple #[.agg #[.int .i64 r1, .int .i64 r2], .int .i64 E]) (by simp [results, Tryd.results62, go_sem, c2, c3]) rfl ⟨rfl, (hB1.setCell (by show _ ≤ w.heap.size + 1; omega) _).setCell (by show _ ≤ w.heap.size + 1; omega) _⟩

set_option maxHeartbeats 2000000 in
theorem napplyP (x0 y0 x1 y1 : Int) (b t g1 g2 : Nat) (w : World) (hs : w.heap[b]? = some (.cells #[Value.func (.func 62) #[] #[.pointer (some ⟨g1, 0, none⟩), .pointer (some ⟨g2, 0, none⟩)]] t (0, 0))) (HA0 : ∀ W, Below w.heap.size w W → Calls Tryd.prog 62 #[.agg #[.int .i64 x0, .int .i64 y0], .pointer (some ⟨g1, 0, none⟩), .pointer (some ⟨g2, 0, none⟩)] W fun e w' => e = .returned (.tuple #[.agg #[.int .i64 x1, .int .i64 y1], .int .i64 0]) ∧ Below W.heap.size W w') :
    Calls Tryd.prog 36 #[.agg #[.int .i64 x0, .int .i64 y0], .slice (some ⟨b, 0, none⟩) 1 1] w fun e w' => e = .returned (.tuple #[.agg #[.int .i64 x1, .int .i64 y1], .int .i64 0]) ∧ Below w.heap.size w w' := by
  have hbl := blk_lt hs
  have HS0 := Lib.hid HA0
  have Hs := Lib.hid hs
  clear hs HA0
  go_enter Tryd.func36, Tryd.ntmps36
  go_wp2_with fail
  obtain ⟨W0, hW0⟩ : ∃ W0, ((w.alloc (.cells #[.int .i64 x0, .int .i64 y0] 23)).alloc (.cells #[.int .i64 0, .int .i64 0] 23)) = W0 := ⟨_, rfl⟩
  have hB0 : Below w.heap.size w W0 := by rw [← hW0]; exact (by repeat (first | exact Below.refl _ _ | assumption | refine Below.drew ?_ | refine below_drewN ?_ _ | refine Below.alloc ?_ (by first | omega | (simp; done) | (simp; omega)) _ | refine Below.setCell ?_ (by first | omega | (simp; done) | (simp; omega)) _))
  have k0 : W0.heap[w.heap.size]? = some (.cells #[.int .i64 x0, .int .i64 y0] 23) := by rw [← hW0]; exact blk_alloc (blk_new _ rfl) _
  have k1 : W0.heap[w.heap.size + 1]? = some (.cells #[.int .i64 0, .int .i64 0] 23) := by rw [← hW0]; exact blk_new _ (by simp)
  have s0 : W0.heap.size = w.heap.size + 2 := by rw [← hW0]; simp
  (try rw [hW0])
  clear hW0
  go_loopw [12] (fun i wr => ∃ (k : Nat) (x y : Int), k ≤ 1 ∧ i = .int .i64 (k : Int) ∧ Hid ([(x0, y0), (x1, y1)][k]? = some (x, y)) ∧ wr.heap[w.heap.size]? = some (.cells #[.int .i64 x, .int .i64 y] 23) ∧ wr.heap[w.heap.size + 1]? = some (.cells #[.int .i64 0, .int .i64 0] 23) ∧ Below w.heap.size w wr) (fun i _ => 1 - (intOf i).toNat)
  case atStart => exact ⟨0, x0, y0, by omega, rfl, rfl, k0, k1, hB0⟩
  case round =>
    obtain ⟨k, x, y, hk, rfl, hv, j0, j1, hbel⟩ := hrel
    have hsr := hbel.size
    have jl := blk_lt j1
    by_cases hlt : k < 1
    · have hv := hv.out
      have hst := blk_below Hs.out hbel hbl
      obtain rfl : k = 0 := by omega
      obtain ⟨rfl, rfl⟩ : x0 = x ∧ y0 = y := by have h := Option.some.inj hv; exact ⟨congrArg Prod.fst h, congrArg Prod.snd h⟩
      have q0 : wr.cell? ⟨b, 0, none⟩ = _ := blk_cell hst 0
      have q1 := blk_cell j0 0
      have q2 := blk_cell j0 1
      go_wp2_with fail
      refine (HS0.out _ hbel).mono ?_
      rintro ee wa ⟨rfl, hba⟩
      have hb2 : Below wr.heap.size wr (wa.alloc (.cells #[.int .i64 x1, .int .i64 y1] 23)) := hba.alloc hba.size _
      have m0 := blk_below j0 hb2 (by omega)
      have m1 := blk_below j1 hb2 jl
      have m2 : (wa.alloc (.cells #[.int .i64 x1, .int .i64 y1] 23)).heap[wa.heap.size]? = some (.cells #[.int .i64 x1, .int .i64 y1] 23) := blk_new _ rfl
      have hB2 := hbel.trans (hb2.mono hsr)
      go_upto_region 5 with fail
      generalize wa.alloc (.cells #[.int .i64 x1, .int .i64 y1] 23) = W2 at hb2 m0 m1 m2 hB2 ⊢
      have c0 := blk_cell m0 0
      have c1 := blk_cell m0 1
      have g0 := blk_free m0 0
      have g1 := blk_free m0 1
      have c4 := blk_cell m2 0
      have c5 := blk_cell m2 1
      go_wp2
      go_roundw
      case rel => exact ⟨1, x1, y1, by omega, by go_num, rfl, blk_set (blk_set m0 0 _) 1 _, blk_far (blk_far m1 (by show w.heap.size + 1 ≠ w.heap.size; omega) _) (by show w.heap.size + 1 ≠ w.heap.size; omega) _, (hB2.setCell (Nat.le_refl _) _).setCell (Nat.le_refl _) _⟩
      case measure => simp [intOf]
    · have t0 : decide ((k : Int) < 1) = false := decide_eq_false (by omega)
      obtain rfl : k = 1 := by omega
      obtain ⟨rfl, rfl⟩ : x1 = x ∧ y1 = y := by have h := Option.some.inj hv.out; exact ⟨congrArg Prod.fst h, congrArg Prod.snd h⟩
      have c0 := blk_cell j0 0
      have c1 := blk_cell j0 1
      have c2 := blk_cell j1 0
      have c3 := blk_cell j1 1
      have g0 := blk_free j1 0
      have g1 := blk_free j1 1
      go_wp2
      exact bodyPost_ret (v := .tuple #[.agg #[.int .i64 x1, .int .i64 y1], .int .i64 0]) (by simp [results, Tryd.results36, go_sem, c2, c3]) rfl ⟨rfl, (hbel.setCell (by show _ ≤ w.heap.size + 1; omega) _).setCell (by show _ ≤ w.heap.size + 1; omega) _⟩

/-! ### The walk of neuberg.Adjust for matchpoints that are right. -/

set_option maxHeartbeats 2000000 in
theorem napplyE (x0 y0 x1 y1 E : Int) (b t g1 g2 : Nat) (w : World) (hs : w.heap[b]? = some (.cells #[Value.func (.func 62) #[] #[.pointer (some ⟨g1, 0, none⟩), .pointer (some ⟨g2, 0, none⟩)]] t (0, 0))) (hE : E ≠ 0) (HA0 : ∀ W, Below w.heap.size w W → Calls Tryd.prog 62 #[.agg #[.int .i64 x0, .int .i64 y0], .pointer (some ⟨g1, 0, none⟩), .pointer (some ⟨g2, 0, none⟩)] W fun e w' => e = .returned (.tuple #[.agg #[.int .i64 x1, .int .i64 y1], .int .i64 E]) ∧ Below W.heap.size W w') :
    Calls Tryd.prog 36 #[.agg #[.int .i64 x0, .int .i64 y0], .slice (some ⟨b, 0, none⟩) 1 1] w fun e w' => e = .returned (.tuple #[.agg #[.int .i64 0, .int .i64 0], .int .i64 E]) ∧ Below w.heap.size w w' := by
  have hbl := blk_lt hs
  have HS0 := Lib.hid HA0
  have Hs := Lib.hid hs
  clear hs HA0
  go_enter Tryd.func36, Tryd.ntmps36
  go_wp2_with fail
  obtain ⟨W0, hW0⟩ : ∃ W0, ((w.alloc (.cells #[.int .i64 x0, .int .i64 y0] 23)).alloc (.cells #[.int .i64 0, .int .i64 0] 23)) = W0 := ⟨_, rfl⟩
  have hB0 : Below w.heap.size w W0 := by rw [← hW0]; exact (by repeat (first | exact Below.refl _ _ | assumption | refine Below.drew ?_ | refine below_drewN ?_ _ | refine Below.alloc ?_ (by first | omega | (simp; done) | (simp; omega)) _ | refine Below.setCell ?_ (by first | omega | (simp; done) | (simp; omega)) _))
  have k0 : W0.heap[w.heap.size]? = some (.cells #[.int .i64 x0, .int .i64 y0] 23) := by rw [← hW0]; exact blk_alloc (blk_new _ rfl) _
  have k1 : W0.heap[w.heap.size + 1]? = some (.cells #[.int .i64 0, .int .i64 0] 23) := by rw [← hW0]; exact blk_new _ (by simp)
  have s0 : W0.heap.size = w.heap.size + 2 := by rw [← hW0]; simp
  (try rw [hW0])
  clear hW0
  go_loopw [12] (fun i wr => ∃ (k : Nat) (x y : Int), Hid (k < 1) ∧ i = .int .i64 (k : Int) ∧ Hid ([(x0, y0), (x1, y1)][k]? = some (x, y)) ∧ wr.heap[w.heap.size]? = some (.cells #[.int .i64 x, .int .i64 y] 23) ∧ wr.heap[w.heap.size + 1]? = some (.cells #[.int .i64 0, .int .i64 0] 23) ∧ Below w.heap.size w wr) (fun i _ => 1 - (intOf i).toNat)
  case atStart => exact ⟨0, x0, y0, (by decide : 0 < 1), rfl, rfl, k0, k1, hB0⟩
  case round =>
    obtain ⟨k, x, y, hz, rfl, hv, j0, j1, hbel⟩ := hrel
    have hsr := hbel.size
    have jl := blk_lt j1
    by_cases hlt : k < 1
    · have hv := hv.out
      have hst := blk_below Hs.out hbel hbl
      obtain rfl : k = 0 := by omega
      obtain ⟨rfl, rfl⟩ : x0 = x ∧ y0 = y := by have h := Option.some.inj hv; exact ⟨congrArg Prod.fst h, congrArg Prod.snd h⟩
      have q0 : wr.cell? ⟨b, 0, none⟩ = _ := blk_cell hst 0
      have q1 := blk_cell j0 0
      have q2 := blk_cell j0 1
      go_wp2_with fail
      refine (HS0.out _ hbel).mono ?_
      rintro ee wa ⟨rfl, hba⟩
      have hb2 : Below wr.heap.size wr (wa.alloc (.cells #[.int .i64 x1, .int .i64 y1] 23)) := hba.alloc hba.size _
      have m1 := blk_below j1 hb2 jl
      have hB2 := hbel.trans (hb2.mono hsr)
      have tE : (E != 0) = true := by rw [bne_iff_ne]; exact hE
      go_upto_region 5 with fail
      generalize wa.alloc (.cells #[.int .i64 x1, .int .i64 y1] 23) = W2 at hb2 m1 hB2 ⊢
      have c2 := blk_cell m1 0
      have c3 := blk_cell m1 1
      have g0 := blk_free m1 0
      have g1 := blk_free m1 1
      go_wp2
      have z := blk_set (blk_set m1 0 (.int .i64 0)) 1 (.int .i64 0)
      have z0 := blk_cell z 0
      have z1 := blk_cell z 1
      exact bodyPost_ret (v := .tuple #[.agg #[.int .i64 0, .int .i64 0], .int .i64 E]) (by simp [results, Tryd.results36, go_sem, z0, z1]) rfl ⟨rfl, (hB2.setCell (by show _ ≤ w.heap.size + 1; omega) _).setCell (by show _ ≤ w.heap.size + 1; omega) _⟩
    · exact absurd hz.out hlt


set_option maxHeartbeats 2000000 in
theorem npercentP (f1 : Int) (a : Nat) (all : Int) (w : World) (hf1 : -9223372036854775808 ≤ f1 ∧ f1 ≤ 9223372036854775807) (ha2 : 1 ≤ a ∧ a ≤ 9223372036854775807) (ha : 2 ≤ all ∧ all ≤ 24) (hr : rightF (f1, (a : Int)) = true) (q1 : Int) (b : Nat) (hq : fr 100 (2 * (all - 1)) = (q1, (b : Int))) (x y E : Int)
    (HA0 : ∀ W, Calls Tryd.prog 63 #[.agg #[.int .i64 f1, .int .i64 a], .agg #[.int .i64 q1, .int .i64 b]] W fun e w' => e = .returned (.tuple #[.agg #[.int .i64 x, .int .i64 y], .int .i64 E]) ∧ Below W.heap.size W w') (hz : E ≠ 0 → x = 0 ∧ y = 0) :
    Calls Tryd.prog 15 #[.agg #[.int .i64 f1, .int .i64 a], .int .i64 all] w fun e w' => e = .returned (.tuple #[.agg #[.int .i64 x, .int .i64 y], .int .i64 E]) ∧ Below w.heap.size w w' := by
  have HB := Lib.hid (fun W => nboard2 all W (by omega))
  have HR := Lib.hid (fun W => right_all f1 (a : Int) hf1 (by omega) W)
  rw [hr] at HR
  obtain ⟨T, hT⟩ : ∃ T : Int, 2 * (all - 1) = T := ⟨_, rfl⟩
  have HT := Lib.hid (fun W => topN_any all W (by omega))
  rw [if_neg (by omega)] at HT
  rw [hT] at HT hq
  have HA := Lib.hid (fun (W : World) (bb t g1 g2 : Nat) (hs : W.heap[bb]? = some (.cells #[Value.func (.func 62) #[] #[.pointer (some ⟨g1, 0, none⟩), .pointer (some ⟨g2, 0, none⟩)]] t (0, 0))) (c0 : W.cell? ⟨g1, 0, none⟩ = some (.int .i64 100)) (d0 : W.cell? ⟨g2, 0, none⟩ = some (.int .i64 T)) => (show Calls Tryd.prog 36 #[.agg #[.int .i64 f1, .int .i64 a], .slice (some ⟨bb, 0, none⟩) 1 1] W fun e w' => e = .returned (.tuple #[.agg #[.int .i64 x, .int .i64 y], .int .i64 E]) ∧ Below W.heap.size W w' from by
    have HS0 : ∀ V, Below W.heap.size W V → Calls Tryd.prog 62 #[.agg #[.int .i64 f1, .int .i64 a], .pointer (some ⟨g1, 0, none⟩), .pointer (some ⟨g2, 0, none⟩)] V fun e w' => e = .returned (.tuple #[.agg #[.int .i64 x, .int .i64 y], .int .i64 E]) ∧ Below V.heap.size V w' := fun V hV =>
      ntimesP f1 a 100 T q1 b x y E g1 g2 V ((hV.cell (p := ⟨g1, 0, none⟩) (World.block_lt_of_cell? W _ c0)).trans c0) ((hV.cell (p := ⟨g2, 0, none⟩) (World.block_lt_of_cell? W _ d0)).trans d0) (by omega) (by omega) hq HA0
    by_cases hE : E = 0
    · subst hE
      exact napplyP f1 (a : Int) x y bb t g1 g2 W hs HS0
    · obtain ⟨rfl, rfl⟩ := hz hE
      exact napplyE f1 (a : Int) 0 0 E bb t g1 g2 W hs hE HS0))
  obtain ⟨f2, hf2⟩ : ∃ f2 : Int, (a : Int) = f2 := ⟨_, rfl⟩
  rw [hf2] at HA HR ⊢
  clear hf2 hq HA0 hz hr hf1 ha2
  have t1 : (all == 1) = false := beq_eq_false_iff_ne.2 (by omega)
  have t2 : ¬ all = 1 := by omega
  clear hT
  go_enter Tryd.func15, Tryd.ntmps15
  go_upto_region 1 with fail
  obtain ⟨W0, hW0⟩ : ∃ W0, ((w.alloc (.cells #[.int .i64 f1, .int .i64 f2] 23)).alloc (.cells #[.int .i64 0, .int .i64 0] 23)) = W0 := ⟨_, rfl⟩
  have hB0 : Below w.heap.size w W0 := by rw [← hW0]; exact (by repeat (first | exact Below.refl _ _ | assumption | refine Below.drew ?_ | refine below_drewN ?_ _ | refine Below.alloc ?_ (by first | omega | (simp; done) | (simp; omega)) _ | refine Below.setCell ?_ (by first | omega | (simp; done) | (simp; omega)) _))
  have k0 : W0.heap[w.heap.size]? = some (.cells #[.int .i64 f1, .int .i64 f2] 23) := by rw [← hW0]; exact blk_alloc (blk_new _ rfl) _
  have k1 : W0.heap[w.heap.size + 1]? = some (.cells #[.int .i64 0, .int .i64 0] 23) := by rw [← hW0]; exact blk_new _ (by simp)
  have s0 : W0.heap.size = w.heap.size + 2 := by rw [← hW0]; simp
  (try rw [hW0])
  clear hW0
  have c0 := blk_cell k0 0
  have c1 := blk_cell k0 1
  go_wp2_with fail
  refine (HB.out _).mono ?_
  rintro ee we ⟨rfl, rfl⟩
  go_wp2_with fail
  refine (HR.out _).mono ?_
  rintro ee W1 ⟨rfl, hb1⟩
  have m0 := blk_below k0 hb1 (by omega)
  have m1 := blk_below k1 hb1 (by omega)
  have c0 := blk_cell m0 0
  have c1 := blk_cell m0 1
  have hB1 := hB0.trans (hb1.mono hB0.size)
  have sz1 := hb1.size
  go_upto_region 5 with fail
  obtain ⟨WX, hWX⟩ : ∃ WX, (((W1.alloc (.cells #[.int .i64 100] 3)).alloc (.cells #[.int .i64 T] 3)).alloc (.cells #[.func (.func 62) #[] #[.pointer (some ⟨W1.heap.size, 0, none⟩), .pointer (some ⟨W1.heap.size + 1, 0, none⟩)]] 70)) = WX := ⟨_, rfl⟩
  have x0 : WX.heap[W1.heap.size]? = some (.cells #[.int .i64 100] 3) := by rw [← hWX]; exact blk_alloc (blk_alloc (blk_new _ rfl) _) _
  have x1 : WX.heap[W1.heap.size + 1]? = some (.cells #[.int .i64 T] 3) := by rw [← hWX]; exact blk_alloc (blk_new _ (by simp)) _
  have x4 : WX.heap[W1.heap.size + 1 + 1]? = some (.cells #[.func (.func 62) #[] #[.pointer (some ⟨W1.heap.size, 0, none⟩), .pointer (some ⟨W1.heap.size + 1, 0, none⟩)]] 70) := by rw [← hWX]; exact blk_new _ (by simp)
  have hBX : Below W1.heap.size W1 WX := by rw [← hWX]; exact (by repeat (first | exact Below.refl _ _ | assumption | refine Below.drew ?_ | refine below_drewN ?_ _ | refine Below.alloc ?_ (by first | omega | (simp; done) | (simp; omega)) _ | refine Below.setCell ?_ (by first | omega | (simp; done) | (simp; omega)) _))
  have HX := HA.out WX.drew _ _ _ _ x4 (blk_cell x0 0) (blk_cell x1 0)
  have HX2 := HX.mono fun ee wa (h : ee = .returned (.tuple #[.agg #[.int .i64 x, .int .i64 y], .int .i64 E]) ∧ Below WX.drew.heap.size WX.drew wa) =>
    (show ee = .returned (.tuple #[.agg #[.int .i64 x, .int .i64 y], .int .i64 E]) ∧ Below w.heap.size w wa ∧ wa.cell? ⟨w.heap.size, 0, none⟩ = some (.int .i64 f1) ∧ wa.cell? ⟨w.heap.size, 1, none⟩ = some (.int .i64 f2) ∧ wa.cell? ⟨w.heap.size + 1, 0, none⟩ = some (.int .i64 0) ∧ wa.cell? ⟨w.heap.size + 1, 1, none⟩ = some (.int .i64 0) ∧ wa.frozen? ⟨w.heap.size + 1, 0, none⟩ = false ∧ wa.frozen? ⟨w.heap.size + 1, 1, none⟩ = false from
      have hb : Below W1.heap.size W1 wa := hBX.drew.trans (h.2.mono hBX.size)
      have a0 := blk_below m0 hb (by omega)
      have a1 := blk_below m1 hb (by omega)
      ⟨h.1, hB1.trans (hb.mono hB1.size), blk_cell a0 0, blk_cell a0 1, blk_cell a1 0, blk_cell a1 1, blk_free a1 0, blk_free a1 1⟩)
  rw [← hWX] at HX2
  have HX3 := Lib.hid HX2
  have HK := Lib.hid (fun (w' : World) (h : ∀ (p : Addr) (v : Value), W1.cell? p = some v → w'.cell? p = some v) => (show w'.cell? ⟨w.heap.size, 0, none⟩ = some (.int .i64 f1) ∧ w'.cell? ⟨w.heap.size, 1, none⟩ = some (.int .i64 f2) from ⟨h _ _ c0, h _ _ c1⟩))
  have ne0 : w.heap.size + 1 ≠ w.heap.size := by omega
  clear HX HX2 hWX x0 x1 x4 hBX HA HB HR t1 t2 ha
  go_region_held3 (fun w' => w'.cell? ⟨w.heap.size, 0, none⟩ = some (.int .i64 f1) ∧ w'.cell? ⟨w.heap.size, 1, none⟩ = some (.int .i64 f2)) ((first | exact ⟨keepS (keepS hk0 ne0 _) ne0 _, keepS (keepS hk1 ne0 _) ne0 _⟩ | exact ⟨hk0, hk1⟩ | exact HK.out _ (fun p v h => h) | exact HK.out _ (fun p v h => keepC (keepC h _) _) | exact HK.out _ (fun p v h => keepC (keepC (keepC h _) _) _)))
    ((first
      | (go_at_call 35; (with_reducible refine (HT.out _).mono ?_); rintro ee we ⟨rfl, rfl⟩)
      | (go_at_call 38; (with_reducible refine (ntimes _ _ _).mono ?_); rintro ee we ⟨rfl, rfl⟩)
      | (go_at_call 36; refine HX3.out.mono ?_; rintro ee wa ⟨rfl, hBa, hk0, hk1, hc2, hc3, hf2, hf3⟩)))
  go_wp2
  exact bodyPost_ret (v := .tuple #[.agg #[.int .i64 x, .int .i64 y], .int .i64 E]) (by simp [results, Tryd.results15, go_sem, hc2, hc3]) rfl ⟨rfl, (hBa.setCell (by show _ ≤ w.heap.size + 1; omega) _).setCell (by show _ ≤ w.heap.size + 1; omega) _⟩

end Go.Proofs.YtlobdeakgoicpaaDoor
