/- The walk of frac.Sum for fractions that are not too great, and Right, Add, Cmp by pairs. -/
import Derived.Test.YtlobdeakgoicpaaDoorFracCmp
import Derived.Test.YtlobdeakgoicpaaDoorMatW2
namespace Go.Proofs.YtlobdeakgoicpaaDoor
open Go.RowKit

theorem sm_form {f : Pt} (h : smF f) : ∃ (n : Int) (a : Nat), f = (n, (a : Int)) := ⟨f.1, f.2.toNat, by have := h.1.1; exact Prod.ext rfl (by show f.2 = _; omega)⟩

theorem right_sm (f : Pt) (hf : smF f) (w : World) : Calls Tryd.prog 34 #[fV f] w fun e w' => e = .returned (.bool true) ∧ Below w.heap.size w w' := by
  obtain ⟨n, a, rfl⟩ := sm_form hf
  exact right_low n a hf w

theorem add_sm (f g : Pt) (hf : smF f) (hg : smF g) (w : World) : Calls Tryd.prog 50 #[fV f, fV g, .bool (decide (g.1 < 0))] w fun e w' => e = .returned (.tuple #[fV (addF f g), .int .i64 0]) ∧ Below w.heap.size w w' := by
  obtain ⟨n, a, rfl⟩ := sm_form hf
  obtain ⟨m, b, rfl⟩ := sm_form hg
  exact add_low n m a b hf hg w

theorem fadd_sm (f g : Pt) (hf : smF f) (hg : smF g) (w : World) : Calls Tryd.prog 25 #[fV f, fV g] w fun e w' => e = .returned (.tuple #[fV (addF f g), .int .i64 0]) ∧ Below w.heap.size w w' := by
  obtain ⟨n, a, rfl⟩ := sm_form hf
  obtain ⟨m, b, rfl⟩ := sm_form hg
  exact fadd_low n m a b hf hg w

theorem fcmp_sm (f g : Pt) (hf : smF f) (hg : smF g) (w : World) : Calls Tryd.prog 29 #[fV f, fV g] w fun e w' => e = .returned (.tuple #[.int .i64 (cmpF f g), .int .i64 0]) ∧ Below w.heap.size w w' := by
  obtain ⟨n, a, rfl⟩ := sm_form hf
  obtain ⟨m, b, rfl⟩ := sm_form hg
  exact fcmp_low n m a b hf hg w

/-- The sum of the first fractions of a list. -/
def sumK (l : List Pt) (k : Nat) : Pt := (l.take k).foldl addF (0, 1)
theorem sumK_succ (l : List Pt) (k : Nat) (h : k < l.length) : sumK l (k + 1) = addF (sumK l k) l[k] := by
  unfold sumK; rw [List.take_succ_eq_append_getElem h, List.foldl_append]; rfl

set_option maxHeartbeats 2000000 in
theorem sum_sm (l : List Pt) (A : Option Addr) (c : Nat) (w : World) (hl : Rd w w.heap.size 2 A l.length (pC l)) (hn : l.length ≤ 1000) (h1 : ∀ f ∈ l, smF f) (h2 : ∀ k, k ≤ l.length → smF (sumK l k)) :
    Calls Tryd.prog 30 #[.slice A l.length c] w fun e w' => e = .returned (.tuple #[fV (sumK l l.length), .int .i64 0]) ∧ Below w.heap.size w w' := by
  have Hl := Lib.hid hl
  have H1 := Lib.hid h1
  have H2 := Lib.hid h2
  clear hl h1 h2
  go_enter Tryd.func30, Tryd.ntmps30
  go_wp2
  obtain ⟨W0, hW0⟩ : ∃ W0, w.alloc (.cells #[.int .i64 0, .int .i64 0] 23) = W0 := ⟨_, rfl⟩
  have hB0 : Below w.heap.size w W0 := by rw [← hW0]; exact (by repeat (first | exact Below.refl _ _ | assumption | refine Below.drew ?_ | refine below_drewN ?_ _ | refine Below.alloc ?_ (by first | omega | (simp; done) | (simp; omega)) _ | refine Below.setCell ?_ (by first | omega | (simp; done) | (simp; omega)) _))
  have k0 : W0.heap[w.heap.size]? = some (.cells #[.int .i64 0, .int .i64 0] 23) := by rw [← hW0]; exact blk_new _ rfl
  have s0 : W0.heap.size = w.heap.size + 1 := by rw [← hW0]; simp
  rw [hW0]
  clear hW0
  go_loopw [13] (fun i wr => ∃ k : Nat, k ≤ l.length ∧ i = .int .i64 (k : Int) ∧ Below W0.heap.size W0 wr) (fun i _ => l.length - (intOf i).toNat)
  case atStart => exact ⟨0, by omega, rfl, Below.refl _ _⟩
  case round =>
    obtain ⟨k, hk, rfl, hbel⟩ := hrel
    have hsr := hbel.size
    by_cases hlt : k < l.length
    · obtain ⟨b, off, rfl, hbw, hc1, hc2⟩ := rd_p Hl.out k hlt
      have hbo := hB0.trans (hbel.mono (by omega))
      have hd1 := (bcell hbo b (off + k * 2) hbw).trans hc1
      have hd2 := (bcell hbo b (off + k * 2 + 1) hbw).trans hc2
      have HQ := Lib.hid (fun W => right_sm l[k] (H1.out _ (List.getElem_mem hlt)) W)
      clear hc1 hc2
      generalize l[k] = f at hd1 hd2 HQ
      obtain ⟨f1, f2⟩ := f
      dsimp only at hd1 hd2
      unfold fV at HQ
      dsimp only at HQ
      go_wp2_with fail
      refine (HQ.out _).mono ?_
      rintro e w1 ⟨rfl, hb1⟩
      have hb2 := (hbel.alloc hsr _).trans (hb1.mono (by simp; omega))
      go_wp2
      go_roundw
      case rel => exact ⟨k + 1, by omega, by go_num, hb2⟩
      case measure => simp [intOf]; omega
    · have t0 : decide ((k : Int) < (l.length : Int)) = false := decide_eq_false (by omega)
      have k1 := blk_below k0 hbel (by omega)
      have hB1 : Below w.heap.size w wr := hB0.trans (hbel.mono (by omega))
      have s1 : w.heap.size + 1 ≤ wr.heap.size := by omega
      clear hbel hB0 k0 t0
      obtain ⟨w1, hw1⟩ : ∃ w1 : World, w1 = wr := ⟨_, rfl⟩
      rw [← hw1] at k1 hB1 s1 ⊢
      clear hw1 hsr hk
      go_wp2_with fail
      obtain ⟨H, hH⟩ : ∃ H, w1.heap.size = H := ⟨_, rfl⟩
      rw [hH]
      have hBx : Below H w1 (w1.alloc (.cells #[.int .i64 0, .int .i64 1] 23)) := by rw [← hH]; exact (by repeat (first | exact Below.refl _ _ | assumption | refine Below.drew ?_ | refine below_drewN ?_ _ | refine Below.alloc ?_ (by first | omega | (simp; done) | (simp; omega)) _ | refine Below.setCell ?_ (by first | omega | (simp; done) | (simp; omega)) _))
      have kx : (w1.alloc (.cells #[.int .i64 0, .int .i64 1] 23)).heap[H]? = some (.cells #[.int .i64 0, .int .i64 1] 23) := blk_new _ hH.symm
      have hsH : w.heap.size + 1 ≤ H := by omega
      go_loopw [25] (fun i wr => ∃ (j : Nat) (f : Pt), j ≤ l.length ∧ i = .int .i64 (j : Int) ∧ Hid (f = sumK l j) ∧ wr.heap[H]? = some (.cells #[.int .i64 f.1, .int .i64 f.2] 23) ∧ Below H w1 wr) (fun i _ => l.length - (intOf i).toNat)
      case atStart => exact ⟨0, (0, 1), by omega, rfl, rfl, kx, hBx⟩
      case round =>
        obtain ⟨j, ⟨x1, x2⟩, hj, rfl, hf, hk6, hbel⟩ := hrel
        dsimp only at hk6
        have hl6 := blk_lt hk6
        by_cases hlt : j < l.length
        · obtain ⟨b, off, rfl, hbw, hc1, hc2⟩ := rd_p Hl.out j hlt
          have hbo := hB1.trans (hbel.mono (by omega))
          have hd1 := (bcell hbo b (off + j * 2) hbw).trans hc1
          have hd2 := (bcell hbo b (off + j * 2 + 1) hbw).trans hc2
          have h3 := H2.out j hj
          rw [← show _ = _ from hf.out] at h3
          have HA := Lib.hid (fun W => add_sm (x1, x2) l[j] h3 (H1.out _ (List.getElem_mem hlt)) W)
          have Hn := Lib.hid (show sumK l (j + 1) = addF (x1, x2) l[j] by rw [sumK_succ l j hlt, ← show _ = _ from hf.out])
          clear hc1 hc2 h3 hf
          generalize l[j] = g at hd1 hd2 HA Hn
          generalize addF (x1, x2) g = r at HA Hn
          obtain ⟨g1, g2⟩ := g
          obtain ⟨r1, r2⟩ := r
          dsimp only at hd1 hd2
          unfold fV at HA
          dsimp only at HA
          go_upto_region 11 with fail
          obtain ⟨W2, hW2⟩ : ∃ W2, wr.alloc (.cells #[.int .i64 g1, .int .i64 g2] 23) = W2 := ⟨_, rfl⟩
          obtain ⟨G, hG⟩ : ∃ G, wr.heap.size = G := ⟨_, rfl⟩
          have n8 : W2.heap[G]? = some (.cells #[.int .i64 g1, .int .i64 g2] 23) := by rw [← hW2]; exact blk_new _ hG.symm
          have n6 : W2.heap[H]? = some (.cells #[.int .i64 x1, .int .i64 x2] 23) := by rw [← hW2]; exact blk_alloc hk6 _
          have hBw : Below H w1 W2 := by rw [← hW2]; exact hbel.alloc (by omega) _
          have sG : W2.heap.size = G + 1 := by rw [← hW2]; simp; omega
          rw [hW2, hG]
          clear hW2
          have q0 := blk_cell n6 0
          have q1 := blk_cell n6 1
          have q2 := blk_cell n8 0
          have q3 := blk_cell n8 1
          go_wp2_with fail
          refine (HA.out _).mono ?_
          rintro ee wa ⟨rfl, hba⟩
          have hba2 := hba.alloc hba.size (.cells #[.int .i64 r1, .int .i64 r2] 23)
          have m6 := blk_below n6 hba2 (by omega)
          have m9 : (wa.alloc (.cells #[.int .i64 r1, .int .i64 r2] 23)).heap[wa.heap.size]? = some (.cells #[.int .i64 r1, .int .i64 r2] 23) := blk_new _ rfl
          go_upto_region 12 with fail
          generalize wa.alloc (.cells #[.int .i64 r1, .int .i64 r2] 23) = W3 at hba2 m6 m9 ⊢
          have hf0 := blk_free m6 0
          have hf1 := blk_free m6 1
          have hc0 := blk_cell m6 0
          have hc1 := blk_cell m6 1
          have hc2 := blk_cell m9 0
          have hc3 := blk_cell m9 1
          have hBz := hBw.trans (hba2.mono (by omega))
          go_wp2
          go_roundw
          case rel => exact ⟨j + 1, (r1, r2), by omega, by go_num, Hn.out.symm, blk_set (blk_set m6 0 _) 1 _, (hBz.setCell (Nat.le_refl _) _).setCell (Nat.le_refl _) _⟩
          case measure => simp [intOf]; omega
        · have t0 : decide ((j : Int) < (l.length : Int)) = false := decide_eq_false (by omega)
          obtain rfl : j = l.length := by omega
          have hc0 := blk_cell hk6 0
          have hc1 := blk_cell hk6 1
          have k2 := blk_below k1 hbel (by omega)
          have hf0 := blk_free k2 0
          have hf1 := blk_free k2 1
          have hc2 := blk_cell k2 0
          have hc3 := blk_cell k2 1
          have hB2 := hB1.trans (hbel.mono (by omega))
          go_wp2
          exact bodyPost_ret (v := .tuple #[.agg #[.int .i64 x1, .int .i64 x2], .int .i64 0]) (by simp [results, Tryd.results30, go_sem, hc2, hc3]) rfl ⟨(by rw [← show _ = sumK l l.length from hf.out]; rfl), (hB2.setCell (Nat.le_refl _) _).setCell (Nat.le_refl _) _⟩

end Go.Proofs.YtlobdeakgoicpaaDoor
