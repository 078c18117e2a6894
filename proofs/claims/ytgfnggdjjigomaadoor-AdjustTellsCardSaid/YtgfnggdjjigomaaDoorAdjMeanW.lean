/- The walks of adjust.mean, Mean. -/
import Derived.Test.YtgfnggdjjigomaaDoorAdjSideW2
import Derived.Test.YtgfnggdjjigomaaDoorFracNegW
namespace Go.Proofs.YtgfnggdjjigomaaDoor
open Go.RowKit

/-- The points on average. -/
def meanS (l : List Pt) : Int := sumF l fun p => p.1 * p.2
def meanF (l : List Pt) : Pt := fr (meanS l) 100
theorem sumTo_abs (l : List Pt) (f : Pt → Int) (B : Int) (hf : ∀ p ∈ l, -B ≤ f p ∧ f p ≤ B) (k : Nat) (h : k ≤ l.length) : -(B * k) ≤ sumTo l f k ∧ sumTo l f k ≤ B * k := by
  induction k with
  | zero => simp [sumTo]
  | succ k ih =>
    have := ih (by omega)
    have := hf l[k] (List.getElem_mem (by omega))
    rw [sumTo_succ l f k (by omega)]
    have e : B * ((k + 1 : Nat) : Int) = B * k + B := by rw [Int.natCast_add, Int.mul_add]; simp
    omega
theorem prod_bd (p : Pt) (h : okPt p = true) : -1000000 ≤ p.1 * p.2 ∧ p.1 * p.2 ≤ 1000000 := by
  obtain ⟨⟨h1, h2⟩, h3, h4⟩ := (okPt_iff p).1 h
  constructor
  · have : (-p.1) * p.2 ≤ 10000 * 100 := by
      by_cases hn : 0 ≤ -p.1
      · exact Int.mul_le_mul (by omega) h2 (by omega) (by omega)
      · have : (-p.1) * p.2 ≤ 0 := Int.mul_nonpos_of_nonpos_of_nonneg (by omega) (by omega)
        omega
    rw [Int.neg_mul] at this; omega
  · by_cases hn : 0 ≤ p.1
    · have := Int.mul_le_mul (show p.1 ≤ 10000 by omega) h2 (by omega) (by omega); omega
    · have : p.1 * p.2 ≤ 0 := Int.mul_nonpos_of_nonpos_of_nonneg (by omega) (by omega)
      omega
theorem meanS_bd (l : List Pt) (h : rightM l = true) : -4000000 ≤ meanS l ∧ meanS l ≤ 4000000 := by
  obtain ⟨_, h4, hok, _⟩ := (rightM_iff l).1 h
  have := sumTo_abs l (fun p => p.1 * p.2) 1000000 (fun p hp => prod_bd p (hok p hp)) l.length (Nat.le_refl _)
  rw [sumTo_all] at this
  unfold meanS
  omega

set_option maxHeartbeats 4000000 in
theorem mean_any (l : List Pt) (A : Option Addr) (c : Nat) (w : World) (hl : Rd w w.heap.size 2 A l.length (pC l)) (hr : rightM l = true) :
    Calls Tryd.prog 35 #[.slice A l.length c] w fun e w' => e = .returned (.tuple #[.agg #[.int .i64 (meanF l).1, .int .i64 (meanF l).2], .int .i64 0]) ∧ Below w.heap.size w w' := by
  have hsb := meanS_bd l hr
  have HMk := Lib.hid (fun W => make_any (meanS l) 100 W (by omega) (by omega))
  have hri := (rightM_iff l).1 hr
  have hn4 : 1 ≤ l.length ∧ l.length ≤ 4 := ⟨hri.1, hri.2.1⟩
  have Hok := Lib.hid hri.2.2.1
  have Hl := Lib.hid hl
  unfold meanF
  obtain ⟨r, hrr⟩ : ∃ r, fr (meanS l) 100 = r := ⟨_, rfl⟩
  rw [hrr] at HMk ⊢
  obtain ⟨r1, r2⟩ := r
  dsimp only at HMk ⊢
  clear hr hri hl hrr hsb
  go_enter Tryd.func35, Tryd.ntmps35
  go_wp2
  obtain ⟨g, hg⟩ : ∃ g, w.heap.size = g := ⟨_, rfl⟩
  obtain ⟨W1, hW1⟩ : ∃ W1, w.alloc (.cells #[.int .i64 0, .int .i64 0] 40) = W1 := ⟨_, rfl⟩
  have k1 : W1.heap[g]? = some (.cells #[.int .i64 0, .int .i64 0] 40) := by rw [← hW1]; exact blk_new _ hg.symm
  have hB1 : Below w.heap.size w W1 := by rw [← hW1]; exact (by repeat (first | exact Below.refl _ _ | assumption | refine Below.drew ?_ | refine below_drewN ?_ _ | refine Below.alloc ?_ (by first | omega | (simp; done) | (simp; omega)) _ | refine Below.setCell ?_ (by first | omega | (simp; done) | (simp; omega)) _))
  rw [hW1, hg]
  have HK := Lib.hid k1
  have HG := Lib.hid hg
  have g1 := blk_lt k1
  clear hW1 k1 hg
  go_loopw [4, 9] (fun s i wr => ∃ k : Nat, k ≤ l.length ∧ i = .int .i64 (k : Int) ∧ s = .int .i64 (sumTo l (fun p => p.1 * p.2) k) ∧ Below W1.heap.size W1 wr) (fun _ i _ => l.length - (intOf i).toNat)
  case atStart => exact ⟨0, by omega, rfl, rfl, Below.refl _ _⟩
  case round =>
    obtain ⟨k, hk, rfl, rfl, hbel⟩ := hrel
    have hsr := hbel.size
    have hbw1 := below_via hB1 hbel
    have hsb := sumTo_abs l (fun p => p.1 * p.2) 1000000 (fun p hp => prod_bd p (Hok.out p hp)) k hk
    by_cases hlt : k < l.length
    · obtain ⟨b, off, rfl, hbw, hc1, hc2⟩ := rd_p Hl.out k hlt
      have hd1 := (bcell hbw1 b (off + k * 2) hbw).trans hc1
      have hd2 := (bcell hbw1 b (off + k * 2 + 1) hbw).trans hc2
      have hpb := prod_bd _ (Hok.out _ (List.getElem_mem hlt))
      have Hs := Lib.hid (sumTo_succ l (fun p => p.1 * p.2) k hlt)
      clear hc1 hc2
      generalize l[k] = p at hd1 hd2 hpb Hs
      obtain ⟨p1, p2⟩ := p
      dsimp only at hd1 hd2 hpb Hs
      obtain ⟨m, hm⟩ : ∃ m, p1 * p2 = m := ⟨_, rfl⟩
      rw [hm] at hpb Hs
      have hwm : IntKind.i64.wrap (p1 * p2) = m := by rw [hm]; exact IntWalk.i64_in _ (by omega)
      generalize sumTo l (fun p => p.1 * p.2) k = t at hsb Hs ⊢
      clear hm
      have hb2 := hbel.alloc (Nat.le_trans (Nat.le_refl _) hsr) (.cells #[.int .i64 p1, .int .i64 p2] 47)
      go_wp2
      go_roundw
      case rel => exact ⟨k + 1, by omega, by go_num, int_eq Hs.out.symm, hb2⟩
      case measure => simp [intOf]; omega
    · obtain rfl : k = l.length := by omega
      have t0 : decide ((l.length : Int) < (l.length : Int)) = false := decide_eq_false (by omega)
      rw [sumTo_all] at hsb ⊢
      have hms : sumF l (fun p => p.1 * p.2) = meanS l := rfl
      rw [hms] at hsb ⊢
      generalize meanS l = t at HMk hsb ⊢
      have kr := Lib.hid (blk_below HK.out hbel g1)
      clear hms
      go_wp2_with fail
      refine (HMk.out _).mono ?_
      rintro ee w2 ⟨rfl, hb2⟩
      have k2 := blk_below kr.out hb2 (by omega)
      have hB2 := below_via hbw1 hb2
      have c0 := blk_cell k2 0
      have c1 := blk_cell k2 1
      have f0 := blk_free k2 0
      have f1 := blk_free k2 1
      have k3 := blk_set (blk_set k2 0 (.int .i64 r1)) 1 (.int .i64 r2)
      have d0 := blk_cell k3 0
      have d1 := blk_cell k3 1
      have hz := (hB2.setCell (p := ⟨g, 0, none⟩) (by rw [HG.out]; exact Nat.le_refl _) (.int .i64 r1)).setCell (p := ⟨g, 1, none⟩) (by rw [HG.out]; exact Nat.le_refl _) (.int .i64 r2)
      have D := Lib.hid (And.intro d0 (And.intro d1 hz))
      clear d0 d1 hz k2 k3
      go_wp2
      exact bodyPost_ret (v := .tuple #[.agg #[.int .i64 r1, .int .i64 r2], .int .i64 0]) (by simp [results, Tryd.results35, go_sem, D.out.1, D.out.2.1]) rfl ⟨rfl, D.out.2.2⟩

end Go.Proofs.YtgfnggdjjigomaaDoor
