/- The reference finesseref18: choose. -/
import Derived.Test.YtilekdjjfdehcaaDoorRef18F
import Derived.Test.YtilekdjjfdehcaaDoorRef18D
namespace Go.Proofs.YtilekdjjfdehcaaDoor
open Go.RowKit

set_option maxRecDepth 100000 in
set_option maxHeartbeats 1000000 in
theorem r18choose (C : Array Value) (V : Nat → Nat → Int) (hC : VC C V) (hV : ∀ b s, -10000 ≤ V b s ∧ V b s ≤ 10000) (s o : Nat) (hs : s ≤ 1) (p : Int) (hp : -10000 ≤ p ∧ p ≤ 10000) (w : World) :
    Calls Tryd.prog 38 #[.agg C, .int .i64 (s : Int), .int .i64 (o : Int), .int .i64 p] w fun e w' => e = .returned (.agg #[.int .i64 ((rcTo V s o p 35).1 : Int), .int .i64 (rcTo V s o p 35).2]) ∧ Below w.heap.size w w' := by
  have HC := Lib.hid hC
  have HB := Lib.hid hV
  have HR := Lib.hid (rcTo_bd V hV s o p hp)
  have HW := Lib.hid (fun (q : Int) (hq : -10000 ≤ q ∧ q ≤ 10000) W => (r18worth q (by omega) s hs W).mono (fun e w' h => (⟨h.1, h.2.symm⟩ : e = .returned (.int .i64 (wo s q)) ∧ w' = W)))
  have HS := Lib.hid (show ∀ n, rcTo V s o p (n + 1) = if o < n + 3 ∧ wo s (rcTo V s o p n).2 < wo s (V (n + 3) (1 - s)) then (n + 3, V (n + 3) (1 - s)) else rcTo V s o p n from fun n => rfl)
  have h0 : rcTo V s o p 0 = (0, p) := rfl
  obtain ⟨T, hT⟩ : ∃ T, rcTo V s o p = T := ⟨_, rfl⟩
  rw [hT] at HR HS h0 ⊢
  have H0 := Lib.hid h0
  obtain ⟨r, hr⟩ : ∃ r, 1 - s = r := ⟨_, rfl⟩
  rw [hr] at HS
  have hr1 : (1 : Int) - (s : Int) = (r : Int) := by omega
  have hrb : (r : Int) < 2 := by omega
  have hr0 : (0 : Int) ≤ (r : Int) := by omega
  have hrn : r ≤ 1 := by omega
  clear hC hV hT hr h0
  go_enter Tryd.func38, Tryd.ntmps38
  go_upto_region 2 with fail
  obtain ⟨W1, hW1⟩ : ∃ W1, ((w.alloc (.cells C 81)).alloc (.cells #[.int .i64 0, .int .i64 0] 84)).alloc (.cells #[.int .i64 0, .int .i64 p] 84) = W1 := ⟨_, rfl⟩
  obtain ⟨g, hg⟩ : ∃ g, w.heap.size = g := ⟨_, rfl⟩
  have K0 := Lib.hid (show W1.heap[g]? = some (.cells C 81) by rw [← hW1]; exact blk_alloc (blk_alloc (blk_new _ hg.symm) _) _)
  have K1 := Lib.hid (show W1.heap[g + 1]? = some (.cells #[.int .i64 0, .int .i64 0] 84) by rw [← hW1]; exact blk_alloc (blk_new _ (by simp [hg])) _)
  have K2 := Lib.hid (show W1.heap[g + 1 + 1]? = some (.cells #[.int .i64 ((T 0).1 : Int), .int .i64 (T 0).2] 84) by rw [← hW1, H0.out]; exact blk_new _ (by simp [hg]))
  have hB1 : Below w.heap.size w W1 := by rw [← hW1]; exact (by repeat (first | exact Below.refl _ _ | assumption | refine Below.drew ?_ | refine below_drewN ?_ _ | refine Below.alloc ?_ (by first | omega | (simp; done) | (simp; omega)) _ | refine Below.setCell ?_ (by first | omega | (simp; done) | (simp; omega)) _))
  have hgw : w.heap.size ≤ g := by omega
  rw [hW1, hg]
  clear hW1 hg H0
  go_wp2_with fail
  go_loopw [10] (fun i wr => ∃ b : Nat, 3 ≤ b ∧ b ≤ 38 ∧ i = .int .i64 (b : Int) ∧ Hid (wr.heap[g]? = some (.cells C 81 (0, 0))) ∧ Hid (wr.heap[g + 1]? = some (.cells #[.int .i64 0, .int .i64 0] 84 (0, 0))) ∧
    Hid (wr.heap[g + 1 + 1]? = some (.cells #[.int .i64 ((T (b - 3)).1 : Int), .int .i64 (T (b - 3)).2] 84 (0, 0))) ∧ Below w.heap.size w wr) (fun i _ => 38 - (intOf i).toNat)
  case atStart => exact ⟨3, by omega, by omega, rfl, K0.out, K1.out, K2.out, hB1⟩
  case round =>
    obtain ⟨b, hb3, hb38, rfl, J0, J1, J2, hbel⟩ := hrel
    rename World => wx
    clear K0 K1 K2 hB1
    by_cases hlt : b < 38
    · have hS := HS.out (b - 3)
      have hbd := HR.out (b - 3)
      have e3 : b - 3 + 3 = b := by omega
      have e4 : b + 1 - 3 = b - 3 + 1 := by omega
      rw [e3, ← e4] at hS
      have q0 := (blk_cell J0.out (b * 2 + r)).trans (HC.out.2.2 b r (by omega) hrn)
      have q1 := blk_cell J2.out 0
      have q2 := blk_cell J2.out 1
      have f1 := blk_free J2.out 0
      have f2 := blk_free J2.out 1
      have hx := HB.out b r
      generalize V b r = x at hS q0 hx
      generalize T (b - 3) = A at hS hbd J2 q1 q2
      obtain ⟨a1, a2⟩ := A
      dsimp only at hS hbd J2 q1 q2
      have HS2 := Lib.hid hS
      have Hbel := Lib.hid hbel
      clear hS hbel e3 e4
      have c0 : (b : Int) ≤ 37 := by omega
      have c1 : (b : Int) < 38 := by omega
      by_cases hob : o < b
      · have c2 : (o : Int) < (b : Int) := by omega
        have HX := Lib.hid (fun W => HW.out x hx W)
        have HY := Lib.hid (fun W => HW.out a2 hbd W)
        obtain ⟨y1, hy1⟩ : ∃ y, wo s x = y := ⟨_, rfl⟩
        obtain ⟨y2, hy2⟩ : ∃ y, wo s a2 = y := ⟨_, rfl⟩
        rw [hy1] at HX HS2
        rw [hy2] at HY HS2
        clear hy1 hy2 HW HB HR HS
        go_upto_region 5 with fail
        go_quiet ((go_at_call 47; first | exact Calls.quiet_of_same (HX.out _) | exact Calls.quiet_of_same (HY.out _)))
        by_cases hyy : y2 < y1
        · have e : T (b + 1 - 3) = (b, x) := HS2.out.trans (if_pos ⟨hob, hyy⟩)
          have He := Lib.hid e
          clear e
          go_wp2
          go_roundw
          case rel =>
            refine ⟨b + 1, by omega, by omega, by go_num, ?_, ?_, ?_, ((below_drewN Hbel.out _).setCell (p := ⟨g + 1 + 1, 0, none⟩) (by show w.heap.size ≤ g + 1 + 1; omega) _).setCell (p := ⟨g + 1 + 1, 1, none⟩) (by show w.heap.size ≤ g + 1 + 1; omega) _⟩
            · exact blk_far (blk_far J0.out (by show g ≠ g + 1 + 1; omega) _) (by show g ≠ g + 1 + 1; omega) _
            · exact blk_far (blk_far J1.out (by show g + 1 ≠ g + 1 + 1; omega) _) (by show g + 1 ≠ g + 1 + 1; omega) _
            · rw [He.out]; exact blk_set (blk_set J2.out 0 _) 1 _
          case measure => simp [intOf]; omega
        · have e : T (b + 1 - 3) = (a1, a2) := HS2.out.trans (if_neg (fun h => hyy h.2))
          have He := Lib.hid e
          clear e
          go_wp2
          go_roundw
          case rel => exact ⟨b + 1, by omega, by omega, by go_num, J0.out, J1.out, by rw [He.out]; exact J2.out, below_drewN Hbel.out _⟩
          case measure => simp [intOf]; omega
      · have c2 : ¬ (o : Int) < (b : Int) := by omega
        have e : T (b + 1 - 3) = (a1, a2) := HS2.out.trans (if_neg (fun h => hob h.1))
        have He := Lib.hid e
        clear e
        go_upto_region 5 with fail
        go_quiet (fail)
        go_wp2
        go_roundw
        case rel => exact ⟨b + 1, by omega, by omega, by go_num, J0.out, J1.out, by rw [He.out]; exact J2.out, below_drewN Hbel.out _⟩
        case measure => simp [intOf]; omega
    · obtain rfl : b = 38 := by omega
      have q1 := blk_cell J2.out 0
      have q2 := blk_cell J2.out 1
      have r1 := blk_cell J1.out 0
      have r2 := blk_cell J1.out 1
      have f1 := blk_free J1.out 0
      have f2 := blk_free J1.out 1
      have hE := (hbel.setCell (p := ⟨g + 1, 0, none⟩) (by show w.heap.size ≤ g + 1; omega) (.int .i64 ((T 35).1 : Int))).setCell (p := ⟨g + 1, 1, none⟩) (by show w.heap.size ≤ g + 1; omega) (.int .i64 (T 35).2)
      have HE := Lib.hid hE
      clear hE
      go_wp2
      refine bodyPost_ret (v := .agg #[.int .i64 ((T 35).1 : Int), .int .i64 (T 35).2]) ?_ rfl ⟨rfl, HE.out⟩
      simp [results, Tryd.results38, go_sem, r1, r2]

end Go.Proofs.YtilekdjjfdehcaaDoor
