/- The walk of the statement NeubergWrong. -/
import Derived.Test.YtlobdeakgoicpaaDoorNeuAwakeW
import Derived.Test.YtlobdeakgoicpaaDoorNeuBadW
namespace Go.Proofs.YtlobdeakgoicpaaDoor
open Go.RowKit

theorem err_bad1 (L : List (List Pt)) (hl : [] ∈ L) : ptsErr L = 2 := by
  have h2 : ¬ okAll L = true := fun hk => by
    have := List.all_eq_true.1 hk [] hl
    cases this
  unfold ptsErr
  rw [if_neg h2]

set_option maxHeartbeats 4000000 in
set_option maxRecDepth 100000 in
theorem nwrong_walk (n k : Int) (hn : -9223372036854775808 ≤ n ∧ n ≤ 9223372036854775807) (hk : 0 ≤ k ∧ k ≤ 255) (w : World) (hL : Laid w) :
    Calls Tryd.prog 7 #[.int .i64 n, .int .u8 k] w fun e w' => e = .returned (.bool true) ∧ Below w.heap.size w w' := by
  obtain ⟨m0, hm0⟩ : ∃ m : Int, min n 0 = m := ⟨_, rfl⟩
  obtain ⟨M0, hM0⟩ : ∃ m : Int, max n 25 = m := ⟨_, rfl⟩
  obtain ⟨N, hN⟩ : ∃ N : Int, 2 + k % 23 = N := ⟨_, rfl⟩
  have hNb : 2 ≤ N ∧ N ≤ 24 := by omega
  have haN : 1 ≤ N ∧ N ≤ 24 := by omega
  obtain ⟨Q, hQ⟩ : ∃ Q : Int, 2 * N - 1 = Q := ⟨_, rfl⟩
  obtain ⟨R, hR⟩ : ∃ R : Int, N + 1 = R := ⟨_, rfl⟩
  obtain ⟨M1, hM1⟩ : ∃ m : Int, max n Q = m := ⟨_, rfl⟩
  obtain ⟨M2, hM2⟩ : ∃ m : Int, max n 2 = m := ⟨_, rfl⟩
  obtain ⟨M3, hM3⟩ : ∃ m : Int, max n R = m := ⟨_, rfl⟩
  obtain ⟨m1, hm1⟩ : ∃ m : Int, min n (-1) = m := ⟨_, rfl⟩
  obtain ⟨M4, hM4⟩ : ∃ m : Int, max n 101 = m := ⟨_, rfl⟩
  have b0 : ¬ (1 ≤ m0 ∧ m0 ≤ 24) := by omega
  have b1 : ¬ (1 ≤ M0 ∧ M0 ≤ 24) := by omega
  have b2 : m0 < 1 := by omega
  have b3 : N < M3 := by omega
  have b4 : m1 < 0 := by omega
  have b5 : 100 < M4 := by omega
  have b6 : 2 * (N - 1) < M1 ∧ M1 ≤ 9223372036854775807 := by omega
  have b7 : 2 ≤ M2 ∧ M2 ≤ 9223372036854775807 := by omega
  have a1 : IntKind.i64.wrap (2 + k % 23) = N := by rw [hN]; exact IntWalk.i64_in _ (by omega)
  have a2 : IntKind.i64.wrap (2 * N) = 2 * N := IntWalk.i64_in _ (by omega)
  have a3 : IntKind.i64.wrap (2 * N - 1) = Q := by rw [hQ]; exact IntWalk.i64_in _ (by omega)
  have a4 : IntKind.i64.wrap (N + 1) = R := by rw [hR]; exact IntWalk.i64_in _ (by omega)
  have A1 := Lib.hid a1
  have A2 := Lib.hid a2
  have A3 := Lib.hid a3
  have A4 := Lib.hid a4
  have r5 : rightF (0, M2) = false := by
    unfold rightF
    dsimp only
    rw [show (0 : Int).natAbs = 0 from rfl, Nat.gcd_zero_left, beq_eq_false_iff_ne.2 (show M2.natAbs ≠ 1 by omega), Bool.and_false]
  have HJ := Lib.hid (show ∀ j, j < 6 → ∃ f1 f2 : Int, (#[Value.int .i64 0, .int .i64 0, .int .i64 2, .int .i64 4, .int .i64 1, .int .i64 (-3), .int .i64 (-1), .int .i64 1, .int .i64 M1, .int .i64 1, .int .i64 0, .int .i64 M2] : Array Value)[j * 2]? = some (.int .i64 f1) ∧ (#[Value.int .i64 0, .int .i64 0, .int .i64 2, .int .i64 4, .int .i64 1, .int .i64 (-3), .int .i64 (-1), .int .i64 1, .int .i64 M1, .int .i64 1, .int .i64 0, .int .i64 M2] : Array Value)[j * 2 + 1]? = some (.int .i64 f2) ∧ ∀ W : World, Calls Tryd.prog 11 #[.agg #[.int .i64 f1, .int .i64 f2], .int .i64 N, .int .i64 N] W fun e w' => e = .returned (.tuple #[.agg #[.int .i64 0, .int .i64 0], .int .i64 2]) ∧ Below W.heap.size W w' from fun j hj => by
    rcases (show j = 0 ∨ j = 1 ∨ j = 2 ∨ j = 3 ∨ j = 4 ∨ j = 5 by omega) with rfl | rfl | rfl | rfl | rfl | rfl
    · exact ⟨0, 0, rfl, rfl, fun W => nadj_b4 0 0 N N W haN ⟨haN.1, Int.le_refl _⟩ (by decide) (by decide) (by decide)⟩
    · exact ⟨2, 4, rfl, rfl, fun W => nadj_b4 2 4 N N W haN ⟨haN.1, Int.le_refl _⟩ (by decide) (by decide) (by decide)⟩
    · exact ⟨1, -3, rfl, rfl, fun W => nadj_b4 1 (-3) N N W haN ⟨haN.1, Int.le_refl _⟩ (by decide) (by decide) (by decide)⟩
    · exact ⟨-1, 1, rfl, rfl, fun W => nadj_b5 (-1) 1 N N W haN ⟨haN.1, Int.le_refl _⟩ (by decide) (by decide) (by decide) (by decide) (by decide)⟩
    · exact ⟨M1, 1, rfl, rfl, fun W => nadj_b6 M1 N N W haN ⟨haN.1, Int.le_refl _⟩ (by omega) b6.1⟩
    · exact ⟨0, M2, rfl, rfl, fun W => nadj_b4 0 M2 N N W haN ⟨haN.1, Int.le_refl _⟩ (by decide) (by omega) r5⟩)
  have HE1 := Lib.hid (fun W => nadj_b2 0 1 m0 N W haN b2)
  have HE2 := Lib.hid (fun W => nadj_b3 0 1 M3 N W haN (by omega) b3)
  have HE3 := Lib.hid (fun W => nshare_b2 m1 N W haN b4)
  have HE4 := Lib.hid (fun W => nshare_b3 M4 N W haN b5)
  have HL := Lib.hid hL
  have B0' := Lib.hid b0
  have B1' := Lib.hid b1
  clear hL hN hQ hR b0 b1 b2 b3 b4 b5 b6 b7 a1 a2 a3 a4 r5
  go_enter Tryd.func7, Tryd.ntmps7
  go_wp2_with fail
  refine (one_any 0 _).mono ?_
  rintro e we ⟨rfl, rfl⟩
  go_wp2_with fail
  obtain ⟨W2, hW2⟩ : ∃ W2, (((w.alloc (.cells #[.int .i64 0, .int .i64 100] 80)).alloc (.cells #[.slice (some ⟨w.heap.size, 0, none⟩) 1 1] 35)).alloc (.cells #[.int .i64 m0, .int .i64 M0] 3)) = W2 := ⟨_, rfl⟩
  obtain ⟨gl, hgl⟩ : ∃ g, w.heap.size + 1 + 1 = g := ⟨_, rfl⟩
  have hB2 : Below w.heap.size w W2 := by rw [← hW2]; exact (by repeat (first | exact Below.refl _ _ | assumption | refine Below.drew ?_ | refine below_drewN ?_ _ | refine Below.alloc ?_ (by first | omega | (simp; done) | (simp; omega)) _ | refine Below.setCell ?_ (by first | omega | (simp; done) | (simp; omega)) _))
  have n2 : W2.heap[gl]? = some (.cells #[.int .i64 m0, .int .i64 M0] 3) := by rw [← hW2]; exact blk_new _ (by rw [← hgl]; simp)
  have z2 := hB2.size
  have lgl := blk_lt n2
  (try rw [hW2]); (try rw [hgl])
  clear hW2 hgl
  go_loopw [41] (fun i wr => ∃ j : Nat, j ≤ 2 ∧ i = .int .i64 (j : Int) ∧ Below W2.heap.size W2 wr) (fun i _ => 2 - (intOf i).toNat)
  case atStart => exact ⟨0, by omega, rfl, Below.refl _ _⟩
  case round =>
    obtain ⟨j, hj, rfl, hbel⟩ := hrel
    have hsr := hbel.size
    by_cases hlt : j < 2
    · obtain ⟨x, hx, hbad⟩ : ∃ x : Int, (#[Value.int .i64 m0, .int .i64 M0] : Array Value)[j]? = some (.int .i64 x) ∧ ¬ (1 ≤ x ∧ x ≤ 24) := by
        rcases (show j = 0 ∨ j = 1 by omega) with rfl | rfl
        · exact ⟨m0, rfl, B0'.out⟩
        · exact ⟨M0, rfl, B1'.out⟩
      have d0 := (blk_cell (blk_below n2 hbel lgl) j).trans hx
      have H1 := Lib.hid (fun W => nadj_b1 0 1 1 x W hbad)
      have H2 := Lib.hid (fun A l c W => nfield_b1 A l c x W hbad)
      have H3 := Lib.hid (fun W => nsum_b1 1 x W hbad)
      have H4 := Lib.hid (fun W => npercent_b1 0 1 x W hbad)
      have H5 := Lib.hid (fun W => nshare_b1 50 x W hbad)
      clear hx hbad
      go_wp2_with fail
      refine (q_any _ _ _).mono ?_
      rintro e wa ⟨rfl, ha⟩
      have h1 := hbel.trans (ha.mono hsr)
      go_wp2_with fail
      refine (H1.out _).mono ?_
      rintro e wb ⟨rfl, hb⟩
      have h2 := h1.trans (hb.mono h1.size)
      have s2 := h2.size
      go_wp2_with fail
      refine (H2.out _ _ _ _).mono ?_
      rintro e _ ⟨rfl, rfl⟩
      go_wp2_with fail
      refine (H3.out _).mono ?_
      rintro e _ ⟨rfl, rfl⟩
      go_wp2_with fail
      refine (q_any _ _ _).mono ?_
      rintro e wc ⟨rfl, hc⟩
      have h3 := (h2.alloc s2 _).trans (hc.mono (by simp; omega))
      go_wp2_with fail
      refine (H4.out _).mono ?_
      rintro e wd ⟨rfl, hd⟩
      have h4 := h3.trans (hd.mono h3.size)
      have s4 := h4.size
      go_wp2_with fail
      refine (H5.out _).mono ?_
      rintro e wf ⟨rfl, hf⟩
      have h5 := (h4.alloc s4 _).trans (hf.mono (by simp; omega))
      have s5 := h5.size
      go_wp2
      go_roundw
      case rel => exact ⟨j + 1, by omega, by go_num, h5.alloc s5 _⟩
      case measure => simp [intOf]; omega
    · have t0 : decide ((j : Int) < 2) = false := decide_eq_false (by omega)
      have h2 := hB2.trans (hbel.mono z2)
      have s2 := h2.size
      clear hbel hsr n2 lgl hB2 z2
      have a1 := A1.out
      have a2 := A2.out
      have a3 := A3.out
      go_wp2_with fail
      refine (q_any _ _ _).mono ?_
      rintro e wa ⟨rfl, ha⟩
      have h3 := h2.trans (ha.mono s2)
      go_wp2_with fail
      refine (q_any _ _ _).mono ?_
      rintro e wb ⟨rfl, hb⟩
      have h4 := h3.trans (hb.mono h3.size)
      go_wp2_with fail
      refine (q_any _ _ _).mono ?_
      rintro e wc ⟨rfl, hc⟩
      have h5 := h4.trans (hc.mono h4.size)
      go_wp2_with fail
      refine (q_any _ _ _).mono ?_
      rintro e wd ⟨rfl, hd⟩
      have h6 := h5.trans (hd.mono h5.size)
      go_wp2_with fail
      refine (q_any _ _ _).mono ?_
      rintro e wf ⟨rfl, hf⟩
      have h7 := h6.trans (hf.mono h6.size)
      go_wp2_with fail
      clear a1 a2 a3
      obtain ⟨W3, hW3⟩ : ∃ W3, wf.alloc (.cells #[.int .i64 0, .int .i64 0, .int .i64 2, .int .i64 4, .int .i64 1, .int .i64 (-3), .int .i64 (-1), .int .i64 1, .int .i64 M1, .int .i64 1, .int .i64 0, .int .i64 M2] 23) = W3 := ⟨_, rfl⟩
      obtain ⟨g3, hg3⟩ : ∃ g, wf.heap.size = g := ⟨_, rfl⟩
      have hB3 : Below w.heap.size w W3 := by rw [← hW3]; exact h7.alloc h7.size _
      have n3 : W3.heap[g3]? = some (.cells #[.int .i64 0, .int .i64 0, .int .i64 2, .int .i64 4, .int .i64 1, .int .i64 (-3), .int .i64 (-1), .int .i64 1, .int .i64 M1, .int .i64 1, .int .i64 0, .int .i64 M2] 23) := by rw [← hW3]; exact blk_new _ hg3.symm
      have z3 := hB3.size
      have lg3 := blk_lt n3
      (try rw [hW3]); (try rw [hg3])
      clear hW3 hg3 h2 h3 h4 h5 h6 h7 ha hb hc hd hf s2
      go_loopw [115] (fun i wr => ∃ j : Nat, j ≤ 6 ∧ i = .int .i64 (j : Int) ∧ Below W3.heap.size W3 wr) (fun i _ => 6 - (intOf i).toNat)
      case atStart => exact ⟨0, by omega, rfl, Below.refl _ _⟩
      case round =>
        obtain ⟨j, hj, rfl, hbel⟩ := hrel
        have hsr := hbel.size
        by_cases hlt : j < 6
        · obtain ⟨f1, f2, x1, x2, hadj⟩ := HJ.out j hlt
          have d0 := (blk_cell (blk_below n3 hbel lg3) (j * 2)).trans x1
          have d1 := (blk_cell (blk_below n3 hbel lg3) (j * 2 + 1)).trans x2
          have HAd := Lib.hid hadj
          clear x1 x2 hadj
          go_wp2_with fail
          refine (HAd.out _).mono ?_
          rintro e wa ⟨rfl, ha⟩
          have h1 := (hbel.alloc hsr _).trans (ha.mono (by simp; omega))
          have s1 := h1.size
          go_wp2
          go_roundw
          case rel => exact ⟨j + 1, by omega, by go_num, h1.alloc s1 _⟩
          case measure => simp [intOf]; omega
        · have t0 : decide ((j : Int) < 6) = false := decide_eq_false (by omega)
          have h2 := hB3.trans (hbel.mono z3)
          have s2 := h2.size
          clear hbel hsr n3 lg3 hB3 z3
          have a4 := A4.out
          go_wp2_with fail
          refine (q_any _ _ _).mono ?_
          rintro e wa ⟨rfl, ha⟩
          have h3 := h2.trans (ha.mono s2)
          go_wp2_with fail
          refine (HE1.out _).mono ?_
          rintro e wb ⟨rfl, hb⟩
          have h4 := h3.trans (hb.mono h3.size)
          have s4 := h4.size
          go_wp2_with fail
          refine (q_any _ _ _).mono ?_
          rintro e wc ⟨rfl, hc⟩
          have h5 := (h4.alloc s4 _).trans (hc.mono (by simp; omega))
          go_wp2_with fail
          refine (HE2.out _).mono ?_
          rintro e wd ⟨rfl, hd⟩
          have h6 := h5.trans (hd.mono h5.size)
          have s6 := h6.size
          go_wp2_with fail
          refine (HE3.out _).mono ?_
          rintro e wf ⟨rfl, hf⟩
          have h7 := (h6.alloc s6 _).trans (hf.mono (by simp; omega))
          have s7 := h7.size
          go_wp2_with fail
          refine (HE4.out _).mono ?_
          rintro e wg ⟨rfl, hg⟩
          have h8 := (h7.alloc s7 _).trans (hg.mono (by simp; omega))
          have s8 := h8.size
          have h9 := h8.alloc s8 (.cells #[.int .i64 0, .int .i64 0] 23)
          go_upto_region 25 with fail
          generalize wg.alloc (.cells #[.int .i64 0, .int .i64 0] 23) = W4 at h9 ⊢
          have s9 := h9.size
          have n5 : (W4.alloc (.cells #[.slice none 0 0] 35)).heap[W4.heap.size]? = some (.cells #[.slice none 0 0] 35) := blk_new _ rfl
          have hrow : RowOf (W4.alloc (.cells #[.slice none 0 0] 35)) ([] ++ [.slice none 0 0]) ([] ++ [[]]) := RowOf.snoc (r := []) RowOf.nil_ (fun _ => rfl) Rd.nil_
          have HF := Lib.hid (nfield_b2 ([] ++ [[]]) (some ⟨W4.heap.size, 0, none⟩) 1 N _ haN (by show (1 : Int) ≤ N; omega) (hrow.blk n5 rfl) (by intro o ho; simp at ho; subst ho; simp) (err_bad1 _ (by simp)))
          clear a4 n5 hrow
          go_wp2_with fail
          refine HF.out.mono ?_
          rintro e w6 ⟨rfl, h10⟩
          have h11 := (h9.alloc s9 _).trans (h10.mono (by simp; omega))
          go_wp2_with fail
          refine (nawake _ (HL.out.below h11 HL.out.lt)).mono ?_
          rintro ee wz ⟨rfl, hbz⟩
          go_wp2
          go_ret
          exact ⟨rfl, h11.trans (hbz.mono h11.size)⟩

end Go.Proofs.YtlobdeakgoicpaaDoor
