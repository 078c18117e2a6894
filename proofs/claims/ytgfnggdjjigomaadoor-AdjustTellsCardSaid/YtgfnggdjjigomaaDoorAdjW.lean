/- The walks of the package adjust: rest, unawarded, void, .. -/
import Derived.Test.YtgfnggdjjigomaaDoorAdjMath
import Derived.Test.YtgfnggdjjigomaaDoorScoW
import Derived.Laws.Rows
import Derived.Deep.DeepCutAuto
namespace Go.Proofs.YtgfnggdjjigomaaDoor
open Go.RowKit

theorem info_entry : (Tryd.prog.info? 29).map (·.size) = some 33 := by kernel_rfl

set_option maxRecDepth 100000 in
set_option maxHeartbeats 1000000 in
theorem rest_any (C : Array Value) (k f a0 a1 : Int) (o : Nat → Oc) (n : Nat) (hC : EnC C k f o a0 a1) (hn : n ≤ 4) (w : World) :
    Calls Tryd.prog 65 #[.agg C, .int .i64 (n : Int)] w fun e w' => e = .returned (.bool (restB o n)) ∧ Below w.heap.size w w' := by
  obtain ⟨N, hN⟩ : ∃ N, restB o n = N := ⟨_, rfl⟩
  rw [hN]
  have HN := Lib.hid hN
  have HC := Lib.hid hC
  clear hN hC
  go_enter Tryd.func65, Tryd.ntmps65
  go_upto_region 1 with fail
  obtain ⟨W1, hW1⟩ : ∃ W1, w.alloc (.cells C 29) = W1 := ⟨_, rfl⟩
  obtain ⟨g, hg⟩ : ∃ g, w.heap.size = g := ⟨_, rfl⟩
  have k1 : W1.heap[g]? = some (.cells C 29) := by rw [← hW1]; exact blk_new _ hg.symm
  have hB1 : Below g w W1 := by rw [← hW1, ← hg]; exact (by repeat (first | exact Below.refl _ _ | assumption | refine Below.drew ?_ | refine below_drewN ?_ _ | refine Below.alloc ?_ (by first | omega | (simp; done) | (simp; omega)) _ | refine Below.setCell ?_ (by first | omega | (simp; done) | (simp; omega)) _))
  have s1 : g < W1.heap.size := blk_lt k1
  rw [hW1, hg]
  have HK := Lib.hid k1
  have HG := Lib.hid hg
  clear hW1 k1 hg
  have c0 : (0 : Int) ≤ (n : Int) := by omega
  have c1 : (n : Int) ≤ 4 := by omega
  by_cases h4 : n = 4
  · subst h4
    obtain rfl : true = N := by rw [← HN.out]; exact ((restB_iff o 4).2 (fun i h1 h2 => by omega)).symm
    have Hb := Lib.hid (show Below w.heap.size w W1 by rw [HG.out]; exact hB1)
    go_wp2
    go_loopw [11] (fun i wr => i = .int .i64 0 ∧ wr = W1) (fun _ _ => 0)
    case atStart => exact ⟨rfl, rfl⟩
    case round =>
      obtain ⟨rfl, rfl⟩ := hrel
      go_wp2
      go_ret
      exact ⟨rfl, Hb.out⟩
  · have c2 : ¬ 4 = n := by omega
    clear h4
    go_wp2
    go_loopw [11] (fun i wr => ∃ j : Nat, j ≤ 4 - n ∧ i = .int .i64 (j : Int) ∧ Hid (∀ i, i < 4 → n ≤ i → i < n + j → zB (o i) = true) ∧ Below (g + 1) W1 wr) (fun i _ => 4 - n - (intOf i).toNat)
    case atStart => exact ⟨0, by omega, rfl, (fun i h1 h2 h3 => by omega : ∀ i, i < 4 → n ≤ i → i < n + 0 → zB (o i) = true), Below.refl _ _⟩
    case round =>
      obtain ⟨j, hj, rfl, hz, hbel⟩ := hrel
      have hsr := hbel.size
      have hBr : Below g w wr := hB1.trans (hbel.mono (by omega))
      have HB := Lib.hid (show ∀ W, Below (g + 1) W1 W → Below w.heap.size w W from fun W h => by rw [HG.out]; exact hB1.trans (h.mono (by omega)))
      by_cases hlt : j < 4 - n
      · have kr := blk_below HK.out hbel (by omega)
        obtain ⟨d0, d1, d2, d3, d4, d5⟩ := HC.out.2.2.2.2.2 (n + j) (by omega)
        have hoff : 7 + n * 6 + j * 6 = 7 + (n + j) * 6 := by omega
        have e0 := (blk_cell kr (7 + n * 6 + j * 6)).trans ((congrArg (fun x => C[x]?) hoff).trans d0)
        have e1 := (blk_cell kr (7 + n * 6 + j * 6 + 1)).trans ((congrArg (fun x => C[x + 1]?) hoff).trans d1)
        have e2 := (blk_cell kr (7 + n * 6 + j * 6 + 2)).trans ((congrArg (fun x => C[x + 2]?) hoff).trans d2)
        have e3 := (blk_cell kr (7 + n * 6 + j * 6 + 3)).trans ((congrArg (fun x => C[x + 3]?) hoff).trans d3)
        have e4 := (blk_cell kr (7 + n * 6 + j * 6 + 4)).trans ((congrArg (fun x => C[x + 4]?) hoff).trans d4)
        have e5 := (blk_cell kr (7 + n * 6 + j * 6 + 5)).trans ((congrArg (fun x => C[x + 5]?) hoff).trans d5)
        have HX := Lib.hid (show zB (o (n + j)) = decide ((o (n + j)).l = 0 ∧ (o (n + j)).d = 0 ∧ (o (n + j)).r = 0 ∧ (o (n + j)).s = 0 ∧ (o (n + j)).t = 0 ∧ (o (n + j)).w = 0) from rfl)
        clear d0 d1 d2 d3 d4 d5 hoff kr
        obtain ⟨x, hx⟩ : ∃ x, o (n + j) = x := ⟨_, rfl⟩
        rw [hx] at e0 e1 e2 e3 e4 e5 HX
        have Hx := Lib.hid hx
        clear hx
        obtain ⟨x1, x2, x3, x4, x5, x6⟩ := x
        dsimp only at e0 e1 e2 e3 e4 e5 HX
        have c3 : (0 : Int) ≤ (j : Int) := by omega
        have c4 : (j : Int) < ((4 - n : Nat) : Int) := by omega
        by_cases hzz : x1 = 0 ∧ x2 = 0 ∧ x3 = 0 ∧ x4 = 0 ∧ x5 = 0 ∧ x6 = 0
        · obtain ⟨rfl, rfl, rfl, rfl, rfl, rfl⟩ := hzz
          have Hn : Hid (∀ i, i < 4 → n ≤ i → i < n + (j + 1) → zB (o i) = true) := Lib.hid (fun i h1 h2 h3 => by
            by_cases hi : i < n + j
            · exact hz.out i h1 h2 hi
            · obtain rfl : i = n + j := by omega
              rw [Hx.out, HX.out]; decide)
          have hb2 := hbel.alloc (by omega : g + 1 ≤ wr.heap.size) (.cells #[.int .u8 0, .int .u8 0, .int .u8 0, .int .u8 0, .int .i64 0, .int .i64 0] 25)
          go_wp2
          go_roundw
          case rel => exact ⟨j + 1, by omega, by go_num, Hn.out, hb2⟩
          case measure => simp [intOf]; omega
        · obtain rfl : false = N := by
            rw [← HN.out]
            cases hq : restB o n with
            | false => rfl
            | true =>
              have := (restB_iff o n).1 hq (n + j) (by omega) (by omega)
              rw [Hx.out, HX.out] at this
              exact absurd (of_decide_eq_true this) hzz
          have HZ := Lib.hid hzz
          clear hzz
          go_wp2
          all_goals first
            | exact absurd ⟨by assumption, by assumption, by assumption, by assumption, by assumption, by assumption⟩ HZ.out
            | (go_ret; exact ⟨rfl, HB.out _ (hbel.alloc (by omega : g + 1 ≤ wr.heap.size) _)⟩)
      · obtain rfl : j = 4 - n := by omega
        obtain rfl : true = N := by
          rw [← HN.out]; exact ((restB_iff o n).2 (fun i h1 h2 => hz.out i h1 h2 (by omega))).symm
        have t0 : decide (((4 - n : Nat) : Int) < ((4 - n : Nat) : Int)) = false := decide_eq_false (by omega)
        go_wp2
        go_ret
        exact ⟨rfl, HB.out _ hbel⟩

end Go.Proofs.YtgfnggdjjigomaaDoor
