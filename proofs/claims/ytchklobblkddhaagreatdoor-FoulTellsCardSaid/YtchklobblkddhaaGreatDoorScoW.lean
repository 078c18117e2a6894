/- The walks of the package score: Right, Need, Vulnerable, Points, Score. -/
import Derived.Test.YtchklobblkddhaaGreatDoorChecked
import Derived.Test.YtchklobblkddhaaGreatDoorScoMath
import Derived.Deep.QuietTactic
import Derived.BigQuiet
import Derived.Deep.RegionHeld3
import Derived.Deep.DeepCutAuto
namespace Go.Proofs.YtchklobblkddhaaGreatDoor
open Go.RowKit

theorem ret_bool {a b : Bool} (h : a = b) : Ending.returned (.bool a) = .returned (.bool b) := by rw [h]

set_option maxHeartbeats 1000000 in
theorem sright_any (l d r s : Int) (hl : 0 ≤ l ∧ l ≤ 255) (hd : 0 ≤ d ∧ d ≤ 255) (hr : 0 ≤ r ∧ r ≤ 255) (hs : 0 ≤ s ∧ s ≤ 255) (w : World) :
    Calls Tryz.prog 109 #[.agg #[.int .u8 l, .int .u8 d, .int .u8 r, .int .u8 s]] w fun e w' => e = .returned (.bool (rightC l d r s)) ∧ Below w.heap.size w w' := by
  obtain ⟨R, hR⟩ : ∃ R, rightC l d r s = R := ⟨_, rfl⟩
  rw [hR]
  have HR := Lib.hid hR
  clear hR
  go_enter Tryz.func109, Tryz.ntmps109
  go_wp2
  all_goals go_ret
  all_goals refine ⟨ret_bool ?_, (by repeat (first | exact Below.refl _ _ | assumption | refine Below.drew ?_ | refine below_drewN ?_ _ | refine Below.alloc ?_ (by first | omega | (simp; done) | (simp; omega)) _ | refine Below.setCell ?_ (by first | omega | (simp; done) | (simp; omega)) _))⟩
  all_goals rw [← HR.out]
  all_goals unfold rightC
  all_goals first | exact (decide_eq_true (by omega)).symm | exact (decide_eq_false (by omega)).symm | exact decide_eq_decide.2 (by omega)

theorem below_box {w w1 : World} {o : Obj} (hb : Below (w.alloc o).heap.size (w.alloc o) w1) : Below w.heap.size w w1 := ((Below.refl _ _).alloc (Nat.le_refl _) _).trans (hb.mono (by simp))
theorem below_via {w W1 w1 : World} (h0 : Below w.heap.size w W1) (hb : Below W1.heap.size W1 w1) : Below w.heap.size w w1 := h0.trans (hb.mono h0.size)

set_option maxHeartbeats 1000000 in
theorem sneed_any (l d r s : Int) (hl : 0 ≤ l ∧ l ≤ 255) (hd : 0 ≤ d ∧ d ≤ 255) (hr : 0 ≤ r ∧ r ≤ 255) (hs : 0 ≤ s ∧ s ≤ 255) (w : World) :
    Calls Tryz.prog 102 #[.agg #[.int .u8 l, .int .u8 d, .int .u8 r, .int .u8 s]] w fun e w' => e = .returned (.int .i64 (needC l d r s)) ∧ Below w.heap.size w w' := by
  obtain ⟨N, hN⟩ : ∃ N, needC l d r s = N := ⟨_, rfl⟩
  rw [hN]
  have HN := Lib.hid hN
  have HQ := Lib.hid (fun W => sright_any l d r s hl hd hr hs W)
  obtain ⟨R, hR⟩ : ∃ R, rightC l d r s = R := ⟨_, rfl⟩
  rw [hR] at HQ
  have HR := Lib.hid hR
  clear hR hN
  go_enter Tryz.func102, Tryz.ntmps102
  go_wp2_with fail
  refine (HQ.out _).mono ?_
  rintro e w1 ⟨rfl, hb⟩
  have k0 := blk_below (blk_new (w := w) (.cells #[.int .u8 l, .int .u8 d, .int .u8 r, .int .u8 s] 45) rfl) hb (by simp)
  have q0 := blk_cell k0 0
  have hb0 := below_box hb
  clear hb k0
  cases R
  · obtain rfl : 0 = N := by rw [← HN.out]; unfold needC; rw [HR.out]; rfl
    go_wp2
    go_ret
    exact ⟨rfl, hb0⟩
  · by_cases hz : l = 0
    · have hzb : (l == 0) = true := by rw [hz]; rfl
      obtain rfl : 0 = N := by rw [← HN.out]; unfold needC; rw [if_neg (fun h => h.2 hz)]
      clear hz
      go_wp2
      go_ret
      exact ⟨rfl, hb0⟩
    · have hzb : (l == 0) = false := beq_eq_false_iff_ne.2 hz
      obtain rfl : 6 + l = N := by rw [← HN.out]; unfold needC; rw [if_pos ⟨HR.out, hz⟩]
      clear hz
      go_wp2
      go_ret
      exact ⟨rfl, hb0⟩

theorem res_of (l d r s t : Int) (R : Bool) (hR : rightC l d r s = R) : resultC l d r s t = (R && decide (0 ≤ t ∧ t ≤ 13 ∧ (0 < l ∨ t = 0))) := by
  unfold resultC; rw [hR]; cases R <;> simp

set_option maxHeartbeats 1000000 in
theorem sresult_any (l d r s t : Int) (hl : 0 ≤ l ∧ l ≤ 255) (hd : 0 ≤ d ∧ d ≤ 255) (hr : 0 ≤ r ∧ r ≤ 255) (hs : 0 ≤ s ∧ s ≤ 255) (w : World) :
    Calls Tryz.prog 101 #[.agg #[.int .u8 l, .int .u8 d, .int .u8 r, .int .u8 s], .int .i64 t] w fun e w' => e = .returned (.bool (resultC l d r s t)) ∧ Below w.heap.size w w' := by
  obtain ⟨N, hN⟩ : ∃ N, resultC l d r s t = N := ⟨_, rfl⟩
  rw [hN]
  have HN := Lib.hid hN
  have HQ := Lib.hid (fun W => sright_any l d r s hl hd hr hs W)
  obtain ⟨R, hR⟩ : ∃ R, rightC l d r s = R := ⟨_, rfl⟩
  rw [hR] at HQ
  have HR := Lib.hid (res_of l d r s t R hR)
  clear hR hN
  go_enter Tryz.func101, Tryz.ntmps101
  go_wp2_with fail
  refine (HQ.out _).mono ?_
  rintro e w1 ⟨rfl, hb⟩
  have k0 := blk_below (blk_new (w := w) (.cells #[.int .u8 l, .int .u8 d, .int .u8 r, .int .u8 s] 45) rfl) hb (by simp)
  have q0 := blk_cell k0 0
  have hb0 := below_box hb
  clear hb k0
  cases R
  · obtain rfl : false = N := by rw [← HN.out, HR.out]; rfl
    go_wp2
    go_ret
    exact ⟨rfl, hb0⟩
  · go_wp2
    all_goals go_ret
    all_goals refine ⟨ret_bool ?_, hb0⟩
    all_goals rw [← HN.out, HR.out, Bool.true_and]
    all_goals first | exact (decide_eq_true (by omega)).symm | exact (decide_eq_false (by omega)).symm | (rw [Bool.eq_iff_iff]; simp; omega)

set_option maxHeartbeats 1000000 in
theorem svul_any (vul seat : Int) (hv : 0 ≤ vul ∧ vul ≤ 255) (hs : 0 ≤ seat ∧ seat ≤ 255) (w : World) :
    Calls Tryz.prog 86 #[.int .u8 vul, .int .u8 seat] w fun e w' => e = .returned (.bool (vulB vul seat)) ∧ w = w' := by
  by_cases h1 : vul ≤ 3 ∧ seat ≤ 3
  · have hvv : vul = 0 ∨ vul = 1 ∨ vul = 2 ∨ vul = 3 := by omega
    have hss : seat = 0 ∨ seat = 1 ∨ seat = 2 ∨ seat = 3 := by omega
    clear h1 hv hs
    obtain ⟨N, hN⟩ : ∃ N, vulB vul seat = N := ⟨_, rfl⟩
    rw [hN]
    have HN := Lib.hid hN
    clear hN
    rcases hvv with rfl | rfl | rfl | rfl <;> rcases hss with rfl | rfl | rfl | rfl
    all_goals
      go_enter Tryz.func86, Tryz.ntmps86
      go_wp2
      go_ret
      exact ⟨ret_bool (by rw [← HN.out]; decide), rfl⟩
  · obtain ⟨N, hN⟩ : ∃ N, vulB vul seat = N := ⟨_, rfl⟩
    rw [hN]
    obtain rfl : false = N := by rw [← hN]; unfold vulB; exact (decide_eq_false (by omega)).symm
    clear hN
    go_enter Tryz.func86, Tryz.ntmps86
    by_cases h2 : vul ≤ 3
    · have h3 : ¬ seat ≤ 3 := by omega
      clear h1
      go_wp2
      go_ret
      exact ⟨rfl, rfl⟩
    · clear h1
      go_wp2
      go_ret
      exact ⟨rfl, rfl⟩

def colI (v : Bool) : Int := if v = true then 1 else 0
set_option maxHeartbeats 400000 in
theorem scol_any (v : Bool) (w : World) : Calls Tryz.prog 110 #[.bool v] w fun e w' => e = .returned (.int .i64 (colI v)) ∧ w = w' := by
  cases v
  all_goals
    go_enter Tryz.func110, Tryz.ntmps110
    go_wp2
    go_ret
    exact ⟨rfl, rfl⟩

/-! ### The tables -/
def valC : Array Value := #[.int .i64 20, .int .i64 20, .int .i64 30, .int .i64 30, .int .i64 30]
def facC : Array Value := #[.int .i64 1, .int .i64 2, .int .i64 4]
def morC : Array Value := #[.int .i64 0, .int .i64 0, .int .i64 100, .int .i64 200, .int .i64 200, .int .i64 400]
def insC : Array Value := #[.int .i64 0, .int .i64 50, .int .i64 100]
/-- The four tables of the package lie in their blocks. -/
def LaidS (w : World) : Prop := (∃ t fr, w.heap[3]? = some (.cells valC t fr)) ∧ (∃ t fr, w.heap[4]? = some (.cells facC t fr)) ∧ (∃ t fr, w.heap[5]? = some (.cells morC t fr)) ∧ (∃ t fr, w.heap[6]? = some (.cells insC t fr))
theorem LaidS.lt {w : World} (h : LaidS w) : 6 < w.heap.size := by
  obtain ⟨_, _, _, t, fr, h⟩ := h; exact blk_lt h
theorem LaidS.below {w w' : World} {B : Nat} (h : LaidS w) (hb : Below B w w') (hB : 6 < B) : LaidS w' := by
  obtain ⟨⟨t1, f1, h1⟩, ⟨t2, f2, h2⟩, ⟨t3, f3, h3⟩, ⟨t4, f4, h4⟩⟩ := h
  exact ⟨⟨t1, f1, blk_below h1 hb (by omega)⟩, ⟨t2, f2, blk_below h2 hb (by omega)⟩, ⟨t3, f3, blk_below h3 hb (by omega)⟩, ⟨t4, f4, blk_below h4 hb hB⟩⟩
theorem LaidS.go {w w' : World} (h : LaidS w) (hb : Below w.heap.size w w') : LaidS w' := h.below hb h.lt
theorem LaidS.cells {w : World} (h : LaidS w) (d r : Int) (hd : 0 ≤ d ∧ d ≤ 4) (hr : 0 ≤ r ∧ r ≤ 2) :
    w.cell? ⟨3, d.toNat, none⟩ = some (.int .i64 (valI d)) ∧ w.cell? ⟨4, r.toNat, none⟩ = some (.int .i64 (facI r)) ∧ w.cell? ⟨6, r.toNat, none⟩ = some (.int .i64 (insI r)) ∧
    w.cell? ⟨5, r.toNat * 2, none⟩ = some (.int .i64 (moreI r false)) ∧ w.cell? ⟨5, r.toNat * 2 + 1, none⟩ = some (.int .i64 (moreI r true)) := by
  obtain ⟨⟨t1, f1, h1⟩, ⟨t2, f2, h2⟩, ⟨t3, f3, h3⟩, ⟨t4, f4, h4⟩⟩ := h
  have hdd : d = 0 ∨ d = 1 ∨ d = 2 ∨ d = 3 ∨ d = 4 := by omega
  have hrr : r = 0 ∨ r = 1 ∨ r = 2 := by omega
  refine ⟨?_, ?_, ?_, ?_, ?_⟩
  · rw [blk_cell h1]; rcases hdd with rfl | rfl | rfl | rfl | rfl <;> rfl
  · rw [blk_cell h2]; rcases hrr with rfl | rfl | rfl <;> rfl
  · rw [blk_cell h4]; rcases hrr with rfl | rfl | rfl <;> rfl
  · rw [blk_cell h3]; rcases hrr with rfl | rfl | rfl <;> rfl
  · rw [blk_cell h3]; rcases hrr with rfl | rfl | rfl <;> rfl

theorem idx2_0 (W : World) (a b : Int) : (Instr.index 49 (.agg #[.int .i64 a, .int .i64 b]) (.int .i64 0)).run Tryz.prog W = .ok (.int .i64 a) W :=
  run_index_one (P := Tryz.prog) (w := W) 49 3 2 #[.int .i64 a, .int .i64 b] .i64 0 (.int .i64 a) Tryz.underlying49 (by kernel_rfl) (fun _ => by kernel_rfl) rfl (by decide)
theorem idx2_1 (W : World) (a b : Int) : (Instr.index 49 (.agg #[.int .i64 a, .int .i64 b]) (.int .i64 1)).run Tryz.prog W = .ok (.int .i64 b) W :=
  run_index_one (P := Tryz.prog) (w := W) 49 3 2 #[.int .i64 a, .int .i64 b] .i64 1 (.int .i64 b) Tryz.underlying49 (by kernel_rfl) (fun _ => by kernel_rfl) rfl (by decide)

set_option maxHeartbeats 1000000 in
theorem smiss1_any (r i : Int) (v : Bool) (gc gv : Nat) (w : World) (hc : w.cell? ⟨gc, 2, none⟩ = some (.int .u8 r)) (hv : w.cell? ⟨gv, 0, none⟩ = some (.int .i64 (colI v))) :
    Calls Tryz.prog 111 #[.int .i64 i, .pointer (some ⟨gc, 0, none⟩), .pointer (some ⟨gv, 0, none⟩)] w fun e w' => e = .returned (.int .i64 (trickI r i v)) ∧ w = w' := by
  obtain ⟨N, hN⟩ : ∃ N, trickI r i v = N := ⟨_, rfl⟩
  rw [hN]
  have HN := Lib.hid hN
  have i20 : colI false = 0 := rfl
  have i21 : colI true = 1 := rfl
  have ix0 := idx2_0
  have ix1 := idx2_1
  clear hN
  cases v
  all_goals
    go_enter Tryz.func111, Tryz.ntmps111
    go_wp2
    all_goals go_ret
    all_goals refine ⟨ret_int ?_, rfl⟩
    all_goals have hbv := HN.out
    all_goals simp only [trickI, Bool.false_eq_true, if_false, if_true] at hbv
    all_goals (try simp only [beq_iff_eq, beq_eq_false_iff_ne, ne_eq] at *)
    all_goals (repeat' split at hbv) <;> omega

set_option maxHeartbeats 1000000 in
theorem smissing_any (l d r s : Int) (n : Nat) (v : Bool) (hn : n ≤ 1000) (w : World) :
    Calls Tryz.prog 103 #[.agg #[.int .u8 l, .int .u8 d, .int .u8 r, .int .u8 s], .int .i64 (n : Int), .bool v] w fun e w' => e = .returned (.int .i64 (missI r n v)) ∧ Below w.heap.size w w' := by
  obtain ⟨N, hN⟩ : ∃ N, missI r n v = N := ⟨_, rfl⟩
  rw [hN]
  have HC := Lib.hid (fun W => scol_any v W)
  have HN := Lib.hid hN
  clear hN
  go_enter Tryz.func103, Tryz.ntmps103
  go_wp2_with fail
  refine (HC.out _).mono ?_
  rintro ee w1 ⟨rfl, rfl⟩
  obtain ⟨cv, hcv⟩ : ∃ cv, colI v = cv := ⟨_, rfl⟩
  rw [hcv]
  go_wp2_with fail
  have k0 : ((w.alloc (.cells #[.int .u8 l, .int .u8 d, .int .u8 r, .int .u8 s] 45)).alloc (.cells #[.int .i64 cv] 3)).heap[w.heap.size]? = _ := blk_alloc (blk_new _ rfl) _
  have k1 : ((w.alloc (.cells #[.int .u8 l, .int .u8 d, .int .u8 r, .int .u8 s] 45)).alloc (.cells #[.int .i64 cv] 3)).heap[w.heap.size + 1]? = _ := blk_new _ (by simp)
  have hB0 : Below w.heap.size w ((w.alloc (.cells #[.int .u8 l, .int .u8 d, .int .u8 r, .int .u8 s] 45)).alloc (.cells #[.int .i64 cv] 3)) := (by repeat (first | exact Below.refl _ _ | assumption | refine Below.drew ?_ | refine below_drewN ?_ _ | refine Below.alloc ?_ (by first | omega | (simp; done) | (simp; omega)) _ | refine Below.setCell ?_ (by first | omega | (simp; done) | (simp; omega)) _))
  generalize (w.alloc (.cells #[.int .u8 l, .int .u8 d, .int .u8 r, .int .u8 s] 45)).alloc (.cells #[.int .i64 cv] 3) = W1 at *
  have q2 := blk_cell k0 2
  rw [← hcv] at k1
  have HQ := Lib.hid (fun (i : Int) => smiss1_any r i v w.heap.size (w.heap.size + 1) W1 q2 (blk_cell k1 0))
  clear hcv k0 k1
  go_loop [9, 15] (fun t i => ∃ k : Nat, k ≤ n ∧ i = .int .i64 (k : Int) ∧ t = .int .i64 (sumT r v k)) (fun _ i => n - (intOf i).toNat)
  case atStart => exact ⟨0, by omega, rfl, rfl⟩
  case round =>
    obtain ⟨k, hk, rfl, rfl⟩ := hrel
    have hb := sumT_bd r v k
    by_cases hlt : k < n
    · have hb1 := trickI_bd r k v
      have Hs := Lib.hid (show sumT r v (k + 1) = sumT r v k + trickI r k v from rfl)
      have HQ1 := Lib.hid (HQ.out (k : Int))
      generalize sumT r v k = x at *
      generalize trickI r k v = y at *
      go_wp2_with fail
      refine HQ1.out.mono ?_
      rintro ee w1 ⟨rfl, rfl⟩
      go_wp2
      go_round
      case rel => exact ⟨k + 1, by omega, by go_num, int_eq Hs.out.symm⟩
      case measure => simp [intOf]; omega
    · obtain rfl : k = n := by omega
      have HN2 := Lib.hid (show (if r = 2 then sumT r v k * 2 else sumT r v k) = N from HN.out)
      generalize sumT r v k = x at *
      by_cases hr2 : r = 2
      · have t0 : (r == 2) = true := by rw [hr2]; rfl
        obtain rfl : x * 2 = N := by rw [← HN2.out, if_pos hr2]
        clear hr2
        go_wp2
        go_ret
        exact ⟨rfl, hB0⟩
      · have t0 : (r == 2) = false := beq_eq_false_iff_ne.2 hr2
        obtain rfl : x = N := by rw [← HN2.out, if_neg hr2]
        clear hr2
        go_wp2
        go_ret
        exact ⟨rfl, hB0⟩

end Go.Proofs.YtchklobblkddhaaGreatDoor
