/- The walk of the statement AdjustOnce. (Written by genonce.py.) -/
import Derived.Test.YtgfnggdjjigomaaDoorAdjOnceLaw
import Derived.Test.YtgfnggdjjigomaaDoorAdjMadeW3
import Derived.Laws.Bits128
namespace Go.Proofs.YtgfnggdjjigomaaDoor
open Go.RowKit

theorem small_info4 : (Tryd.prog.info? 59).map (·.size) = some 14 := by kernel_rfl
/-- What else an entry has does not matter. -/
theorem i64_and1 (n : Int) : Go.bits .and .i64 n 1 = n % 2 := by
  have h1 : (BitVec.ofInt 64 1).toNat = 2 ^ 1 - 1 := by decide
  have key : (BitVec.ofInt 64 n &&& BitVec.ofInt 64 1).toNat = (n % ((2 ^ 64 : Nat) : Int)).toNat % 2 ^ 1 := by
    rw [BitVec.toNat_and, BitVec.toNat_ofInt, h1, Nat.and_two_pow_sub_one_eq_mod]
  show IntKind.i64.wrap ((BitVec.ofInt 64 n &&& BitVec.ofInt 64 1).toNat : Nat) = n % 2
  rw [key, IntKind.wrap_i64]
  omega
theorem EnC.other {C : Array Value} {k f a0 a1 : Int} {o : Nat → Oc} (h : EnC C k f o a0 a1) (i : Nat) (hi : i < 4 ∨ i = 6) (v : Value) : EnC (C.setIfInBounds i v) k f o a0 a1 := by
  have key : ∀ j, j ≠ i → (C.setIfInBounds i v)[j]? = C[j]? := fun j hj => by rw [Array.getElem?_setIfInBounds_ne (by omega)]
  obtain ⟨h0, h1, h2, h3, h4, h5⟩ := h
  refine ⟨by simp [h0], (key 4 (by omega)).trans h1, (key 5 (by omega)).trans h2, (key 31 (by omega)).trans h3, (key 32 (by omega)).trans h4, fun j hj => ?_⟩
  obtain ⟨q0, q1, q2, q3, q4, q5⟩ := h5 j hj
  exact ⟨(key _ (by omega)).trans q0, (key _ (by omega)).trans q1, (key _ (by omega)).trans q2, (key _ (by omega)).trans q3, (key _ (by omega)).trans q4, (key _ (by omega)).trans q5⟩
theorem other_ok (k f : Int) (o : Nat → Oc) (a0 a1 : Int) (n0 n1 n2 n3 : Int) (b : Bool) : EnC ((((((enCells k f o a0 a1).setIfInBounds 0 (.int .i64 n0)).setIfInBounds 1 (.int .i64 n1)).setIfInBounds 2 (.int .i64 n2)).setIfInBounds 3 (.int .i64 n3)).setIfInBounds 6 (.bool b)) k f o a0 a1 :=
  (((((enCells_ok k f o a0 a1).other 0 (by omega) _).other 1 (by omega) _).other 2 (by omega) _).other 3 (by omega) _).other 6 (by omega) _

theorem right_wle {k f : Int} {o : Nat → Oc} {a0 a1 : Int} (h : rightE k f o a0 a1 = true) (i : Nat) (hi : i < 4) : 0 ≤ (o i).w ∧ (o i).w ≤ 100 := by
  have hz : ∀ n, restB o n = true → n ≤ i → (o i).w = 0 := fun n hn hle => zB_w ((restB_iff o n).1 hn i hi hle)
  rcases (right_kinds h).2.1 with ⟨_, h1⟩ | ⟨_, h1, h2⟩ | ⟨_, h1, h2, h3⟩ | ⟨_, h1, h2, _, h4⟩
  · have := hz 0 h1 (by omega); omega
  · by_cases h0 : i = 0
    · subst h0; have := wholeB_w h1; omega
    · have := hz 1 h2 (by omega); omega
  · by_cases h0 : i = 0
    · subst h0; have := wholeB_w h1; omega
    · by_cases h5 : i = 1
      · subst h5; have := wholeB_w h2; omega
      · have := hz 2 h3 (by omega); omega
  · by_cases h0 : i < partsN o
    · have h6 := (allW_iff o _).1 h1 i h0
      have := okW_w h6
      have := of_decide_eq_true (Bool.and_eq_true_iff.1 h6).2
      omega
    · have := hz _ h4 (by omega); omega

set_option maxRecDepth 100000 in
set_option maxHeartbeats 4000000 in
theorem adjOnce_walk (x : SmE) (hx : x.Ok) (y : SmE) (hy : y.Ok) (way : Int) (hw : 0 ≤ way ∧ way ≤ 255) (n : Int) (_ : -9223372036854775808 ≤ n ∧ n ≤ 9223372036854775807) (w : World) (hL : LaidS w) :
    Calls Tryd.prog 5 #[.agg (smA x), .agg (smA y), .int .u8 way, .int .i64 n] w fun e w' => e = .returned (.bool true) ∧ Below w.heap.size w w' := by
  have hx0 := hx.1
  have hx1 := hx.2.1
  have hx2 := hx.2.2.1
  have hyb := hy.2.2.2.1 3
  have hyt := hy.2.2.2.2.1 3
  have HM := Lib.hid (fun W => made_any22 x hx W)
  have hr := made_right22 x hx
  have hok := madeO_ok x hx
  have HO := Lib.hid (fun W => outcome_any (y.b 3) (y.t 3) hyb hyt W)
  have hoo := outO_ok (y.b 3) (y.t 3)
  have how := outO_w (y.b 3) (y.t 3)
  unfold madeC at HM
  have hk : 0 ≤ x.k % 5 ∧ x.k % 5 ≤ 255 := by omega
  have hf : 0 ≤ x.f % 4 ∧ x.f % 4 ≤ 255 := by omega
  generalize x.k % 5 = k at HM hr hk
  generalize x.f % 4 = f at HM hr hf
  generalize madeO x = o at HM hr hok
  generalize madeA0 x = b0 at HM hr
  generalize madeA1 x = b1 at HM hr
  have HRa := Lib.hid (fun W hW => eright_any _ k f b0 b1 o (enCells_ok _ _ _ _ _) hok hf hk W hW)
  have HRe := Lib.hid (fun n0 n1 n2 n3 b W hW => eright_any _ k f b0 b1 o (other_ok k f o b0 b1 n0 n1 n2 n3 b) hok hf hk W hW)
  rw [hr] at HRa HRe
  have HRb := Lib.hid (fun k' f' o' a' b' (h : rightE k' f' o' a' b' = false) ho hf' hk' W hW => (show Calls Tryd.prog _ _ W _ from h ▸ eright_any _ k' f' a' b' o' (enCells_ok _ _ _ _ _) ho hf' hk' W hW))
  have HZ := Lib.hid enC_size
  have HL := Lib.hid hL
  have Hr := Lib.hid hr
  have Hok := Lib.hid hok
  clear hL hr hok hx hy
  go_enter Tryd.func5, Tryd.ntmps5
  go_upto_region 1 with fail
  obtain ⟨W0, hW0⟩ : ∃ W0, (w.alloc (.cells (smA x) 59)).alloc (.cells (smA y) 59) = W0 := ⟨_, rfl⟩
  obtain ⟨g0, hg0⟩ : ∃ g, w.heap.size = g := ⟨_, rfl⟩
  have X := Lib.hid (show W0.heap[g0]? = some (.cells (smA x) 59 (0, 0)) by rw [← hW0]; exact blk_alloc (blk_new _ hg0.symm) _)
  have Y := Lib.hid (show W0.heap[g0 + 1]? = some (.cells (smA y) 59 (0, 0)) by rw [← hW0]; exact blk_new _ (by simp [hg0]))
  have hB : Below w.heap.size w W0 := by rw [← hW0]; exact (by repeat (first | exact Below.refl _ _ | assumption | refine Below.drew ?_ | refine below_drewN ?_ _ | refine Below.alloc ?_ (by first | omega | (simp; done) | (simp; omega)) _ | refine Below.setCell ?_ (by first | omega | (simp; done) | (simp; omega)) _))
  rw [hW0, hg0]
  clear hW0 hg0
  go_wp2_with (refine wpList_load_row rfl 59 (.tmp 4) rfl g0 rfl 59 (smA x) _ _ X.out Tryd.underlying59 rfl small_info4 ?_)
  refine (HM.out _).mono ?_
  rintro ee w1 ⟨rfl, hb⟩
  replace hB := below_via hB hb
  replace X := Lib.hid (blk_below X.out hb (blk_lt X.out))
  replace Y := Lib.hid (blk_below Y.out hb (blk_lt Y.out))
  clear hb
  go_upto_region 2 with (refine wpList_store_new rfl 29 _ _ rfl (enCells k f o b0 b1) _ _ rfl rfl (HZ.out _ _ _ _ _) rfl (enCells_one _ _ _ _ _) ?_)
  obtain ⟨VKA, hV⟩ : ∃ V, w1.alloc (.cells (enCells k f o b0 b1) 29) = V := ⟨_, rfl⟩
  obtain ⟨g5, hg⟩ : ∃ g, w1.heap.size = g := ⟨_, rfl⟩
  have KA := Lib.hid (show VKA.heap[g5]? = some (.cells (enCells k f o b0 b1) 29 (0, 0)) by rw [← hV]; exact blk_new _ hg.symm)
  have hb : Below w1.heap.size w1 VKA := by rw [← hV]; exact (Below.refl _ _).alloc (Nat.le_refl _) _
  have hlKA : w.heap.size ≤ g5 := by rw [← hg]; exact hB.size
  have hzKA : g0 + 1 < g5 := by rw [← hg]; exact blk_lt Y.out
  rw [hV, hg]
  clear hV hg
  replace hB := below_via hB hb
  replace X := Lib.hid (blk_below X.out hb (blk_lt X.out))
  replace Y := Lib.hid (blk_below Y.out hb (blk_lt Y.out))
  clear hb
  go_upto_region 3 with (first | (refine wpList_load_row rfl 29 (.tmp 9) rfl g5 rfl 29 (enCells k f o b0 b1) _ _ KA.out Tryd.underlying29 rfl (HZ.out _ _ _ _ _) ?_) | (refine wpList_store_new rfl 29 _ _ rfl (enCells k f o b0 b1) _ _ rfl rfl (HZ.out _ _ _ _ _) rfl (enCells_one _ _ _ _ _) ?_))
  obtain ⟨VKE, hV⟩ : ∃ V, VKA.alloc (.cells (enCells k f o b0 b1) 29) = V := ⟨_, rfl⟩
  obtain ⟨g6, hg⟩ : ∃ g, VKA.heap.size = g := ⟨_, rfl⟩
  have KE := Lib.hid (show VKE.heap[g6]? = some (.cells (enCells k f o b0 b1) 29 (0, 0)) by rw [← hV]; exact blk_new _ hg.symm)
  have hb : Below VKA.heap.size VKA VKE := by rw [← hV]; exact (Below.refl _ _).alloc (Nat.le_refl _) _
  have hlKE : w.heap.size ≤ g6 := by rw [← hg]; exact hB.size
  have hzKE : g0 + 1 < g6 := by rw [← hg]; exact blk_lt Y.out
  have hnf : g5 < g6 := by rw [← hg]; exact blk_lt KA.out
  rw [hV, hg]
  clear hV hg
  replace hB := below_via hB hb
  replace X := Lib.hid (blk_below X.out hb (blk_lt X.out))
  replace Y := Lib.hid (blk_below Y.out hb (blk_lt Y.out))
  replace KA := Lib.hid (blk_below KA.out hb (blk_lt KA.out))
  clear hb
  have c0 : VKE.cell? ⟨g6, 0, none⟩ = some (.int .i64 0) := blk_cell KE.out 0
  have c1 : VKE.cell? ⟨g6, 1, none⟩ = some (.int .i64 0) := blk_cell KE.out 1
  have c2 : VKE.cell? ⟨g6, 2, none⟩ = some (.int .i64 0) := blk_cell KE.out 2
  have c3 : VKE.cell? ⟨g6, 3, none⟩ = some (.int .i64 0) := blk_cell KE.out 3
  have c6 : VKE.cell? ⟨g6, 6, none⟩ = some (.bool false) := blk_cell KE.out 6
  have f0 := blk_free KE.out 0
  have f1 := blk_free KE.out 1
  have f2 := blk_free KE.out 2
  have f3 := blk_free KE.out 3
  have f6 := blk_free KE.out 6
  go_upto_region 4 with fail
  generalize wrap64 (-n) = nn
  generalize (n.tmod 2 == 0) = bb
  obtain ⟨W3, hW3⟩ : ∃ V, (((((VKE.setCell ⟨g6, 0, none⟩ (.int .i64 n)).setCell ⟨g6, 1, none⟩ (.int .i64 nn)).setCell ⟨g6, 2, none⟩ (.int .i64 n)).setCell ⟨g6, 3, none⟩ (.int .i64 n)).setCell ⟨g6, 6, none⟩ (.bool bb)) = V := ⟨_, rfl⟩
  have far : ∀ {q : Nat} {ob : Option Obj}, VKE.heap[q]? = ob → q ≠ g6 → W3.heap[q]? = ob := fun h hq => by rw [← hW3]; exact blk_far (blk_far (blk_far (blk_far (blk_far h hq _) hq _) hq _) hq _) hq _
  replace KE := Lib.hid (show W3.heap[g6]? = some (.cells _ 29 (0, 0)) by rw [← hW3]; exact blk_set (blk_set (blk_set (blk_set (blk_set KE.out 0 _) 1 _) 2 _) 3 _) 6 _)
  replace X := Lib.hid (far X.out (by omega))
  replace Y := Lib.hid (far Y.out (by omega))
  replace KA := Lib.hid (far KA.out (by omega))
  replace hB : Below w.heap.size w W3 := by rw [← hW3]; exact ((((hB.setCell (p := ⟨g6, 0, none⟩) hlKE _).setCell (p := ⟨g6, 1, none⟩) hlKE _).setCell (p := ⟨g6, 2, none⟩) hlKE _).setCell (p := ⟨g6, 3, none⟩) hlKE _).setCell (p := ⟨g6, 6, none⟩) hlKE _
  rw [hW3]
  clear hW3 far c0 c1 c2 c3 c6 f0 f1 f2 f3 f6
  have HRe := Lib.hid (HRe.out n nn n n bb)
  have hEs := (other_ok k f o b0 b1 n nn n n bb).size
  generalize ((((((enCells k f o b0 b1).setIfInBounds 0 (.int .i64 n)).setIfInBounds 1 (.int .i64 nn)).setIfInBounds 2 (.int .i64 n)).setIfInBounds 3 (.int .i64 n)).setIfInBounds 6 (.bool bb)) = CE at KE HRe hEs
  have HEs := Lib.hid hEs
  clear hEs
  go_wp2_with (refine wpList_load_row rfl 29 (.tmp 9) rfl g5 rfl 29 (enCells k f o b0 b1) _ _ KA.out Tryd.underlying29 rfl (HZ.out _ _ _ _ _) ?_)
  refine (HRa.out _ (HL.out.go hB)).mono ?_
  rintro ee w4 ⟨rfl, hb⟩
  replace hB := below_via hB hb
  replace X := Lib.hid (blk_below X.out hb (blk_lt X.out))
  replace Y := Lib.hid (blk_below Y.out hb (blk_lt Y.out))
  replace KA := Lib.hid (blk_below KA.out hb (blk_lt KA.out))
  replace KE := Lib.hid (blk_below KE.out hb (blk_lt KE.out))
  clear hb
  go_wp2_with (refine wpList_load_row_w (by kernel_rfl) 29 (.tmp 10) rfl g6 rfl 29 CE _ _ KE.out Tryd.underlying29 rfl HEs.out ?_)
  refine (HRe.out _ (HL.out.go hB)).mono ?_
  rintro ee w5 ⟨rfl, hb⟩
  replace hB := below_via hB hb
  replace X := Lib.hid (blk_below X.out hb (blk_lt X.out))
  replace Y := Lib.hid (blk_below Y.out hb (blk_lt Y.out))
  replace KA := Lib.hid (blk_below KA.out hb (blk_lt KA.out))
  clear hb
  clear KE HRe HRa HEs HM
  go_upto_region 7 with (first | (refine wpList_load_row rfl 29 (.tmp 9) rfl g5 rfl 29 (enCells k f o b0 b1) _ _ KA.out Tryd.underlying29 rfl (HZ.out _ _ _ _ _) ?_) | (refine wpList_store_new rfl 29 _ _ rfl (enCells k f o b0 b1) _ _ rfl rfl (HZ.out _ _ _ _ _) rfl (enCells_one _ _ _ _ _) ?_))
  obtain ⟨VKB, hV⟩ : ∃ V, w5.alloc (.cells (enCells k f o b0 b1) 29) = V := ⟨_, rfl⟩
  obtain ⟨g7, hg⟩ : ∃ g, w5.heap.size = g := ⟨_, rfl⟩
  have KB := Lib.hid (show VKB.heap[g7]? = some (.cells (enCells k f o b0 b1) 29 (0, 0)) by rw [← hV]; exact blk_new _ hg.symm)
  have hb : Below w5.heap.size w5 VKB := by rw [← hV]; exact (Below.refl _ _).alloc (Nat.le_refl _) _
  have hlKB : w.heap.size ≤ g7 := by rw [← hg]; exact hB.size
  have hne : g5 < g7 := by rw [← hg]; exact blk_lt KA.out
  have hzKB : g0 + 1 < g7 := by rw [← hg]; exact blk_lt Y.out
  rw [hV, hg]
  clear hV hg
  replace hB := below_via hB hb
  replace X := Lib.hid (blk_below X.out hb (blk_lt X.out))
  replace Y := Lib.hid (blk_below Y.out hb (blk_lt Y.out))
  replace KA := Lib.hid (blk_below KA.out hb (blk_lt KA.out))
  clear hb
  have hm : way % 6 = 0 ∨ way % 6 = 1 ∨ way % 6 = 2 ∨ way % 6 = 3 ∨ way % 6 = 4 ∨ way % 6 = 5 := by omega
  rcases hm with hm | hm | hm | hm | hm | hm
  · have qx : VKB.cell? ⟨g0, 0, none⟩ = some (.int .u8 x.k) := blk_cell X.out 0
    have qb : VKB.cell? ⟨g7, 4, none⟩ = some (.int .u8 k) := blk_cell KB.out 4
    have fb := blk_free KB.out 4
    go_upto_region 22 with fail
    obtain ⟨W9, hW9⟩ : ∃ V, VKB.setCell ⟨g7, 4, none⟩ (.int .u8 (max x.k 5)) = V := ⟨_, rfl⟩
    have KZ := Lib.hid (show W9.heap[g7]? = some (.cells (enCells (max x.k 5) f o b0 b1) 29 (0, 0)) by rw [← hW9]; rw [← show (enCells k f o b0 b1).setIfInBounds 4 (.int .u8 (max x.k 5)) = enCells (max x.k 5) f o b0 b1 by simp [enCells]]; exact blk_set KB.out 4 _)
    have hB9 : Below w.heap.size w W9 := by rw [← hW9]; exact hB.setCell (p := ⟨g7, 4, none⟩) hlKB (.int .u8 (max x.k 5))
    rw [hW9]
    have HRz := Lib.hid (HRb.out (max x.k 5) f o b0 b1 (once_kind _ _ _ _ _ (by omega)) (Hok.out) (hf) (by omega))
    clear hW9 KB
    go_wp2_with (refine wpList_load_row rfl 29 (.tmp 11) rfl g7 rfl 29 (enCells (max x.k 5) f o b0 b1) _ _ KZ.out Tryd.underlying29 rfl (HZ.out _ _ _ _ _) ?_)
    refine (HRz.out _ (HL.out.go hB9)).mono ?_
    rintro ee wa ⟨rfl, hba⟩
    have hBa := below_via hB9 hba
    clear hba hB9
    go_wp2_with fail
    refine (awake22 _ (HL.out.go hBa)).mono ?_
    rintro ee wb ⟨rfl, hbb⟩
    go_wp2
    go_ret
    exact ⟨rfl, below_via hBa hbb⟩
  · have qx : VKB.cell? ⟨g0, 1, none⟩ = some (.int .u8 x.f) := blk_cell X.out 1
    have qb : VKB.cell? ⟨g7, 5, none⟩ = some (.int .u8 f) := blk_cell KB.out 5
    have fb := blk_free KB.out 5
    go_upto_region 22 with fail
    obtain ⟨W9, hW9⟩ : ∃ V, VKB.setCell ⟨g7, 5, none⟩ (.int .u8 (max x.f 4)) = V := ⟨_, rfl⟩
    have KZ := Lib.hid (show W9.heap[g7]? = some (.cells (enCells k (max x.f 4) o b0 b1) 29 (0, 0)) by rw [← hW9]; rw [← show (enCells k f o b0 b1).setIfInBounds 5 (.int .u8 (max x.f 4)) = enCells k (max x.f 4) o b0 b1 by simp [enCells]]; exact blk_set KB.out 5 _)
    have hB9 : Below w.heap.size w W9 := by rw [← hW9]; exact hB.setCell (p := ⟨g7, 5, none⟩) hlKB (.int .u8 (max x.f 4))
    rw [hW9]
    have HRz := Lib.hid (HRb.out k (max x.f 4) o b0 b1 (once_field _ _ _ _ _ (by omega)) (Hok.out) (by omega) (hk))
    clear hW9 KB
    go_wp2_with (refine wpList_load_row rfl 29 (.tmp 11) rfl g7 rfl 29 (enCells k (max x.f 4) o b0 b1) _ _ KZ.out Tryd.underlying29 rfl (HZ.out _ _ _ _ _) ?_)
    refine (HRz.out _ (HL.out.go hB9)).mono ?_
    rintro ee wa ⟨rfl, hba⟩
    have hBa := below_via hB9 hba
    clear hba hB9
    go_wp2_with fail
    refine (awake22 _ (HL.out.go hBa)).mono ?_
    rintro ee wb ⟨rfl, hbb⟩
    go_wp2
    go_ret
    exact ⟨rfl, below_via hBa hbb⟩
  · have qx : (VKB.alloc (.cells #[.int .i64 1, .int .i64 (-30), .int .i64 45, .int .i64 101] 3)).cell? ⟨g0, 2, none⟩ = some (.int .u8 x.a) := blk_cell (blk_alloc X.out _) 2
    have hz : ∃ z, (#[.int .i64 1, .int .i64 (-30), .int .i64 45, .int .i64 101] : Array Value)[(x.a % 4).toNat]? = some (.int .i64 z) ∧ shareB z = false := by
      rcases (show x.a % 4 = 0 ∨ x.a % 4 = 1 ∨ x.a % 4 = 2 ∨ x.a % 4 = 3 by omega) with h | h | h | h
      all_goals
        rw [h]
        exact ⟨_, rfl, by decide⟩
    obtain ⟨z, hz, hzs⟩ := hz
    have Hzs := Lib.hid hzs
    have qr : (VKB.alloc (.cells #[.int .i64 1, .int .i64 (-30), .int .i64 45, .int .i64 101] 3)).cell? ⟨VKB.heap.size, (x.a % 4).toNat, none⟩ = some (.int .i64 z) := (blk_cell (blk_new _ rfl) _).trans hz
    have q31 : (VKB.alloc (.cells #[.int .i64 1, .int .i64 (-30), .int .i64 45, .int .i64 101] 3)).cell? ⟨g7, 31, none⟩ = some (.int .i64 b0) := blk_cell (blk_alloc KB.out _) 31
    have q32 : (VKB.alloc (.cells #[.int .i64 1, .int .i64 (-30), .int .i64 45, .int .i64 101] 3)).cell? ⟨g7, 32, none⟩ = some (.int .i64 b1) := blk_cell (blk_alloc KB.out _) 32
    have e31 : (VKB.alloc (.cells #[.int .i64 1, .int .i64 (-30), .int .i64 45, .int .i64 101] 3)).frozen? ⟨g7, 31, none⟩ = false := blk_free (blk_alloc KB.out _) 31
    have e32 : (VKB.alloc (.cells #[.int .i64 1, .int .i64 (-30), .int .i64 45, .int .i64 101] 3)).frozen? ⟨g7, 32, none⟩ = false := blk_free (blk_alloc KB.out _) 32
    have hx4 : 0 ≤ x.a % 4 ∧ x.a % 4 < 4 := by omega
    have hx41 := hx4.1
    have hx42 := hx4.2
    have hBl : Below w.heap.size w (VKB.alloc (.cells #[.int .i64 1, .int .i64 (-30), .int .i64 45, .int .i64 101] 3)) := hB.alloc hB.size _
    clear hz hx4 hzs
    have hb2 : Go.bits .and .i64 n 1 = 0 ∨ Go.bits .and .i64 n 1 = 1 := by rw [i64_and1]; omega
    rcases hb2 with hb2 | hb2
    · skip
      go_upto_region 22 with fail
      obtain ⟨W9, hW9⟩ : ∃ V, (VKB.alloc (.cells #[.int .i64 1, .int .i64 (-30), .int .i64 45, .int .i64 101] 3)).setCell ⟨g7, 31, none⟩ (.int .i64 z) = V := ⟨_, rfl⟩
      have KZ := Lib.hid (show W9.heap[g7]? = some (.cells (enCells k f o z b1) 29 (0, 0)) by rw [← hW9]; rw [← show (enCells k f o b0 b1).setIfInBounds 31 (.int .i64 z) = enCells k f o z b1 by simp [enCells]]; exact blk_set (blk_alloc KB.out _) 31 _)
      have hB9 : Below w.heap.size w W9 := by rw [← hW9]; exact hBl.setCell (p := ⟨g7, 31, none⟩) hlKB (.int .i64 z)
      rw [hW9]
      have HRz := Lib.hid (HRb.out k f o z b1 (once_award _ _ _ _ _ (Or.inl Hzs.out)) (Hok.out) (hf) (hk))
      clear hW9 KB
      go_wp2_with (refine wpList_load_row rfl 29 (.tmp 11) rfl g7 rfl 29 (enCells k f o z b1) _ _ KZ.out Tryd.underlying29 rfl (HZ.out _ _ _ _ _) ?_)
      refine (HRz.out _ (HL.out.go hB9)).mono ?_
      rintro ee wa ⟨rfl, hba⟩
      have hBa := below_via hB9 hba
      clear hba hB9
      go_wp2_with fail
      refine (awake22 _ (HL.out.go hBa)).mono ?_
      rintro ee wb ⟨rfl, hbb⟩
      go_wp2
      go_ret
      exact ⟨rfl, below_via hBa hbb⟩
    · skip
      go_upto_region 22 with fail
      obtain ⟨W9, hW9⟩ : ∃ V, (VKB.alloc (.cells #[.int .i64 1, .int .i64 (-30), .int .i64 45, .int .i64 101] 3)).setCell ⟨g7, 32, none⟩ (.int .i64 z) = V := ⟨_, rfl⟩
      have KZ := Lib.hid (show W9.heap[g7]? = some (.cells (enCells k f o b0 z) 29 (0, 0)) by rw [← hW9]; rw [← show (enCells k f o b0 b1).setIfInBounds 32 (.int .i64 z) = enCells k f o b0 z by simp [enCells]]; exact blk_set (blk_alloc KB.out _) 32 _)
      have hB9 : Below w.heap.size w W9 := by rw [← hW9]; exact hBl.setCell (p := ⟨g7, 32, none⟩) hlKB (.int .i64 z)
      rw [hW9]
      have HRz := Lib.hid (HRb.out k f o b0 z (once_award _ _ _ _ _ (Or.inr Hzs.out)) (Hok.out) (hf) (hk))
      clear hW9 KB
      go_wp2_with (refine wpList_load_row rfl 29 (.tmp 11) rfl g7 rfl 29 (enCells k f o b0 z) _ _ KZ.out Tryd.underlying29 rfl (HZ.out _ _ _ _ _) ?_)
      refine (HRz.out _ (HL.out.go hB9)).mono ?_
      rintro ee wa ⟨rfl, hba⟩
      have hBa := below_via hB9 hba
      clear hba hB9
      go_wp2_with fail
      refine (awake22 _ (HL.out.go hBa)).mono ?_
      rintro ee wb ⟨rfl, hbb⟩
      go_wp2
      go_ret
      exact ⟨rfl, below_via hBa hbb⟩
  · have qy : VKB.cell? ⟨g0 + 1, 6, none⟩ = some (.int .u8 (y.b 3)) := blk_cell Y.out 6
    have qz : VKB.cell? ⟨g0 + 1, 10, none⟩ = some (.int .u8 (y.t 3)) := blk_cell Y.out 10
    have hwl := right_wle Hr.out 3 (by decide)
    have Hhow := Lib.hid how
    have Hoo := Lib.hid hoo
    generalize outO (y.b 3) (y.t 3) = oc at *
    go_wp2_with fail
    refine (HO.out _).mono ?_
    rintro ee w7 ⟨rfl, hb⟩
    clear qy qz hoo how
    replace hB := below_via hB hb
    replace X := Lib.hid (blk_below X.out hb (blk_lt X.out))
    replace Y := Lib.hid (blk_below Y.out hb (blk_lt Y.out))
    replace KA := Lib.hid (blk_below KA.out hb (blk_lt KA.out))
    replace KB := Lib.hid (blk_below KB.out hb (blk_lt KB.out))
    clear hb
    have d0 : w7.cell? ⟨g7, 25, none⟩ = some (.int .u8 (o 3).l) := blk_cell KB.out 25
    have d1 : w7.cell? ⟨g7, 26, none⟩ = some (.int .u8 (o 3).d) := blk_cell KB.out 26
    have d2 : w7.cell? ⟨g7, 27, none⟩ = some (.int .u8 (o 3).r) := blk_cell KB.out 27
    have d3 : w7.cell? ⟨g7, 28, none⟩ = some (.int .u8 (o 3).s) := blk_cell KB.out 28
    have d4 : w7.cell? ⟨g7, 29, none⟩ = some (.int .i64 (o 3).t) := blk_cell KB.out 29
    have d5 : w7.cell? ⟨g7, 30, none⟩ = some (.int .i64 (o 3).w) := blk_cell KB.out 30
    have f0 := blk_free KB.out 25
    have f1 := blk_free KB.out 26
    have f2 := blk_free KB.out 27
    have f3 := blk_free KB.out 28
    have f4 := blk_free KB.out 29
    have f5 := blk_free KB.out 30
    go_upto_region 17 with fail
    obtain ⟨V7, hV7⟩ : ∃ V, six w7 g7 25 oc = V := ⟨_, rfl⟩
    have KC := Lib.hid (show V7.heap[g7]? = some (.cells (enCells k f (upd o 3 oc) b0 b1) 29 (0, 0)) by rw [← hV7]; exact six_set KB.out 3 (by decide) oc)
    have KA2 := Lib.hid (show V7.heap[g5]? = some (.cells (enCells k f o b0 b1) 29 (0, 0)) by rw [← hV7]; exact six_far KA.out (by omega) _ _)
    have hB7 : Below w.heap.size w V7 := by rw [← hV7]; exact six_below hB g7 25 hlKB oc
    unfold six at hV7
    rw [hV7]
    clear hV7 d0 d1 d2 d3 d4 d5 f0 f1 f2 f3 f4 f5 KB KA hB
    have d5 : V7.cell? ⟨g7, 30, none⟩ = some (.int .i64 oc.w) := blk_cell KC.out 30
    have f5 := blk_free KC.out 30
    go_upto_region 18 with fail
    obtain ⟨V8, hV8⟩ : ∃ V, V7.setCell ⟨g7, 30, none⟩ (.int .i64 1) = V := ⟨_, rfl⟩
    have KB := Lib.hid (show V8.heap[g7]? = some (.cells (enCells k f (upd o 3 { oc with w := 1 }) b0 b1) 29 (0, 0)) by rw [← hV8]; rw [← show (enCells k f (upd o 3 oc) b0 b1).setIfInBounds 30 (.int .i64 1) = enCells k f (upd o 3 { oc with w := 1 }) b0 b1 by simp [enCells, upd]]; exact blk_set KC.out 30 _)
    have KA := Lib.hid (show V8.heap[g5]? = some (.cells (enCells k f o b0 b1) 29 (0, 0)) by rw [← hV8]; exact blk_far KA2.out (by show g5 ≠ g7; omega) _)
    have hB : Below w.heap.size w V8 := by rw [← hV8]; exact hB7.setCell (p := ⟨g7, 30, none⟩) hlKB _
    rw [hV8]
    clear hV8 d5 f5 KC KA2 hB7
    have hokz : ∀ (z : Int), 0 ≤ z ∧ z ≤ 200 → ∀ i, i < 4 → OcOk (upd o 3 { oc with w := z } i) := fun z hz i hi => by
      unfold upd
      split
      · have h := Hoo.out
        exact ⟨h.1, h.2.1, h.2.2.1, h.2.2.2.1, h.2.2.2.2.1, by show -9223372036854775808 ≤ z ∧ z ≤ 9223372036854775807; omega⟩
      · exact Hok.out i hi
    have d5 : V8.cell? ⟨g5, 30, none⟩ = some (.int .i64 (o 3).w) := blk_cell KA.out 30
    have e5 : V8.cell? ⟨g7, 30, none⟩ = some (.int .i64 1) := blk_cell KB.out 30
    have f5 := blk_free KB.out 30
    by_cases hp : 0 < (o 3).w
    · have hww : wrap64 ((o 3).w + 1) = (o 3).w + 1 := by unfold wrap64; omega
      have Hlast := Lib.hid (once_last k f o b0 b1 Hr.out { oc with w := (o 3).w + 1 } (by show (o 3).w + 1 = _; rw [if_pos hp]))
      go_upto_region 22 with fail
      obtain ⟨W9, hW9⟩ : ∃ V, V8.setCell ⟨g7, 30, none⟩ (.int .i64 ((o 3).w + 1)) = V := ⟨_, rfl⟩
      have KZ := Lib.hid (show W9.heap[g7]? = some (.cells (enCells k f (upd o 3 { oc with w := (o 3).w + 1 }) b0 b1) 29 (0, 0)) by rw [← hW9]; rw [← show (enCells k f (upd o 3 { oc with w := 1 }) b0 b1).setIfInBounds 30 (.int .i64 ((o 3).w + 1)) = enCells k f (upd o 3 { oc with w := (o 3).w + 1 }) b0 b1 by simp [enCells, upd]]; exact blk_set KB.out 30 _)
      have hB9 : Below w.heap.size w W9 := by rw [← hW9]; exact hB.setCell (p := ⟨g7, 30, none⟩) hlKB (.int .i64 ((o 3).w + 1))
      rw [hW9]
      have HRz := Lib.hid (HRb.out k f (upd o 3 { oc with w := (o 3).w + 1 }) b0 b1 (Hlast.out) (hokz _ (by omega)) (hf) (hk))
      clear hW9 KB
      go_wp2_with (refine wpList_load_row rfl 29 (.tmp 11) rfl g7 rfl 29 (enCells k f (upd o 3 { oc with w := (o 3).w + 1 }) b0 b1) _ _ KZ.out Tryd.underlying29 rfl (HZ.out _ _ _ _ _) ?_)
      refine (HRz.out _ (HL.out.go hB9)).mono ?_
      rintro ee wa ⟨rfl, hba⟩
      have hBa := below_via hB9 hba
      clear hba hB9
      go_wp2_with fail
      refine (awake22 _ (HL.out.go hBa)).mono ?_
      rintro ee wb ⟨rfl, hbb⟩
      go_wp2
      go_ret
      exact ⟨rfl, below_via hBa hbb⟩
    · have Hlast := Lib.hid (once_last k f o b0 b1 Hr.out { oc with w := 1 } (by show 1 = _; rw [if_neg hp]))
      go_upto_region 22 with fail
      obtain ⟨W9, hW9⟩ : ∃ V, V8 = V := ⟨_, rfl⟩
      have KZ := Lib.hid (show W9.heap[g7]? = some (.cells (enCells k f (upd o 3 { oc with w := 1 }) b0 b1) 29 (0, 0)) by rw [← hW9]; exact KB.out)
      have hB9 : Below w.heap.size w W9 := by rw [← hW9]; exact hB
      rw [hW9]
      have HRz := Lib.hid (HRb.out k f (upd o 3 { oc with w := 1 }) b0 b1 (Hlast.out) (hokz 1 (by omega)) (hf) (hk))
      clear hW9 KB
      go_wp2_with (refine wpList_load_row rfl 29 (.tmp 11) rfl g7 rfl 29 (enCells k f (upd o 3 { oc with w := 1 }) b0 b1) _ _ KZ.out Tryd.underlying29 rfl (HZ.out _ _ _ _ _) ?_)
      refine (HRz.out _ (HL.out.go hB9)).mono ?_
      rintro ee wa ⟨rfl, hba⟩
      have hBa := below_via hB9 hba
      clear hba hB9
      go_wp2_with fail
      refine (awake22 _ (HL.out.go hBa)).mono ?_
      rintro ee wb ⟨rfl, hbb⟩
      go_wp2
      go_ret
      exact ⟨rfl, below_via hBa hbb⟩
  · have qb : VKB.cell? ⟨g7, 7, none⟩ = some (.int .u8 (o 0).l) := blk_cell KB.out 7
    have fb := blk_free KB.out 7
    have ho8 : ∀ i, i < 4 → OcOk (upd o 0 { o 0 with l := 8 } i) := fun i hi => by
      unfold upd
      split
      · have h := Hok.out 0 (by decide)
        exact ⟨by show 0 ≤ (8 : Int) ∧ (8 : Int) ≤ 255; omega, h.2.1, h.2.2.1, h.2.2.2.1, h.2.2.2.2.1, h.2.2.2.2.2⟩
      · exact Hok.out i hi
    have Ho8 := Lib.hid ho8
    clear ho8
    go_upto_region 22 with fail
    obtain ⟨W9, hW9⟩ : ∃ V, VKB.setCell ⟨g7, 7, none⟩ (.int .u8 8) = V := ⟨_, rfl⟩
    have KZ := Lib.hid (show W9.heap[g7]? = some (.cells (enCells k f (upd o 0 { o 0 with l := 8 }) b0 b1) 29 (0, 0)) by rw [← hW9]; rw [← show (enCells k f o b0 b1).setIfInBounds 7 (.int .u8 8) = enCells k f (upd o 0 { o 0 with l := 8 }) b0 b1 by simp [enCells, upd]]; exact blk_set KB.out 7 _)
    have hB9 : Below w.heap.size w W9 := by rw [← hW9]; exact hB.setCell (p := ⟨g7, 7, none⟩) hlKB (.int .u8 8)
    rw [hW9]
    have HRz := Lib.hid (HRb.out k f (upd o 0 { o 0 with l := 8 }) b0 b1 (once_level _ _ _ _ _ (by rw [upd_at]; show 7 < (8 : Int); decide)) (Ho8.out) (hf) (hk))
    clear hW9 KB
    go_wp2_with (refine wpList_load_row rfl 29 (.tmp 11) rfl g7 rfl 29 (enCells k f (upd o 0 { o 0 with l := 8 }) b0 b1) _ _ KZ.out Tryd.underlying29 rfl (HZ.out _ _ _ _ _) ?_)
    refine (HRz.out _ (HL.out.go hB9)).mono ?_
    rintro ee wa ⟨rfl, hba⟩
    have hBa := below_via hB9 hba
    clear hba hB9
    go_wp2_with fail
    refine (awake22 _ (HL.out.go hBa)).mono ?_
    rintro ee wb ⟨rfl, hbb⟩
    go_wp2
    go_ret
    exact ⟨rfl, below_via hBa hbb⟩
  · have Hw5 := Lib.hid (once_weight k f o b0 b1 Hr.out)
    have hwl := right_wle Hr.out 0 (by decide)
    have hww : wrap64 ((o 0).w + 1) = (o 0).w + 1 := by unfold wrap64; omega
    have ho9 : ∀ i, i < 4 → OcOk (upd o 0 { o 0 with w := (o 0).w + 1 } i) := fun i hi => by
      unfold upd
      split
      · have h := Hok.out 0 (by decide)
        exact ⟨h.1, h.2.1, h.2.2.1, h.2.2.2.1, h.2.2.2.2.1, by show -9223372036854775808 ≤ (o 0).w + 1 ∧ (o 0).w + 1 ≤ 9223372036854775807; omega⟩
      · exact Hok.out i hi
    have Ho9 := Lib.hid ho9
    clear ho9
    have qb : VKB.cell? ⟨g7, 12, none⟩ = some (.int .i64 (o 0).w) := blk_cell KB.out 12
    have fb := blk_free KB.out 12
    go_upto_region 22 with fail
    obtain ⟨W9, hW9⟩ : ∃ V, VKB.setCell ⟨g7, 12, none⟩ (.int .i64 ((o 0).w + 1)) = V := ⟨_, rfl⟩
    have KZ := Lib.hid (show W9.heap[g7]? = some (.cells (enCells k f (upd o 0 { o 0 with w := (o 0).w + 1 }) b0 b1) 29 (0, 0)) by rw [← hW9]; rw [← show (enCells k f o b0 b1).setIfInBounds 12 (.int .i64 ((o 0).w + 1)) = enCells k f (upd o 0 { o 0 with w := (o 0).w + 1 }) b0 b1 by simp [enCells, upd]]; exact blk_set KB.out 12 _)
    have hB9 : Below w.heap.size w W9 := by rw [← hW9]; exact hB.setCell (p := ⟨g7, 12, none⟩) hlKB (.int .i64 ((o 0).w + 1))
    rw [hW9]
    have HRz := Lib.hid (HRb.out k f (upd o 0 { o 0 with w := (o 0).w + 1 }) b0 b1 (Hw5.out) (Ho9.out) (hf) (hk))
    clear hW9 KB
    go_wp2_with (refine wpList_load_row rfl 29 (.tmp 11) rfl g7 rfl 29 (enCells k f (upd o 0 { o 0 with w := (o 0).w + 1 }) b0 b1) _ _ KZ.out Tryd.underlying29 rfl (HZ.out _ _ _ _ _) ?_)
    refine (HRz.out _ (HL.out.go hB9)).mono ?_
    rintro ee wa ⟨rfl, hba⟩
    have hBa := below_via hB9 hba
    clear hba hB9
    go_wp2_with fail
    refine (awake22 _ (HL.out.go hBa)).mono ?_
    rintro ee wb ⟨rfl, hbb⟩
    go_wp2
    go_ret
    exact ⟨rfl, below_via hBa hbb⟩

end Go.Proofs.YtgfnggdjjigomaaDoor
