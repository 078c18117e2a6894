/- The walk of the statement AdjustSides. (Written by gensd.py.) -/
import Derived.Test.YtgfnggdjjigomaaDoorAdjMeansLaw
import Derived.Test.YtgfnggdjjigomaaDoorAdjMadeW3
import Derived.Test.YtgfnggdjjigomaaDoorAdjMadeLaw
import Derived.Test.YtgfnggdjjigomaaDoorAdjLaidG
import Derived.Laws.CopyOwn
import Derived.Test.YtgfnggdjjigomaaDoorMatCmpW
namespace Go.Proofs.YtgfnggdjjigomaaDoor
open Go.RowKit

theorem meanS_neg (l : List Pt) : meanS (negP l) = - meanS l := by
  unfold meanS negP
  rw [sumF_map]
  induction l with
  | nil => rfl
  | cons p l ih =>
    simp only [sumF, List.map_cons, List.sum_cons] at ih ⊢
    rw [ih, Int.neg_mul, Int.neg_add]
theorem mean_zero (l : List Pt) : addF (meanF l) (meanF (negP l)) = (0, 1) := by
  unfold meanF
  rw [meanS_neg, add_frD _ _ _ (by decide), show meanS l + - meanS l = 0 * 100 by omega]
  exact whole_frD 0 100 (by decide)
theorem sides_same (k : Int) (o : Nat → Oc) (h : k = 1 ∨ k = 2) : sideA k o = sideB k o := by
  rcases h with rfl | rfl <;> rfl

theorem small_info3 : (Tryd.prog.info? 59).map (·.size) = some 14 := by kernel_rfl
theorem en_zero : (Tryd.prog.info? 29).map (·.zero) = some (some (.agg (enCells 0 0 (fun _ => zO) 0 0))) := by kernel_rfl
theorem pair_turned (a b : List Pt) (ha : rightM a = true) (hb : rightM b = true) : addF (cmpV a b) (cmpV (negP a) (negP b)) = (2, 1) := by
  rw [cmpV_fr a b ha hb, cmpV_fr _ _ (negP_right a ha) (negP_right b hb), add_fr, gAB_neg a b ha hb, show gAB a b + (20000 - gAB a b) = 2 * 10000 by omega]
  exact whole_fr 2
theorem sides_len (k : Int) (o : Nat → Oc) : (sideA k o).length = (sideB k o).length := by
  unfold sideA sideB
  by_cases h2 : k = 2
  · rw [if_pos h2, if_pos h2]
  · rw [if_neg h2, if_neg h2]
    split <;> rfl
theorem negP_len (l : List Pt) : (negP l).length = l.length := by unfold negP; rw [List.length_map]
theorem Laid.goG {w w' : World} (h : Laid w) (hb : Below w.heap.size w w') : Laid w' := by
  obtain ⟨t, fr, h0⟩ := h
  exact Laid.below ⟨t, fr, h0⟩ hb (by have := blk_lt h0; omega)

/-- A variable of a type whose zero value is known by name. -/
theorem wp_alloc_to2 {P : Program} {o : Oper} {a : Act} {w : World} {Q : Exit → Act → World → Prop} {K : Act → World → Prop} (ty d : Nat) (ho : o.op = .alloc ty) (hd : o.dst = some d) (Z : Array Value) (hz : (P.info? ty).map (·.zero) = some (some (.agg Z)))
    (h : K (a.put (some d) (.pointer (some ⟨w.heap.size, 0, none⟩))) (w.alloc (.cells Z ty))) : o.wp P a w K Q := by
  have h' : K (a.put o.dst (.pointer (some ⟨w.heap.size, 0, none⟩))) (w.alloc (.cells Z ty)) := by rw [hd]; exact h
  clear h hd
  obtain ⟨i, hi, hz⟩ := Option.map_eq_some_iff.1 hz
  unfold Oper.wp execOp
  simp only [ho, Instr.alloc, zeroValue, typeInfo, newVar]
  go_simp
  exact h'
/-- A whole variable in a region that draws. -/
theorem yieldsIf_load_row {P : Program} {ops : Array Oper} {S : World → Prop} {op : Oper} {a : Act} (hw : Region.wanted op (yielded ops a.tmps) = true) (ty : TypeId) (x : Operand) (ho : op.op = .load ty x)
    (g : Nat) (hx : a.eval x = .pointer (some ⟨g, 0, none⟩)) (t : TypeId) (cs : Array Value) (fr : Nat × Nat) (d : TypeDesc) (hS : ∀ w, S w → w.heap[g]? = some (.cells cs t fr))
    (hu : P.underlying ty = some d) (hd : (match d with | .struct _ | .array _ _ => true | _ => false) = true) (hi : (P.info? ty).map (·.size) = some cs.size) : YieldsIf P ops S op (.agg cs) a :=
  .inl ⟨hw, fun w hw' => by
    unfold execOp
    simp only [ho, hx, Instr.loadAt, Instr.sureAddr, Sem.run_bind, Sem.run_pure, Result.andThen_ok, run_loadVar_row w g t ty cs fr d (hS w hw') hu hd hi]⟩

set_option maxRecDepth 100000 in
set_option maxHeartbeats 4000000 in
theorem adjSides_walk (x y : SmE) (hx : x.Ok) (hy : y.Ok) (vul : Int) (hv : 0 ≤ vul ∧ vul ≤ 255) (w : World) (hL : LaidS w) (hG : Laid w) :
    Calls Tryd.prog 9 #[.agg (smA x), .agg (smA y), .int .u8 vul] w fun e w' => e = .returned (.bool true) ∧ Below w.heap.size w w' := by
  have HMx := Lib.hid (fun W => made_any22 x hx W)
  have HMy := Lib.hid (fun W => made_any22 y hy W)
  have HZ := Lib.hid enC_size
  have HL := Lib.hid hL
  have HG := Lib.hid hG
  go_enter Tryd.func9, Tryd.ntmps9
  go_upto_region 1 with fail
  obtain ⟨W0, hW0⟩ : ∃ W0, (w.alloc (.cells (smA x) 59)).alloc (.cells (smA y) 59) = W0 := ⟨_, rfl⟩
  obtain ⟨g0, hg0⟩ : ∃ g, w.heap.size = g := ⟨_, rfl⟩
  have X0 := Lib.hid (show W0.heap[g0]? = some (.cells (smA x) 59 (0, 0)) by rw [← hW0]; exact blk_alloc (blk_new _ hg0.symm) _)
  have Y0 := Lib.hid (show W0.heap[g0 + 1]? = some (.cells (smA y) 59 (0, 0)) by rw [← hW0]; exact blk_new _ (by simp [hg0]))
  have hB0 : Below w.heap.size w W0 := by rw [← hW0]; exact (by repeat (first | exact Below.refl _ _ | assumption | refine Below.drew ?_ | refine below_drewN ?_ _ | refine Below.alloc ?_ (by first | omega | (simp; done) | (simp; omega)) _ | refine Below.setCell ?_ (by first | omega | (simp; done) | (simp; omega)) _))
  rw [hW0, hg0]
  clear hW0 hg0
  have hd0 : Below W0.heap.size W0 W0.drew := (Below.refl _ _).drew
  have HS0 := Lib.hid (fun (W : World) (hb : Below W0.heap.size W0 W) => (show W.heap[g0]? = some (.cells (smA x) 59 (0, 0)) ∧ W.heap[g0 + 1]? = some (.cells (smA y) 59 (0, 0)) from ⟨blk_below X0.out hb (blk_lt X0.out), blk_below Y0.out hb (blk_lt Y0.out)⟩))
  go_cut [7, 8] (fun p q wz => ∃ ga gb : Nat, p = .pointer (some ⟨ga, 0, none⟩) ∧ q = .pointer (some ⟨gb, 0, none⟩) ∧ wz.heap[ga]? = some (.cells (madeC x) 29 (0, 0)) ∧ wz.heap[gb]? = some (.cells (madeC y) 29 (0, 0)) ∧ ga ≠ gb ∧ W0.heap.size ≤ ga ∧ W0.heap.size ≤ gb ∧ Below W0.heap.size W0 wz)
  case first =>
    refine wp_region_held_drew (S := (fun w1 => w1.heap[g0]? = some (.cells (smA x) 59 (0, 0)) ∧ w1.heap[g0 + 1]? = some (.cells (smA y) 59 (0, 0)))) (by kernel_rfl) (HS0.out _ hd0) (fun hHeld => ?_)
    refine take_named (i := 0) (d := 30) (v := .agg (smA x)) rfl (by kernel_rfl) (by kernel_rfl) (by kernel_rfl) (by kernel_rfl) (fun _ _ _ h => h) (yieldsIf_load_row (by kernel_rfl) 59 (.tmp 3) rfl g0 rfl 59 (smA x) (0, 0) _ (fun w h => h.1) Tryd.underlying59 rfl small_info3) (by assumption) ?_
    (try simp only [Act.put, List.setIfInBounds_toArray, List.set_cons_zero, List.set_cons_succ])
    refine take_named (i := 2) (d := 32) (v := .agg (smA y)) rfl (by kernel_rfl) (by kernel_rfl) (by kernel_rfl) (by kernel_rfl) (fun _ _ _ h => h) (yieldsIf_load_row (by kernel_rfl) 59 (.tmp 4) rfl (g0 + 1) rfl 59 (smA y) (0, 0) _ (fun w h => h.2) Tryd.underlying59 rfl small_info3) (by assumption) ?_
    (try simp only [Act.put, List.setIfInBounds_toArray, List.set_cons_zero, List.set_cons_succ])
    refine wpAnyH_ready (rs := [1, 4, 5]) (by kernel_rfl) (by simp) ?_
    refine AllReadyH.cons rfl (fun K hK => ?_) (AllReadyH.cons rfl (fun K hK => ?_) (AllReadyH.cons rfl (fun K hK => ?_) (AllReadyH.nil)))
    · go_simp
      refine (HMx.out _).mono ?_
      rintro ee v1 ⟨rfl, hv1⟩
      have hb1 := hd0.trans (hv1.mono hd0.size)
      refine hK.out _ _ (HS0.out _ hb1) (fun hH1 => ?_)
      clear hK K hHeld
      (try simp only [Act.put, List.setIfInBounds_toArray, List.set_cons_zero, List.set_cons_succ])
      refine wpAnyH_ready (rs := [3, 4, 5]) (by kernel_rfl) (by simp) ?_
      refine AllReadyH.cons rfl (fun K hK => ?_) (AllReadyH.cons rfl (fun K hK => ?_) (AllReadyH.cons rfl (fun K hK => ?_) (AllReadyH.nil)))
      · go_simp
        refine (HMy.out _).mono ?_
        rintro ee v2 ⟨rfl, hv2⟩
        have hb2 := hb1.trans (hv2.mono hb1.size)
        refine hK.out _ _ (HS0.out _ hb2) (fun hH2 => ?_)
        clear hK K hH1
        (try simp only [Act.put, List.setIfInBounds_toArray, List.set_cons_zero, List.set_cons_succ])
        refine wpAnyH_ready (rs := [4, 5]) (by kernel_rfl) (by simp) ?_
        refine AllReadyH.cons rfl (fun K hK => ?_) (AllReadyH.cons rfl (fun K hK => ?_) (AllReadyH.nil))
        · rw [if_pos (by kernel_rfl)]
          refine wp_alloc_to2 29 7 rfl rfl (enCells 0 0 (fun _ => zO) 0 0) en_zero ?_
          obtain ⟨v3, ev3⟩ : ∃ V, (v2).alloc (.cells (enCells 0 0 (fun _ => zO) 0 0) 29) = V := ⟨_, rfl⟩
          obtain ⟨m3, em3⟩ : ∃ m, (v2).heap.size = m := ⟨_, rfl⟩
          have hv3 : Below (v2).heap.size (v2) v3 := by rw [← ev3]; exact (Below.refl _ _).alloc (Nat.le_refl _) _
          have PX3 := Lib.hid (show v3.heap[m3]? = some (.cells (enCells 0 0 (fun _ => zO) 0 0) 29 (0, 0)) by rw [← ev3]; exact blk_new _ em3.symm)
          have hgx : W0.heap.size ≤ m3 := by rw [← em3]; exact hb2.size
          rw [ev3, em3]
          clear ev3 em3
          have hb3 := hb2.trans (hv3.mono hb2.size)
          refine hK.out _ _ (HS0.out _ hb3) (fun hH3 => ?_)
          clear hK K hH2
          (try simp only [Act.put, List.setIfInBounds_toArray, List.set_cons_zero, List.set_cons_succ])
          refine wpAnyH_ready (rs := [5]) (by kernel_rfl) (by simp) ?_
          refine AllReadyH.cons rfl (fun K hK => ?_) (AllReadyH.nil)
          rw [if_pos (by kernel_rfl)]
          refine wp_alloc_to2 29 8 rfl rfl (enCells 0 0 (fun _ => zO) 0 0) en_zero ?_
          obtain ⟨v4, ev4⟩ : ∃ V, (v3).alloc (.cells (enCells 0 0 (fun _ => zO) 0 0) 29) = V := ⟨_, rfl⟩
          obtain ⟨m4, em4⟩ : ∃ m, (v3).heap.size = m := ⟨_, rfl⟩
          have hv4 : Below (v3).heap.size (v3) v4 := by rw [← ev4]; exact (Below.refl _ _).alloc (Nat.le_refl _) _
          have PY4 := Lib.hid (show v4.heap[m4]? = some (.cells (enCells 0 0 (fun _ => zO) 0 0) 29 (0, 0)) by rw [← ev4]; exact blk_new _ em4.symm)
          have hgy : W0.heap.size ≤ m4 := by rw [← em4]; exact hb3.size
          have PX4 := Lib.hid (blk_below PX3.out hv4 (blk_lt PX3.out))
          have hne : m4 ≠ m3 := by have := blk_lt PX3.out; omega
          rw [ev4, em4]
          clear ev4 em4
          have hb4 := hb3.trans (hv4.mono hb3.size)
          refine hK.out _ _ (HS0.out _ hb4) (fun hH4 => ?_)
          clear hK K hH3
          (try simp only [Act.put, List.setIfInBounds_toArray, List.set_cons_zero, List.set_cons_succ])
          refine wpAnyH_ready (rs := [6]) (by kernel_rfl) (by simp) ?_
          refine AllReadyH.cons rfl (fun K hK => ?_) (AllReadyH.nil)
          rw [if_pos (by kernel_rfl)]
          refine wp_store_row 29 _ _ rfl m3 (madeC x) rfl rfl _ _ PX4.out (HZ.out _ _ _ _ _) rfl (enCells_one _ _ _ _ _) ?_
          obtain ⟨v5, ev5⟩ : ∃ V, World.setRow v4 m3 (madeC x) = V := ⟨_, rfl⟩
          have PX5 := Lib.hid (show v5.heap[m3]? = some (.cells (madeC x) 29 (0, 0)) by rw [← ev5]; exact setRow_heap _ _ _ _ _ _ PX4.out)
          have PY5 := Lib.hid (show v5.heap[m4]? = some (.cells (enCells 0 0 (fun _ => zO) 0 0) 29 (0, 0)) by rw [← ev5]; exact (setRow_other _ _ _ _ (hne)).trans PY4.out)
          have hb5 : Below W0.heap.size W0 v5 := by rw [← ev5]; exact below_setRow hb4 hgx _
          rw [ev5]
          clear ev5
          refine hK.out _ _ (HS0.out _ hb5) (fun hH5 => ?_)
          clear hK K hH4
          simp only [Act.put, List.setIfInBounds_toArray]
          refine wpAnyH_ready (rs := [7]) (by kernel_rfl) (by simp) ?_
          refine AllReadyH.cons rfl (fun K hK => ?_) (AllReadyH.nil)
          rw [if_pos (by kernel_rfl)]
          refine wp_store_row 29 _ _ rfl m4 (madeC y) rfl rfl _ _ PY5.out (HZ.out _ _ _ _ _) rfl (enCells_one _ _ _ _ _) ?_
          obtain ⟨v6, ev6⟩ : ∃ V, World.setRow v5 m4 (madeC y) = V := ⟨_, rfl⟩
          have PY6 := Lib.hid (show v6.heap[m4]? = some (.cells (madeC y) 29 (0, 0)) by rw [← ev6]; exact setRow_heap _ _ _ _ _ _ PY5.out)
          have PX6 := Lib.hid (show v6.heap[m3]? = some (.cells (madeC x) 29 (0, 0)) by rw [← ev6]; exact (setRow_other _ _ _ _ ((fun e => hne e.symm))).trans PX5.out)
          have hb6 : Below W0.heap.size W0 v6 := by rw [← ev6]; exact below_setRow hb5 hgy _
          rw [ev6]
          clear ev6
          refine hK.out _ _ (HS0.out _ hb6) (fun hH6 => ?_)
          clear hK K hH5
          simp only [Act.put]
          refine wpAnyH_done (by kernel_rfl) ?_ _
          go_wp2_with fail
          go_meet
          exact ⟨_, _, rfl, rfl, ⟨PX6.out, PY6.out, (fun e => hne e.symm), hgx, hgy, hb6⟩⟩
        · rw [if_pos (by kernel_rfl)]
          refine wp_alloc_to2 29 8 rfl rfl (enCells 0 0 (fun _ => zO) 0 0) en_zero ?_
          obtain ⟨v7, ev7⟩ : ∃ V, (v2).alloc (.cells (enCells 0 0 (fun _ => zO) 0 0) 29) = V := ⟨_, rfl⟩
          obtain ⟨m7, em7⟩ : ∃ m, (v2).heap.size = m := ⟨_, rfl⟩
          have hv7 : Below (v2).heap.size (v2) v7 := by rw [← ev7]; exact (Below.refl _ _).alloc (Nat.le_refl _) _
          have PY7 := Lib.hid (show v7.heap[m7]? = some (.cells (enCells 0 0 (fun _ => zO) 0 0) 29 (0, 0)) by rw [← ev7]; exact blk_new _ em7.symm)
          have hgy : W0.heap.size ≤ m7 := by rw [← em7]; exact hb2.size
          rw [ev7, em7]
          clear ev7 em7
          have hb7 := hb2.trans (hv7.mono hb2.size)
          refine hK.out _ _ (HS0.out _ hb7) (fun hH7 => ?_)
          clear hK K hH2
          (try simp only [Act.put, List.setIfInBounds_toArray, List.set_cons_zero, List.set_cons_succ])
          refine wpAnyH_ready (rs := [4]) (by kernel_rfl) (by simp) ?_
          refine AllReadyH.cons rfl (fun K hK => ?_) (AllReadyH.nil)
          rw [if_pos (by kernel_rfl)]
          refine wp_alloc_to2 29 7 rfl rfl (enCells 0 0 (fun _ => zO) 0 0) en_zero ?_
          obtain ⟨v8, ev8⟩ : ∃ V, (v7).alloc (.cells (enCells 0 0 (fun _ => zO) 0 0) 29) = V := ⟨_, rfl⟩
          obtain ⟨m8, em8⟩ : ∃ m, (v7).heap.size = m := ⟨_, rfl⟩
          have hv8 : Below (v7).heap.size (v7) v8 := by rw [← ev8]; exact (Below.refl _ _).alloc (Nat.le_refl _) _
          have PX8 := Lib.hid (show v8.heap[m8]? = some (.cells (enCells 0 0 (fun _ => zO) 0 0) 29 (0, 0)) by rw [← ev8]; exact blk_new _ em8.symm)
          have hgx : W0.heap.size ≤ m8 := by rw [← em8]; exact hb7.size
          have PY8 := Lib.hid (blk_below PY7.out hv8 (blk_lt PY7.out))
          have hne : m7 ≠ m8 := by have := blk_lt PY7.out; omega
          rw [ev8, em8]
          clear ev8 em8
          have hb8 := hb7.trans (hv8.mono hb7.size)
          refine hK.out _ _ (HS0.out _ hb8) (fun hH8 => ?_)
          clear hK K hH7
          (try simp only [Act.put, List.setIfInBounds_toArray, List.set_cons_zero, List.set_cons_succ])
          refine wpAnyH_ready (rs := [6]) (by kernel_rfl) (by simp) ?_
          refine AllReadyH.cons rfl (fun K hK => ?_) (AllReadyH.nil)
          rw [if_pos (by kernel_rfl)]
          refine wp_store_row 29 _ _ rfl m8 (madeC x) rfl rfl _ _ PX8.out (HZ.out _ _ _ _ _) rfl (enCells_one _ _ _ _ _) ?_
          obtain ⟨v9, ev9⟩ : ∃ V, World.setRow v8 m8 (madeC x) = V := ⟨_, rfl⟩
          have PX9 := Lib.hid (show v9.heap[m8]? = some (.cells (madeC x) 29 (0, 0)) by rw [← ev9]; exact setRow_heap _ _ _ _ _ _ PX8.out)
          have PY9 := Lib.hid (show v9.heap[m7]? = some (.cells (enCells 0 0 (fun _ => zO) 0 0) 29 (0, 0)) by rw [← ev9]; exact (setRow_other _ _ _ _ (hne)).trans PY8.out)
          have hb9 : Below W0.heap.size W0 v9 := by rw [← ev9]; exact below_setRow hb8 hgx _
          rw [ev9]
          clear ev9
          refine hK.out _ _ (HS0.out _ hb9) (fun hH9 => ?_)
          clear hK K hH8
          simp only [Act.put, List.setIfInBounds_toArray]
          refine wpAnyH_ready (rs := [7]) (by kernel_rfl) (by simp) ?_
          refine AllReadyH.cons rfl (fun K hK => ?_) (AllReadyH.nil)
          rw [if_pos (by kernel_rfl)]
          refine wp_store_row 29 _ _ rfl m7 (madeC y) rfl rfl _ _ PY9.out (HZ.out _ _ _ _ _) rfl (enCells_one _ _ _ _ _) ?_
          obtain ⟨v10, ev10⟩ : ∃ V, World.setRow v9 m7 (madeC y) = V := ⟨_, rfl⟩
          have PY10 := Lib.hid (show v10.heap[m7]? = some (.cells (madeC y) 29 (0, 0)) by rw [← ev10]; exact setRow_heap _ _ _ _ _ _ PY9.out)
          have PX10 := Lib.hid (show v10.heap[m8]? = some (.cells (madeC x) 29 (0, 0)) by rw [← ev10]; exact (setRow_other _ _ _ _ ((fun e => hne e.symm))).trans PX9.out)
          have hb10 : Below W0.heap.size W0 v10 := by rw [← ev10]; exact below_setRow hb9 hgy _
          rw [ev10]
          clear ev10
          refine hK.out _ _ (HS0.out _ hb10) (fun hH10 => ?_)
          clear hK K hH9
          simp only [Act.put]
          refine wpAnyH_done (by kernel_rfl) ?_ _
          go_wp2_with fail
          go_meet
          exact ⟨_, _, rfl, rfl, ⟨PX10.out, PY10.out, (fun e => hne e.symm), hgx, hgy, hb10⟩⟩
      · rw [if_pos (by kernel_rfl)]
        refine wp_alloc_to2 29 7 rfl rfl (enCells 0 0 (fun _ => zO) 0 0) en_zero ?_
        obtain ⟨v11, ev11⟩ : ∃ V, (v1).alloc (.cells (enCells 0 0 (fun _ => zO) 0 0) 29) = V := ⟨_, rfl⟩
        obtain ⟨m11, em11⟩ : ∃ m, (v1).heap.size = m := ⟨_, rfl⟩
        have hv11 : Below (v1).heap.size (v1) v11 := by rw [← ev11]; exact (Below.refl _ _).alloc (Nat.le_refl _) _
        have PX11 := Lib.hid (show v11.heap[m11]? = some (.cells (enCells 0 0 (fun _ => zO) 0 0) 29 (0, 0)) by rw [← ev11]; exact blk_new _ em11.symm)
        have hgx : W0.heap.size ≤ m11 := by rw [← em11]; exact hb1.size
        rw [ev11, em11]
        clear ev11 em11
        have hb11 := hb1.trans (hv11.mono hb1.size)
        refine hK.out _ _ (HS0.out _ hb11) (fun hH11 => ?_)
        clear hK K hH1
        (try simp only [Act.put, List.setIfInBounds_toArray, List.set_cons_zero, List.set_cons_succ])
        refine wpAnyH_ready (rs := [3, 5]) (by kernel_rfl) (by simp) ?_
        refine AllReadyH.cons rfl (fun K hK => ?_) (AllReadyH.cons rfl (fun K hK => ?_) (AllReadyH.nil))
        · go_simp
          refine (HMy.out _).mono ?_
          rintro ee v12 ⟨rfl, hv12⟩
          have hb12 := hb11.trans (hv12.mono hb11.size)
          have PX12 := Lib.hid (blk_below PX11.out hv12 (blk_lt PX11.out))
          refine hK.out _ _ (HS0.out _ hb12) (fun hH12 => ?_)
          clear hK K hH11
          (try simp only [Act.put, List.setIfInBounds_toArray, List.set_cons_zero, List.set_cons_succ])
          refine wpAnyH_ready (rs := [5]) (by kernel_rfl) (by simp) ?_
          refine AllReadyH.cons rfl (fun K hK => ?_) (AllReadyH.nil)
          rw [if_pos (by kernel_rfl)]
          refine wp_alloc_to2 29 8 rfl rfl (enCells 0 0 (fun _ => zO) 0 0) en_zero ?_
          obtain ⟨v13, ev13⟩ : ∃ V, (v12).alloc (.cells (enCells 0 0 (fun _ => zO) 0 0) 29) = V := ⟨_, rfl⟩
          obtain ⟨m13, em13⟩ : ∃ m, (v12).heap.size = m := ⟨_, rfl⟩
          have hv13 : Below (v12).heap.size (v12) v13 := by rw [← ev13]; exact (Below.refl _ _).alloc (Nat.le_refl _) _
          have PY13 := Lib.hid (show v13.heap[m13]? = some (.cells (enCells 0 0 (fun _ => zO) 0 0) 29 (0, 0)) by rw [← ev13]; exact blk_new _ em13.symm)
          have hgy : W0.heap.size ≤ m13 := by rw [← em13]; exact hb12.size
          have PX13 := Lib.hid (blk_below PX12.out hv13 (blk_lt PX12.out))
          have hne : m13 ≠ m11 := by have := blk_lt PX12.out; omega
          rw [ev13, em13]
          clear ev13 em13
          have hb13 := hb12.trans (hv13.mono hb12.size)
          refine hK.out _ _ (HS0.out _ hb13) (fun hH13 => ?_)
          clear hK K hH12
          (try simp only [Act.put, List.setIfInBounds_toArray, List.set_cons_zero, List.set_cons_succ])
          refine wpAnyH_ready (rs := [6]) (by kernel_rfl) (by simp) ?_
          refine AllReadyH.cons rfl (fun K hK => ?_) (AllReadyH.nil)
          rw [if_pos (by kernel_rfl)]
          refine wp_store_row 29 _ _ rfl m11 (madeC x) rfl rfl _ _ PX13.out (HZ.out _ _ _ _ _) rfl (enCells_one _ _ _ _ _) ?_
          obtain ⟨v14, ev14⟩ : ∃ V, World.setRow v13 m11 (madeC x) = V := ⟨_, rfl⟩
          have PX14 := Lib.hid (show v14.heap[m11]? = some (.cells (madeC x) 29 (0, 0)) by rw [← ev14]; exact setRow_heap _ _ _ _ _ _ PX13.out)
          have PY14 := Lib.hid (show v14.heap[m13]? = some (.cells (enCells 0 0 (fun _ => zO) 0 0) 29 (0, 0)) by rw [← ev14]; exact (setRow_other _ _ _ _ (hne)).trans PY13.out)
          have hb14 : Below W0.heap.size W0 v14 := by rw [← ev14]; exact below_setRow hb13 hgx _
          rw [ev14]
          clear ev14
          refine hK.out _ _ (HS0.out _ hb14) (fun hH14 => ?_)
          clear hK K hH13
          simp only [Act.put, List.setIfInBounds_toArray]
          refine wpAnyH_ready (rs := [7]) (by kernel_rfl) (by simp) ?_
          refine AllReadyH.cons rfl (fun K hK => ?_) (AllReadyH.nil)
          rw [if_pos (by kernel_rfl)]
          refine wp_store_row 29 _ _ rfl m13 (madeC y) rfl rfl _ _ PY14.out (HZ.out _ _ _ _ _) rfl (enCells_one _ _ _ _ _) ?_
          obtain ⟨v15, ev15⟩ : ∃ V, World.setRow v14 m13 (madeC y) = V := ⟨_, rfl⟩
          have PY15 := Lib.hid (show v15.heap[m13]? = some (.cells (madeC y) 29 (0, 0)) by rw [← ev15]; exact setRow_heap _ _ _ _ _ _ PY14.out)
          have PX15 := Lib.hid (show v15.heap[m11]? = some (.cells (madeC x) 29 (0, 0)) by rw [← ev15]; exact (setRow_other _ _ _ _ ((fun e => hne e.symm))).trans PX14.out)
          have hb15 : Below W0.heap.size W0 v15 := by rw [← ev15]; exact below_setRow hb14 hgy _
          rw [ev15]
          clear ev15
          refine hK.out _ _ (HS0.out _ hb15) (fun hH15 => ?_)
          clear hK K hH14
          simp only [Act.put]
          refine wpAnyH_done (by kernel_rfl) ?_ _
          go_wp2_with fail
          go_meet
          exact ⟨_, _, rfl, rfl, ⟨PX15.out, PY15.out, (fun e => hne e.symm), hgx, hgy, hb15⟩⟩
        · rw [if_pos (by kernel_rfl)]
          refine wp_alloc_to2 29 8 rfl rfl (enCells 0 0 (fun _ => zO) 0 0) en_zero ?_
          obtain ⟨v16, ev16⟩ : ∃ V, (v11).alloc (.cells (enCells 0 0 (fun _ => zO) 0 0) 29) = V := ⟨_, rfl⟩
          obtain ⟨m16, em16⟩ : ∃ m, (v11).heap.size = m := ⟨_, rfl⟩
          have hv16 : Below (v11).heap.size (v11) v16 := by rw [← ev16]; exact (Below.refl _ _).alloc (Nat.le_refl _) _
          have PY16 := Lib.hid (show v16.heap[m16]? = some (.cells (enCells 0 0 (fun _ => zO) 0 0) 29 (0, 0)) by rw [← ev16]; exact blk_new _ em16.symm)
          have hgy : W0.heap.size ≤ m16 := by rw [← em16]; exact hb11.size
          have PX16 := Lib.hid (blk_below PX11.out hv16 (blk_lt PX11.out))
          have hne : m16 ≠ m11 := by have := blk_lt PX11.out; omega
          rw [ev16, em16]
          clear ev16 em16
          have hb16 := hb11.trans (hv16.mono hb11.size)
          refine hK.out _ _ (HS0.out _ hb16) (fun hH16 => ?_)
          clear hK K hH11
          (try simp only [Act.put, List.setIfInBounds_toArray, List.set_cons_zero, List.set_cons_succ])
          refine wpAnyH_ready (rs := [3]) (by kernel_rfl) (by simp) ?_
          refine AllReadyH.cons rfl (fun K hK => ?_) (AllReadyH.nil)
          go_simp
          refine (HMy.out _).mono ?_
          rintro ee v17 ⟨rfl, hv17⟩
          have hb17 := hb16.trans (hv17.mono hb16.size)
          have PX17 := Lib.hid (blk_below PX16.out hv17 (blk_lt PX16.out))
          have PY17 := Lib.hid (blk_below PY16.out hv17 (blk_lt PY16.out))
          refine hK.out _ _ (HS0.out _ hb17) (fun hH17 => ?_)
          clear hK K hH16
          (try simp only [Act.put, List.setIfInBounds_toArray, List.set_cons_zero, List.set_cons_succ])
          refine wpAnyH_ready (rs := [6]) (by kernel_rfl) (by simp) ?_
          refine AllReadyH.cons rfl (fun K hK => ?_) (AllReadyH.nil)
          rw [if_pos (by kernel_rfl)]
          refine wp_store_row 29 _ _ rfl m11 (madeC x) rfl rfl _ _ PX17.out (HZ.out _ _ _ _ _) rfl (enCells_one _ _ _ _ _) ?_
          obtain ⟨v18, ev18⟩ : ∃ V, World.setRow v17 m11 (madeC x) = V := ⟨_, rfl⟩
          have PX18 := Lib.hid (show v18.heap[m11]? = some (.cells (madeC x) 29 (0, 0)) by rw [← ev18]; exact setRow_heap _ _ _ _ _ _ PX17.out)
          have PY18 := Lib.hid (show v18.heap[m16]? = some (.cells (enCells 0 0 (fun _ => zO) 0 0) 29 (0, 0)) by rw [← ev18]; exact (setRow_other _ _ _ _ (hne)).trans PY17.out)
          have hb18 : Below W0.heap.size W0 v18 := by rw [← ev18]; exact below_setRow hb17 hgx _
          rw [ev18]
          clear ev18
          refine hK.out _ _ (HS0.out _ hb18) (fun hH18 => ?_)
          clear hK K hH17
          simp only [Act.put, List.setIfInBounds_toArray]
          refine wpAnyH_ready (rs := [7]) (by kernel_rfl) (by simp) ?_
          refine AllReadyH.cons rfl (fun K hK => ?_) (AllReadyH.nil)
          rw [if_pos (by kernel_rfl)]
          refine wp_store_row 29 _ _ rfl m16 (madeC y) rfl rfl _ _ PY18.out (HZ.out _ _ _ _ _) rfl (enCells_one _ _ _ _ _) ?_
          obtain ⟨v19, ev19⟩ : ∃ V, World.setRow v18 m16 (madeC y) = V := ⟨_, rfl⟩
          have PY19 := Lib.hid (show v19.heap[m16]? = some (.cells (madeC y) 29 (0, 0)) by rw [← ev19]; exact setRow_heap _ _ _ _ _ _ PY18.out)
          have PX19 := Lib.hid (show v19.heap[m11]? = some (.cells (madeC x) 29 (0, 0)) by rw [← ev19]; exact (setRow_other _ _ _ _ ((fun e => hne e.symm))).trans PX18.out)
          have hb19 : Below W0.heap.size W0 v19 := by rw [← ev19]; exact below_setRow hb18 hgy _
          rw [ev19]
          clear ev19
          refine hK.out _ _ (HS0.out _ hb19) (fun hH19 => ?_)
          clear hK K hH18
          simp only [Act.put]
          refine wpAnyH_done (by kernel_rfl) ?_ _
          go_wp2_with fail
          go_meet
          exact ⟨_, _, rfl, rfl, ⟨PX19.out, PY19.out, (fun e => hne e.symm), hgx, hgy, hb19⟩⟩
      · rw [if_pos (by kernel_rfl)]
        refine wp_alloc_to2 29 8 rfl rfl (enCells 0 0 (fun _ => zO) 0 0) en_zero ?_
        obtain ⟨v20, ev20⟩ : ∃ V, (v1).alloc (.cells (enCells 0 0 (fun _ => zO) 0 0) 29) = V := ⟨_, rfl⟩
        obtain ⟨m20, em20⟩ : ∃ m, (v1).heap.size = m := ⟨_, rfl⟩
        have hv20 : Below (v1).heap.size (v1) v20 := by rw [← ev20]; exact (Below.refl _ _).alloc (Nat.le_refl _) _
        have PY20 := Lib.hid (show v20.heap[m20]? = some (.cells (enCells 0 0 (fun _ => zO) 0 0) 29 (0, 0)) by rw [← ev20]; exact blk_new _ em20.symm)
        have hgy : W0.heap.size ≤ m20 := by rw [← em20]; exact hb1.size
        rw [ev20, em20]
        clear ev20 em20
        have hb20 := hb1.trans (hv20.mono hb1.size)
        refine hK.out _ _ (HS0.out _ hb20) (fun hH20 => ?_)
        clear hK K hH1
        (try simp only [Act.put, List.setIfInBounds_toArray, List.set_cons_zero, List.set_cons_succ])
        refine wpAnyH_ready (rs := [3, 4]) (by kernel_rfl) (by simp) ?_
        refine AllReadyH.cons rfl (fun K hK => ?_) (AllReadyH.cons rfl (fun K hK => ?_) (AllReadyH.nil))
        · go_simp
          refine (HMy.out _).mono ?_
          rintro ee v21 ⟨rfl, hv21⟩
          have hb21 := hb20.trans (hv21.mono hb20.size)
          have PY21 := Lib.hid (blk_below PY20.out hv21 (blk_lt PY20.out))
          refine hK.out _ _ (HS0.out _ hb21) (fun hH21 => ?_)
          clear hK K hH20
          (try simp only [Act.put, List.setIfInBounds_toArray, List.set_cons_zero, List.set_cons_succ])
          refine wpAnyH_ready (rs := [4]) (by kernel_rfl) (by simp) ?_
          refine AllReadyH.cons rfl (fun K hK => ?_) (AllReadyH.nil)
          rw [if_pos (by kernel_rfl)]
          refine wp_alloc_to2 29 7 rfl rfl (enCells 0 0 (fun _ => zO) 0 0) en_zero ?_
          obtain ⟨v22, ev22⟩ : ∃ V, (v21).alloc (.cells (enCells 0 0 (fun _ => zO) 0 0) 29) = V := ⟨_, rfl⟩
          obtain ⟨m22, em22⟩ : ∃ m, (v21).heap.size = m := ⟨_, rfl⟩
          have hv22 : Below (v21).heap.size (v21) v22 := by rw [← ev22]; exact (Below.refl _ _).alloc (Nat.le_refl _) _
          have PX22 := Lib.hid (show v22.heap[m22]? = some (.cells (enCells 0 0 (fun _ => zO) 0 0) 29 (0, 0)) by rw [← ev22]; exact blk_new _ em22.symm)
          have hgx : W0.heap.size ≤ m22 := by rw [← em22]; exact hb21.size
          have PY22 := Lib.hid (blk_below PY21.out hv22 (blk_lt PY21.out))
          have hne : m20 ≠ m22 := by have := blk_lt PY21.out; omega
          rw [ev22, em22]
          clear ev22 em22
          have hb22 := hb21.trans (hv22.mono hb21.size)
          refine hK.out _ _ (HS0.out _ hb22) (fun hH22 => ?_)
          clear hK K hH21
          (try simp only [Act.put, List.setIfInBounds_toArray, List.set_cons_zero, List.set_cons_succ])
          refine wpAnyH_ready (rs := [6]) (by kernel_rfl) (by simp) ?_
          refine AllReadyH.cons rfl (fun K hK => ?_) (AllReadyH.nil)
          rw [if_pos (by kernel_rfl)]
          refine wp_store_row 29 _ _ rfl m22 (madeC x) rfl rfl _ _ PX22.out (HZ.out _ _ _ _ _) rfl (enCells_one _ _ _ _ _) ?_
          obtain ⟨v23, ev23⟩ : ∃ V, World.setRow v22 m22 (madeC x) = V := ⟨_, rfl⟩
          have PX23 := Lib.hid (show v23.heap[m22]? = some (.cells (madeC x) 29 (0, 0)) by rw [← ev23]; exact setRow_heap _ _ _ _ _ _ PX22.out)
          have PY23 := Lib.hid (show v23.heap[m20]? = some (.cells (enCells 0 0 (fun _ => zO) 0 0) 29 (0, 0)) by rw [← ev23]; exact (setRow_other _ _ _ _ (hne)).trans PY22.out)
          have hb23 : Below W0.heap.size W0 v23 := by rw [← ev23]; exact below_setRow hb22 hgx _
          rw [ev23]
          clear ev23
          refine hK.out _ _ (HS0.out _ hb23) (fun hH23 => ?_)
          clear hK K hH22
          simp only [Act.put, List.setIfInBounds_toArray]
          refine wpAnyH_ready (rs := [7]) (by kernel_rfl) (by simp) ?_
          refine AllReadyH.cons rfl (fun K hK => ?_) (AllReadyH.nil)
          rw [if_pos (by kernel_rfl)]
          refine wp_store_row 29 _ _ rfl m20 (madeC y) rfl rfl _ _ PY23.out (HZ.out _ _ _ _ _) rfl (enCells_one _ _ _ _ _) ?_
          obtain ⟨v24, ev24⟩ : ∃ V, World.setRow v23 m20 (madeC y) = V := ⟨_, rfl⟩
          have PY24 := Lib.hid (show v24.heap[m20]? = some (.cells (madeC y) 29 (0, 0)) by rw [← ev24]; exact setRow_heap _ _ _ _ _ _ PY23.out)
          have PX24 := Lib.hid (show v24.heap[m22]? = some (.cells (madeC x) 29 (0, 0)) by rw [← ev24]; exact (setRow_other _ _ _ _ ((fun e => hne e.symm))).trans PX23.out)
          have hb24 : Below W0.heap.size W0 v24 := by rw [← ev24]; exact below_setRow hb23 hgy _
          rw [ev24]
          clear ev24
          refine hK.out _ _ (HS0.out _ hb24) (fun hH24 => ?_)
          clear hK K hH23
          simp only [Act.put]
          refine wpAnyH_done (by kernel_rfl) ?_ _
          go_wp2_with fail
          go_meet
          exact ⟨_, _, rfl, rfl, ⟨PX24.out, PY24.out, (fun e => hne e.symm), hgx, hgy, hb24⟩⟩
        · rw [if_pos (by kernel_rfl)]
          refine wp_alloc_to2 29 7 rfl rfl (enCells 0 0 (fun _ => zO) 0 0) en_zero ?_
          obtain ⟨v25, ev25⟩ : ∃ V, (v20).alloc (.cells (enCells 0 0 (fun _ => zO) 0 0) 29) = V := ⟨_, rfl⟩
          obtain ⟨m25, em25⟩ : ∃ m, (v20).heap.size = m := ⟨_, rfl⟩
          have hv25 : Below (v20).heap.size (v20) v25 := by rw [← ev25]; exact (Below.refl _ _).alloc (Nat.le_refl _) _
          have PX25 := Lib.hid (show v25.heap[m25]? = some (.cells (enCells 0 0 (fun _ => zO) 0 0) 29 (0, 0)) by rw [← ev25]; exact blk_new _ em25.symm)
          have hgx : W0.heap.size ≤ m25 := by rw [← em25]; exact hb20.size
          have PY25 := Lib.hid (blk_below PY20.out hv25 (blk_lt PY20.out))
          have hne : m20 ≠ m25 := by have := blk_lt PY20.out; omega
          rw [ev25, em25]
          clear ev25 em25
          have hb25 := hb20.trans (hv25.mono hb20.size)
          refine hK.out _ _ (HS0.out _ hb25) (fun hH25 => ?_)
          clear hK K hH20
          (try simp only [Act.put, List.setIfInBounds_toArray, List.set_cons_zero, List.set_cons_succ])
          refine wpAnyH_ready (rs := [3]) (by kernel_rfl) (by simp) ?_
          refine AllReadyH.cons rfl (fun K hK => ?_) (AllReadyH.nil)
          go_simp
          refine (HMy.out _).mono ?_
          rintro ee v26 ⟨rfl, hv26⟩
          have hb26 := hb25.trans (hv26.mono hb25.size)
          have PX26 := Lib.hid (blk_below PX25.out hv26 (blk_lt PX25.out))
          have PY26 := Lib.hid (blk_below PY25.out hv26 (blk_lt PY25.out))
          refine hK.out _ _ (HS0.out _ hb26) (fun hH26 => ?_)
          clear hK K hH25
          (try simp only [Act.put, List.setIfInBounds_toArray, List.set_cons_zero, List.set_cons_succ])
          refine wpAnyH_ready (rs := [6]) (by kernel_rfl) (by simp) ?_
          refine AllReadyH.cons rfl (fun K hK => ?_) (AllReadyH.nil)
          rw [if_pos (by kernel_rfl)]
          refine wp_store_row 29 _ _ rfl m25 (madeC x) rfl rfl _ _ PX26.out (HZ.out _ _ _ _ _) rfl (enCells_one _ _ _ _ _) ?_
          obtain ⟨v27, ev27⟩ : ∃ V, World.setRow v26 m25 (madeC x) = V := ⟨_, rfl⟩
          have PX27 := Lib.hid (show v27.heap[m25]? = some (.cells (madeC x) 29 (0, 0)) by rw [← ev27]; exact setRow_heap _ _ _ _ _ _ PX26.out)
          have PY27 := Lib.hid (show v27.heap[m20]? = some (.cells (enCells 0 0 (fun _ => zO) 0 0) 29 (0, 0)) by rw [← ev27]; exact (setRow_other _ _ _ _ (hne)).trans PY26.out)
          have hb27 : Below W0.heap.size W0 v27 := by rw [← ev27]; exact below_setRow hb26 hgx _
          rw [ev27]
          clear ev27
          refine hK.out _ _ (HS0.out _ hb27) (fun hH27 => ?_)
          clear hK K hH26
          simp only [Act.put, List.setIfInBounds_toArray]
          refine wpAnyH_ready (rs := [7]) (by kernel_rfl) (by simp) ?_
          refine AllReadyH.cons rfl (fun K hK => ?_) (AllReadyH.nil)
          rw [if_pos (by kernel_rfl)]
          refine wp_store_row 29 _ _ rfl m20 (madeC y) rfl rfl _ _ PY27.out (HZ.out _ _ _ _ _) rfl (enCells_one _ _ _ _ _) ?_
          obtain ⟨v28, ev28⟩ : ∃ V, World.setRow v27 m20 (madeC y) = V := ⟨_, rfl⟩
          have PY28 := Lib.hid (show v28.heap[m20]? = some (.cells (madeC y) 29 (0, 0)) by rw [← ev28]; exact setRow_heap _ _ _ _ _ _ PY27.out)
          have PX28 := Lib.hid (show v28.heap[m25]? = some (.cells (madeC x) 29 (0, 0)) by rw [← ev28]; exact (setRow_other _ _ _ _ ((fun e => hne e.symm))).trans PX27.out)
          have hb28 : Below W0.heap.size W0 v28 := by rw [← ev28]; exact below_setRow hb27 hgy _
          rw [ev28]
          clear ev28
          refine hK.out _ _ (HS0.out _ hb28) (fun hH28 => ?_)
          clear hK K hH27
          simp only [Act.put]
          refine wpAnyH_done (by kernel_rfl) ?_ _
          go_wp2_with fail
          go_meet
          exact ⟨_, _, rfl, rfl, ⟨PX28.out, PY28.out, (fun e => hne e.symm), hgx, hgy, hb28⟩⟩
    · rw [if_pos (by kernel_rfl)]
      refine wp_alloc_to2 29 7 rfl rfl (enCells 0 0 (fun _ => zO) 0 0) en_zero ?_
      obtain ⟨v29, ev29⟩ : ∃ V, (W0.drew).alloc (.cells (enCells 0 0 (fun _ => zO) 0 0) 29) = V := ⟨_, rfl⟩
      obtain ⟨m29, em29⟩ : ∃ m, (W0.drew).heap.size = m := ⟨_, rfl⟩
      have hv29 : Below (W0.drew).heap.size (W0.drew) v29 := by rw [← ev29]; exact (Below.refl _ _).alloc (Nat.le_refl _) _
      have PX29 := Lib.hid (show v29.heap[m29]? = some (.cells (enCells 0 0 (fun _ => zO) 0 0) 29 (0, 0)) by rw [← ev29]; exact blk_new _ em29.symm)
      have hgx : W0.heap.size ≤ m29 := by rw [← em29]; exact hd0.size
      rw [ev29, em29]
      clear ev29 em29
      have hb29 := hd0.trans (hv29.mono hd0.size)
      refine hK.out _ _ (HS0.out _ hb29) (fun hH29 => ?_)
      clear hK K hHeld
      (try simp only [Act.put, List.setIfInBounds_toArray, List.set_cons_zero, List.set_cons_succ])
      refine wpAnyH_ready (rs := [1, 5]) (by kernel_rfl) (by simp) ?_
      refine AllReadyH.cons rfl (fun K hK => ?_) (AllReadyH.cons rfl (fun K hK => ?_) (AllReadyH.nil))
      · go_simp
        refine (HMx.out _).mono ?_
        rintro ee v30 ⟨rfl, hv30⟩
        have hb30 := hb29.trans (hv30.mono hb29.size)
        have PX30 := Lib.hid (blk_below PX29.out hv30 (blk_lt PX29.out))
        refine hK.out _ _ (HS0.out _ hb30) (fun hH30 => ?_)
        clear hK K hH29
        (try simp only [Act.put, List.setIfInBounds_toArray, List.set_cons_zero, List.set_cons_succ])
        refine wpAnyH_ready (rs := [3, 5]) (by kernel_rfl) (by simp) ?_
        refine AllReadyH.cons rfl (fun K hK => ?_) (AllReadyH.cons rfl (fun K hK => ?_) (AllReadyH.nil))
        · go_simp
          refine (HMy.out _).mono ?_
          rintro ee v31 ⟨rfl, hv31⟩
          have hb31 := hb30.trans (hv31.mono hb30.size)
          have PX31 := Lib.hid (blk_below PX30.out hv31 (blk_lt PX30.out))
          refine hK.out _ _ (HS0.out _ hb31) (fun hH31 => ?_)
          clear hK K hH30
          (try simp only [Act.put, List.setIfInBounds_toArray, List.set_cons_zero, List.set_cons_succ])
          refine wpAnyH_ready (rs := [5]) (by kernel_rfl) (by simp) ?_
          refine AllReadyH.cons rfl (fun K hK => ?_) (AllReadyH.nil)
          rw [if_pos (by kernel_rfl)]
          refine wp_alloc_to2 29 8 rfl rfl (enCells 0 0 (fun _ => zO) 0 0) en_zero ?_
          obtain ⟨v32, ev32⟩ : ∃ V, (v31).alloc (.cells (enCells 0 0 (fun _ => zO) 0 0) 29) = V := ⟨_, rfl⟩
          obtain ⟨m32, em32⟩ : ∃ m, (v31).heap.size = m := ⟨_, rfl⟩
          have hv32 : Below (v31).heap.size (v31) v32 := by rw [← ev32]; exact (Below.refl _ _).alloc (Nat.le_refl _) _
          have PY32 := Lib.hid (show v32.heap[m32]? = some (.cells (enCells 0 0 (fun _ => zO) 0 0) 29 (0, 0)) by rw [← ev32]; exact blk_new _ em32.symm)
          have hgy : W0.heap.size ≤ m32 := by rw [← em32]; exact hb31.size
          have PX32 := Lib.hid (blk_below PX31.out hv32 (blk_lt PX31.out))
          have hne : m32 ≠ m29 := by have := blk_lt PX31.out; omega
          rw [ev32, em32]
          clear ev32 em32
          have hb32 := hb31.trans (hv32.mono hb31.size)
          refine hK.out _ _ (HS0.out _ hb32) (fun hH32 => ?_)
          clear hK K hH31
          (try simp only [Act.put, List.setIfInBounds_toArray, List.set_cons_zero, List.set_cons_succ])
          refine wpAnyH_ready (rs := [6]) (by kernel_rfl) (by simp) ?_
          refine AllReadyH.cons rfl (fun K hK => ?_) (AllReadyH.nil)
          rw [if_pos (by kernel_rfl)]
          refine wp_store_row 29 _ _ rfl m29 (madeC x) rfl rfl _ _ PX32.out (HZ.out _ _ _ _ _) rfl (enCells_one _ _ _ _ _) ?_
          obtain ⟨v33, ev33⟩ : ∃ V, World.setRow v32 m29 (madeC x) = V := ⟨_, rfl⟩
          have PX33 := Lib.hid (show v33.heap[m29]? = some (.cells (madeC x) 29 (0, 0)) by rw [← ev33]; exact setRow_heap _ _ _ _ _ _ PX32.out)
          have PY33 := Lib.hid (show v33.heap[m32]? = some (.cells (enCells 0 0 (fun _ => zO) 0 0) 29 (0, 0)) by rw [← ev33]; exact (setRow_other _ _ _ _ (hne)).trans PY32.out)
          have hb33 : Below W0.heap.size W0 v33 := by rw [← ev33]; exact below_setRow hb32 hgx _
          rw [ev33]
          clear ev33
          refine hK.out _ _ (HS0.out _ hb33) (fun hH33 => ?_)
          clear hK K hH32
          simp only [Act.put, List.setIfInBounds_toArray]
          refine wpAnyH_ready (rs := [7]) (by kernel_rfl) (by simp) ?_
          refine AllReadyH.cons rfl (fun K hK => ?_) (AllReadyH.nil)
          rw [if_pos (by kernel_rfl)]
          refine wp_store_row 29 _ _ rfl m32 (madeC y) rfl rfl _ _ PY33.out (HZ.out _ _ _ _ _) rfl (enCells_one _ _ _ _ _) ?_
          obtain ⟨v34, ev34⟩ : ∃ V, World.setRow v33 m32 (madeC y) = V := ⟨_, rfl⟩
          have PY34 := Lib.hid (show v34.heap[m32]? = some (.cells (madeC y) 29 (0, 0)) by rw [← ev34]; exact setRow_heap _ _ _ _ _ _ PY33.out)
          have PX34 := Lib.hid (show v34.heap[m29]? = some (.cells (madeC x) 29 (0, 0)) by rw [← ev34]; exact (setRow_other _ _ _ _ ((fun e => hne e.symm))).trans PX33.out)
          have hb34 : Below W0.heap.size W0 v34 := by rw [← ev34]; exact below_setRow hb33 hgy _
          rw [ev34]
          clear ev34
          refine hK.out _ _ (HS0.out _ hb34) (fun hH34 => ?_)
          clear hK K hH33
          simp only [Act.put]
          refine wpAnyH_done (by kernel_rfl) ?_ _
          go_wp2_with fail
          go_meet
          exact ⟨_, _, rfl, rfl, ⟨PX34.out, PY34.out, (fun e => hne e.symm), hgx, hgy, hb34⟩⟩
        · rw [if_pos (by kernel_rfl)]
          refine wp_alloc_to2 29 8 rfl rfl (enCells 0 0 (fun _ => zO) 0 0) en_zero ?_
          obtain ⟨v35, ev35⟩ : ∃ V, (v30).alloc (.cells (enCells 0 0 (fun _ => zO) 0 0) 29) = V := ⟨_, rfl⟩
          obtain ⟨m35, em35⟩ : ∃ m, (v30).heap.size = m := ⟨_, rfl⟩
          have hv35 : Below (v30).heap.size (v30) v35 := by rw [← ev35]; exact (Below.refl _ _).alloc (Nat.le_refl _) _
          have PY35 := Lib.hid (show v35.heap[m35]? = some (.cells (enCells 0 0 (fun _ => zO) 0 0) 29 (0, 0)) by rw [← ev35]; exact blk_new _ em35.symm)
          have hgy : W0.heap.size ≤ m35 := by rw [← em35]; exact hb30.size
          have PX35 := Lib.hid (blk_below PX30.out hv35 (blk_lt PX30.out))
          have hne : m35 ≠ m29 := by have := blk_lt PX30.out; omega
          rw [ev35, em35]
          clear ev35 em35
          have hb35 := hb30.trans (hv35.mono hb30.size)
          refine hK.out _ _ (HS0.out _ hb35) (fun hH35 => ?_)
          clear hK K hH30
          (try simp only [Act.put, List.setIfInBounds_toArray, List.set_cons_zero, List.set_cons_succ])
          refine wpAnyH_ready (rs := [3]) (by kernel_rfl) (by simp) ?_
          refine AllReadyH.cons rfl (fun K hK => ?_) (AllReadyH.nil)
          go_simp
          refine (HMy.out _).mono ?_
          rintro ee v36 ⟨rfl, hv36⟩
          have hb36 := hb35.trans (hv36.mono hb35.size)
          have PX36 := Lib.hid (blk_below PX35.out hv36 (blk_lt PX35.out))
          have PY36 := Lib.hid (blk_below PY35.out hv36 (blk_lt PY35.out))
          refine hK.out _ _ (HS0.out _ hb36) (fun hH36 => ?_)
          clear hK K hH35
          (try simp only [Act.put, List.setIfInBounds_toArray, List.set_cons_zero, List.set_cons_succ])
          refine wpAnyH_ready (rs := [6]) (by kernel_rfl) (by simp) ?_
          refine AllReadyH.cons rfl (fun K hK => ?_) (AllReadyH.nil)
          rw [if_pos (by kernel_rfl)]
          refine wp_store_row 29 _ _ rfl m29 (madeC x) rfl rfl _ _ PX36.out (HZ.out _ _ _ _ _) rfl (enCells_one _ _ _ _ _) ?_
          obtain ⟨v37, ev37⟩ : ∃ V, World.setRow v36 m29 (madeC x) = V := ⟨_, rfl⟩
          have PX37 := Lib.hid (show v37.heap[m29]? = some (.cells (madeC x) 29 (0, 0)) by rw [← ev37]; exact setRow_heap _ _ _ _ _ _ PX36.out)
          have PY37 := Lib.hid (show v37.heap[m35]? = some (.cells (enCells 0 0 (fun _ => zO) 0 0) 29 (0, 0)) by rw [← ev37]; exact (setRow_other _ _ _ _ (hne)).trans PY36.out)
          have hb37 : Below W0.heap.size W0 v37 := by rw [← ev37]; exact below_setRow hb36 hgx _
          rw [ev37]
          clear ev37
          refine hK.out _ _ (HS0.out _ hb37) (fun hH37 => ?_)
          clear hK K hH36
          simp only [Act.put, List.setIfInBounds_toArray]
          refine wpAnyH_ready (rs := [7]) (by kernel_rfl) (by simp) ?_
          refine AllReadyH.cons rfl (fun K hK => ?_) (AllReadyH.nil)
          rw [if_pos (by kernel_rfl)]
          refine wp_store_row 29 _ _ rfl m35 (madeC y) rfl rfl _ _ PY37.out (HZ.out _ _ _ _ _) rfl (enCells_one _ _ _ _ _) ?_
          obtain ⟨v38, ev38⟩ : ∃ V, World.setRow v37 m35 (madeC y) = V := ⟨_, rfl⟩
          have PY38 := Lib.hid (show v38.heap[m35]? = some (.cells (madeC y) 29 (0, 0)) by rw [← ev38]; exact setRow_heap _ _ _ _ _ _ PY37.out)
          have PX38 := Lib.hid (show v38.heap[m29]? = some (.cells (madeC x) 29 (0, 0)) by rw [← ev38]; exact (setRow_other _ _ _ _ ((fun e => hne e.symm))).trans PX37.out)
          have hb38 : Below W0.heap.size W0 v38 := by rw [← ev38]; exact below_setRow hb37 hgy _
          rw [ev38]
          clear ev38
          refine hK.out _ _ (HS0.out _ hb38) (fun hH38 => ?_)
          clear hK K hH37
          simp only [Act.put]
          refine wpAnyH_done (by kernel_rfl) ?_ _
          go_wp2_with fail
          go_meet
          exact ⟨_, _, rfl, rfl, ⟨PX38.out, PY38.out, (fun e => hne e.symm), hgx, hgy, hb38⟩⟩
      · rw [if_pos (by kernel_rfl)]
        refine wp_alloc_to2 29 8 rfl rfl (enCells 0 0 (fun _ => zO) 0 0) en_zero ?_
        obtain ⟨v39, ev39⟩ : ∃ V, (v29).alloc (.cells (enCells 0 0 (fun _ => zO) 0 0) 29) = V := ⟨_, rfl⟩
        obtain ⟨m39, em39⟩ : ∃ m, (v29).heap.size = m := ⟨_, rfl⟩
        have hv39 : Below (v29).heap.size (v29) v39 := by rw [← ev39]; exact (Below.refl _ _).alloc (Nat.le_refl _) _
        have PY39 := Lib.hid (show v39.heap[m39]? = some (.cells (enCells 0 0 (fun _ => zO) 0 0) 29 (0, 0)) by rw [← ev39]; exact blk_new _ em39.symm)
        have hgy : W0.heap.size ≤ m39 := by rw [← em39]; exact hb29.size
        have PX39 := Lib.hid (blk_below PX29.out hv39 (blk_lt PX29.out))
        have hne : m39 ≠ m29 := by have := blk_lt PX29.out; omega
        rw [ev39, em39]
        clear ev39 em39
        have hb39 := hb29.trans (hv39.mono hb29.size)
        refine hK.out _ _ (HS0.out _ hb39) (fun hH39 => ?_)
        clear hK K hH29
        (try simp only [Act.put, List.setIfInBounds_toArray, List.set_cons_zero, List.set_cons_succ])
        refine wpAnyH_ready (rs := [1]) (by kernel_rfl) (by simp) ?_
        refine AllReadyH.cons rfl (fun K hK => ?_) (AllReadyH.nil)
        go_simp
        refine (HMx.out _).mono ?_
        rintro ee v40 ⟨rfl, hv40⟩
        have hb40 := hb39.trans (hv40.mono hb39.size)
        have PX40 := Lib.hid (blk_below PX39.out hv40 (blk_lt PX39.out))
        have PY40 := Lib.hid (blk_below PY39.out hv40 (blk_lt PY39.out))
        refine hK.out _ _ (HS0.out _ hb40) (fun hH40 => ?_)
        clear hK K hH39
        (try simp only [Act.put, List.setIfInBounds_toArray, List.set_cons_zero, List.set_cons_succ])
        refine wpAnyH_ready (rs := [3]) (by kernel_rfl) (by simp) ?_
        refine AllReadyH.cons rfl (fun K hK => ?_) (AllReadyH.nil)
        go_simp
        refine (HMy.out _).mono ?_
        rintro ee v41 ⟨rfl, hv41⟩
        have hb41 := hb40.trans (hv41.mono hb40.size)
        have PX41 := Lib.hid (blk_below PX40.out hv41 (blk_lt PX40.out))
        have PY41 := Lib.hid (blk_below PY40.out hv41 (blk_lt PY40.out))
        refine hK.out _ _ (HS0.out _ hb41) (fun hH41 => ?_)
        clear hK K hH40
        (try simp only [Act.put, List.setIfInBounds_toArray, List.set_cons_zero, List.set_cons_succ])
        refine wpAnyH_ready (rs := [6]) (by kernel_rfl) (by simp) ?_
        refine AllReadyH.cons rfl (fun K hK => ?_) (AllReadyH.nil)
        rw [if_pos (by kernel_rfl)]
        refine wp_store_row 29 _ _ rfl m29 (madeC x) rfl rfl _ _ PX41.out (HZ.out _ _ _ _ _) rfl (enCells_one _ _ _ _ _) ?_
        obtain ⟨v42, ev42⟩ : ∃ V, World.setRow v41 m29 (madeC x) = V := ⟨_, rfl⟩
        have PX42 := Lib.hid (show v42.heap[m29]? = some (.cells (madeC x) 29 (0, 0)) by rw [← ev42]; exact setRow_heap _ _ _ _ _ _ PX41.out)
        have PY42 := Lib.hid (show v42.heap[m39]? = some (.cells (enCells 0 0 (fun _ => zO) 0 0) 29 (0, 0)) by rw [← ev42]; exact (setRow_other _ _ _ _ (hne)).trans PY41.out)
        have hb42 : Below W0.heap.size W0 v42 := by rw [← ev42]; exact below_setRow hb41 hgx _
        rw [ev42]
        clear ev42
        refine hK.out _ _ (HS0.out _ hb42) (fun hH42 => ?_)
        clear hK K hH41
        simp only [Act.put, List.setIfInBounds_toArray]
        refine wpAnyH_ready (rs := [7]) (by kernel_rfl) (by simp) ?_
        refine AllReadyH.cons rfl (fun K hK => ?_) (AllReadyH.nil)
        rw [if_pos (by kernel_rfl)]
        refine wp_store_row 29 _ _ rfl m39 (madeC y) rfl rfl _ _ PY42.out (HZ.out _ _ _ _ _) rfl (enCells_one _ _ _ _ _) ?_
        obtain ⟨v43, ev43⟩ : ∃ V, World.setRow v42 m39 (madeC y) = V := ⟨_, rfl⟩
        have PY43 := Lib.hid (show v43.heap[m39]? = some (.cells (madeC y) 29 (0, 0)) by rw [← ev43]; exact setRow_heap _ _ _ _ _ _ PY42.out)
        have PX43 := Lib.hid (show v43.heap[m29]? = some (.cells (madeC x) 29 (0, 0)) by rw [← ev43]; exact (setRow_other _ _ _ _ ((fun e => hne e.symm))).trans PX42.out)
        have hb43 : Below W0.heap.size W0 v43 := by rw [← ev43]; exact below_setRow hb42 hgy _
        rw [ev43]
        clear ev43
        refine hK.out _ _ (HS0.out _ hb43) (fun hH43 => ?_)
        clear hK K hH42
        simp only [Act.put]
        refine wpAnyH_done (by kernel_rfl) ?_ _
        go_wp2_with fail
        go_meet
        exact ⟨_, _, rfl, rfl, ⟨PX43.out, PY43.out, (fun e => hne e.symm), hgx, hgy, hb43⟩⟩
    · rw [if_pos (by kernel_rfl)]
      refine wp_alloc_to2 29 8 rfl rfl (enCells 0 0 (fun _ => zO) 0 0) en_zero ?_
      obtain ⟨v44, ev44⟩ : ∃ V, (W0.drew).alloc (.cells (enCells 0 0 (fun _ => zO) 0 0) 29) = V := ⟨_, rfl⟩
      obtain ⟨m44, em44⟩ : ∃ m, (W0.drew).heap.size = m := ⟨_, rfl⟩
      have hv44 : Below (W0.drew).heap.size (W0.drew) v44 := by rw [← ev44]; exact (Below.refl _ _).alloc (Nat.le_refl _) _
      have PY44 := Lib.hid (show v44.heap[m44]? = some (.cells (enCells 0 0 (fun _ => zO) 0 0) 29 (0, 0)) by rw [← ev44]; exact blk_new _ em44.symm)
      have hgy : W0.heap.size ≤ m44 := by rw [← em44]; exact hd0.size
      rw [ev44, em44]
      clear ev44 em44
      have hb44 := hd0.trans (hv44.mono hd0.size)
      refine hK.out _ _ (HS0.out _ hb44) (fun hH44 => ?_)
      clear hK K hHeld
      (try simp only [Act.put, List.setIfInBounds_toArray, List.set_cons_zero, List.set_cons_succ])
      refine wpAnyH_ready (rs := [1, 4]) (by kernel_rfl) (by simp) ?_
      refine AllReadyH.cons rfl (fun K hK => ?_) (AllReadyH.cons rfl (fun K hK => ?_) (AllReadyH.nil))
      · go_simp
        refine (HMx.out _).mono ?_
        rintro ee v45 ⟨rfl, hv45⟩
        have hb45 := hb44.trans (hv45.mono hb44.size)
        have PY45 := Lib.hid (blk_below PY44.out hv45 (blk_lt PY44.out))
        refine hK.out _ _ (HS0.out _ hb45) (fun hH45 => ?_)
        clear hK K hH44
        (try simp only [Act.put, List.setIfInBounds_toArray, List.set_cons_zero, List.set_cons_succ])
        refine wpAnyH_ready (rs := [3, 4]) (by kernel_rfl) (by simp) ?_
        refine AllReadyH.cons rfl (fun K hK => ?_) (AllReadyH.cons rfl (fun K hK => ?_) (AllReadyH.nil))
        · go_simp
          refine (HMy.out _).mono ?_
          rintro ee v46 ⟨rfl, hv46⟩
          have hb46 := hb45.trans (hv46.mono hb45.size)
          have PY46 := Lib.hid (blk_below PY45.out hv46 (blk_lt PY45.out))
          refine hK.out _ _ (HS0.out _ hb46) (fun hH46 => ?_)
          clear hK K hH45
          (try simp only [Act.put, List.setIfInBounds_toArray, List.set_cons_zero, List.set_cons_succ])
          refine wpAnyH_ready (rs := [4]) (by kernel_rfl) (by simp) ?_
          refine AllReadyH.cons rfl (fun K hK => ?_) (AllReadyH.nil)
          rw [if_pos (by kernel_rfl)]
          refine wp_alloc_to2 29 7 rfl rfl (enCells 0 0 (fun _ => zO) 0 0) en_zero ?_
          obtain ⟨v47, ev47⟩ : ∃ V, (v46).alloc (.cells (enCells 0 0 (fun _ => zO) 0 0) 29) = V := ⟨_, rfl⟩
          obtain ⟨m47, em47⟩ : ∃ m, (v46).heap.size = m := ⟨_, rfl⟩
          have hv47 : Below (v46).heap.size (v46) v47 := by rw [← ev47]; exact (Below.refl _ _).alloc (Nat.le_refl _) _
          have PX47 := Lib.hid (show v47.heap[m47]? = some (.cells (enCells 0 0 (fun _ => zO) 0 0) 29 (0, 0)) by rw [← ev47]; exact blk_new _ em47.symm)
          have hgx : W0.heap.size ≤ m47 := by rw [← em47]; exact hb46.size
          have PY47 := Lib.hid (blk_below PY46.out hv47 (blk_lt PY46.out))
          have hne : m44 ≠ m47 := by have := blk_lt PY46.out; omega
          rw [ev47, em47]
          clear ev47 em47
          have hb47 := hb46.trans (hv47.mono hb46.size)
          refine hK.out _ _ (HS0.out _ hb47) (fun hH47 => ?_)
          clear hK K hH46
          (try simp only [Act.put, List.setIfInBounds_toArray, List.set_cons_zero, List.set_cons_succ])
          refine wpAnyH_ready (rs := [6]) (by kernel_rfl) (by simp) ?_
          refine AllReadyH.cons rfl (fun K hK => ?_) (AllReadyH.nil)
          rw [if_pos (by kernel_rfl)]
          refine wp_store_row 29 _ _ rfl m47 (madeC x) rfl rfl _ _ PX47.out (HZ.out _ _ _ _ _) rfl (enCells_one _ _ _ _ _) ?_
          obtain ⟨v48, ev48⟩ : ∃ V, World.setRow v47 m47 (madeC x) = V := ⟨_, rfl⟩
          have PX48 := Lib.hid (show v48.heap[m47]? = some (.cells (madeC x) 29 (0, 0)) by rw [← ev48]; exact setRow_heap _ _ _ _ _ _ PX47.out)
          have PY48 := Lib.hid (show v48.heap[m44]? = some (.cells (enCells 0 0 (fun _ => zO) 0 0) 29 (0, 0)) by rw [← ev48]; exact (setRow_other _ _ _ _ (hne)).trans PY47.out)
          have hb48 : Below W0.heap.size W0 v48 := by rw [← ev48]; exact below_setRow hb47 hgx _
          rw [ev48]
          clear ev48
          refine hK.out _ _ (HS0.out _ hb48) (fun hH48 => ?_)
          clear hK K hH47
          simp only [Act.put, List.setIfInBounds_toArray]
          refine wpAnyH_ready (rs := [7]) (by kernel_rfl) (by simp) ?_
          refine AllReadyH.cons rfl (fun K hK => ?_) (AllReadyH.nil)
          rw [if_pos (by kernel_rfl)]
          refine wp_store_row 29 _ _ rfl m44 (madeC y) rfl rfl _ _ PY48.out (HZ.out _ _ _ _ _) rfl (enCells_one _ _ _ _ _) ?_
          obtain ⟨v49, ev49⟩ : ∃ V, World.setRow v48 m44 (madeC y) = V := ⟨_, rfl⟩
          have PY49 := Lib.hid (show v49.heap[m44]? = some (.cells (madeC y) 29 (0, 0)) by rw [← ev49]; exact setRow_heap _ _ _ _ _ _ PY48.out)
          have PX49 := Lib.hid (show v49.heap[m47]? = some (.cells (madeC x) 29 (0, 0)) by rw [← ev49]; exact (setRow_other _ _ _ _ ((fun e => hne e.symm))).trans PX48.out)
          have hb49 : Below W0.heap.size W0 v49 := by rw [← ev49]; exact below_setRow hb48 hgy _
          rw [ev49]
          clear ev49
          refine hK.out _ _ (HS0.out _ hb49) (fun hH49 => ?_)
          clear hK K hH48
          simp only [Act.put]
          refine wpAnyH_done (by kernel_rfl) ?_ _
          go_wp2_with fail
          go_meet
          exact ⟨_, _, rfl, rfl, ⟨PX49.out, PY49.out, (fun e => hne e.symm), hgx, hgy, hb49⟩⟩
        · rw [if_pos (by kernel_rfl)]
          refine wp_alloc_to2 29 7 rfl rfl (enCells 0 0 (fun _ => zO) 0 0) en_zero ?_
          obtain ⟨v50, ev50⟩ : ∃ V, (v45).alloc (.cells (enCells 0 0 (fun _ => zO) 0 0) 29) = V := ⟨_, rfl⟩
          obtain ⟨m50, em50⟩ : ∃ m, (v45).heap.size = m := ⟨_, rfl⟩
          have hv50 : Below (v45).heap.size (v45) v50 := by rw [← ev50]; exact (Below.refl _ _).alloc (Nat.le_refl _) _
          have PX50 := Lib.hid (show v50.heap[m50]? = some (.cells (enCells 0 0 (fun _ => zO) 0 0) 29 (0, 0)) by rw [← ev50]; exact blk_new _ em50.symm)
          have hgx : W0.heap.size ≤ m50 := by rw [← em50]; exact hb45.size
          have PY50 := Lib.hid (blk_below PY45.out hv50 (blk_lt PY45.out))
          have hne : m44 ≠ m50 := by have := blk_lt PY45.out; omega
          rw [ev50, em50]
          clear ev50 em50
          have hb50 := hb45.trans (hv50.mono hb45.size)
          refine hK.out _ _ (HS0.out _ hb50) (fun hH50 => ?_)
          clear hK K hH45
          (try simp only [Act.put, List.setIfInBounds_toArray, List.set_cons_zero, List.set_cons_succ])
          refine wpAnyH_ready (rs := [3]) (by kernel_rfl) (by simp) ?_
          refine AllReadyH.cons rfl (fun K hK => ?_) (AllReadyH.nil)
          go_simp
          refine (HMy.out _).mono ?_
          rintro ee v51 ⟨rfl, hv51⟩
          have hb51 := hb50.trans (hv51.mono hb50.size)
          have PX51 := Lib.hid (blk_below PX50.out hv51 (blk_lt PX50.out))
          have PY51 := Lib.hid (blk_below PY50.out hv51 (blk_lt PY50.out))
          refine hK.out _ _ (HS0.out _ hb51) (fun hH51 => ?_)
          clear hK K hH50
          (try simp only [Act.put, List.setIfInBounds_toArray, List.set_cons_zero, List.set_cons_succ])
          refine wpAnyH_ready (rs := [6]) (by kernel_rfl) (by simp) ?_
          refine AllReadyH.cons rfl (fun K hK => ?_) (AllReadyH.nil)
          rw [if_pos (by kernel_rfl)]
          refine wp_store_row 29 _ _ rfl m50 (madeC x) rfl rfl _ _ PX51.out (HZ.out _ _ _ _ _) rfl (enCells_one _ _ _ _ _) ?_
          obtain ⟨v52, ev52⟩ : ∃ V, World.setRow v51 m50 (madeC x) = V := ⟨_, rfl⟩
          have PX52 := Lib.hid (show v52.heap[m50]? = some (.cells (madeC x) 29 (0, 0)) by rw [← ev52]; exact setRow_heap _ _ _ _ _ _ PX51.out)
          have PY52 := Lib.hid (show v52.heap[m44]? = some (.cells (enCells 0 0 (fun _ => zO) 0 0) 29 (0, 0)) by rw [← ev52]; exact (setRow_other _ _ _ _ (hne)).trans PY51.out)
          have hb52 : Below W0.heap.size W0 v52 := by rw [← ev52]; exact below_setRow hb51 hgx _
          rw [ev52]
          clear ev52
          refine hK.out _ _ (HS0.out _ hb52) (fun hH52 => ?_)
          clear hK K hH51
          simp only [Act.put, List.setIfInBounds_toArray]
          refine wpAnyH_ready (rs := [7]) (by kernel_rfl) (by simp) ?_
          refine AllReadyH.cons rfl (fun K hK => ?_) (AllReadyH.nil)
          rw [if_pos (by kernel_rfl)]
          refine wp_store_row 29 _ _ rfl m44 (madeC y) rfl rfl _ _ PY52.out (HZ.out _ _ _ _ _) rfl (enCells_one _ _ _ _ _) ?_
          obtain ⟨v53, ev53⟩ : ∃ V, World.setRow v52 m44 (madeC y) = V := ⟨_, rfl⟩
          have PY53 := Lib.hid (show v53.heap[m44]? = some (.cells (madeC y) 29 (0, 0)) by rw [← ev53]; exact setRow_heap _ _ _ _ _ _ PY52.out)
          have PX53 := Lib.hid (show v53.heap[m50]? = some (.cells (madeC x) 29 (0, 0)) by rw [← ev53]; exact (setRow_other _ _ _ _ ((fun e => hne e.symm))).trans PX52.out)
          have hb53 : Below W0.heap.size W0 v53 := by rw [← ev53]; exact below_setRow hb52 hgy _
          rw [ev53]
          clear ev53
          refine hK.out _ _ (HS0.out _ hb53) (fun hH53 => ?_)
          clear hK K hH52
          simp only [Act.put]
          refine wpAnyH_done (by kernel_rfl) ?_ _
          go_wp2_with fail
          go_meet
          exact ⟨_, _, rfl, rfl, ⟨PX53.out, PY53.out, (fun e => hne e.symm), hgx, hgy, hb53⟩⟩
      · rw [if_pos (by kernel_rfl)]
        refine wp_alloc_to2 29 7 rfl rfl (enCells 0 0 (fun _ => zO) 0 0) en_zero ?_
        obtain ⟨v54, ev54⟩ : ∃ V, (v44).alloc (.cells (enCells 0 0 (fun _ => zO) 0 0) 29) = V := ⟨_, rfl⟩
        obtain ⟨m54, em54⟩ : ∃ m, (v44).heap.size = m := ⟨_, rfl⟩
        have hv54 : Below (v44).heap.size (v44) v54 := by rw [← ev54]; exact (Below.refl _ _).alloc (Nat.le_refl _) _
        have PX54 := Lib.hid (show v54.heap[m54]? = some (.cells (enCells 0 0 (fun _ => zO) 0 0) 29 (0, 0)) by rw [← ev54]; exact blk_new _ em54.symm)
        have hgx : W0.heap.size ≤ m54 := by rw [← em54]; exact hb44.size
        have PY54 := Lib.hid (blk_below PY44.out hv54 (blk_lt PY44.out))
        have hne : m44 ≠ m54 := by have := blk_lt PY44.out; omega
        rw [ev54, em54]
        clear ev54 em54
        have hb54 := hb44.trans (hv54.mono hb44.size)
        refine hK.out _ _ (HS0.out _ hb54) (fun hH54 => ?_)
        clear hK K hH44
        (try simp only [Act.put, List.setIfInBounds_toArray, List.set_cons_zero, List.set_cons_succ])
        refine wpAnyH_ready (rs := [1]) (by kernel_rfl) (by simp) ?_
        refine AllReadyH.cons rfl (fun K hK => ?_) (AllReadyH.nil)
        go_simp
        refine (HMx.out _).mono ?_
        rintro ee v55 ⟨rfl, hv55⟩
        have hb55 := hb54.trans (hv55.mono hb54.size)
        have PX55 := Lib.hid (blk_below PX54.out hv55 (blk_lt PX54.out))
        have PY55 := Lib.hid (blk_below PY54.out hv55 (blk_lt PY54.out))
        refine hK.out _ _ (HS0.out _ hb55) (fun hH55 => ?_)
        clear hK K hH54
        (try simp only [Act.put, List.setIfInBounds_toArray, List.set_cons_zero, List.set_cons_succ])
        refine wpAnyH_ready (rs := [3]) (by kernel_rfl) (by simp) ?_
        refine AllReadyH.cons rfl (fun K hK => ?_) (AllReadyH.nil)
        go_simp
        refine (HMy.out _).mono ?_
        rintro ee v56 ⟨rfl, hv56⟩
        have hb56 := hb55.trans (hv56.mono hb55.size)
        have PX56 := Lib.hid (blk_below PX55.out hv56 (blk_lt PX55.out))
        have PY56 := Lib.hid (blk_below PY55.out hv56 (blk_lt PY55.out))
        refine hK.out _ _ (HS0.out _ hb56) (fun hH56 => ?_)
        clear hK K hH55
        (try simp only [Act.put, List.setIfInBounds_toArray, List.set_cons_zero, List.set_cons_succ])
        refine wpAnyH_ready (rs := [6]) (by kernel_rfl) (by simp) ?_
        refine AllReadyH.cons rfl (fun K hK => ?_) (AllReadyH.nil)
        rw [if_pos (by kernel_rfl)]
        refine wp_store_row 29 _ _ rfl m54 (madeC x) rfl rfl _ _ PX56.out (HZ.out _ _ _ _ _) rfl (enCells_one _ _ _ _ _) ?_
        obtain ⟨v57, ev57⟩ : ∃ V, World.setRow v56 m54 (madeC x) = V := ⟨_, rfl⟩
        have PX57 := Lib.hid (show v57.heap[m54]? = some (.cells (madeC x) 29 (0, 0)) by rw [← ev57]; exact setRow_heap _ _ _ _ _ _ PX56.out)
        have PY57 := Lib.hid (show v57.heap[m44]? = some (.cells (enCells 0 0 (fun _ => zO) 0 0) 29 (0, 0)) by rw [← ev57]; exact (setRow_other _ _ _ _ (hne)).trans PY56.out)
        have hb57 : Below W0.heap.size W0 v57 := by rw [← ev57]; exact below_setRow hb56 hgx _
        rw [ev57]
        clear ev57
        refine hK.out _ _ (HS0.out _ hb57) (fun hH57 => ?_)
        clear hK K hH56
        simp only [Act.put, List.setIfInBounds_toArray]
        refine wpAnyH_ready (rs := [7]) (by kernel_rfl) (by simp) ?_
        refine AllReadyH.cons rfl (fun K hK => ?_) (AllReadyH.nil)
        rw [if_pos (by kernel_rfl)]
        refine wp_store_row 29 _ _ rfl m44 (madeC y) rfl rfl _ _ PY57.out (HZ.out _ _ _ _ _) rfl (enCells_one _ _ _ _ _) ?_
        obtain ⟨v58, ev58⟩ : ∃ V, World.setRow v57 m44 (madeC y) = V := ⟨_, rfl⟩
        have PY58 := Lib.hid (show v58.heap[m44]? = some (.cells (madeC y) 29 (0, 0)) by rw [← ev58]; exact setRow_heap _ _ _ _ _ _ PY57.out)
        have PX58 := Lib.hid (show v58.heap[m54]? = some (.cells (madeC x) 29 (0, 0)) by rw [← ev58]; exact (setRow_other _ _ _ _ ((fun e => hne e.symm))).trans PX57.out)
        have hb58 : Below W0.heap.size W0 v58 := by rw [← ev58]; exact below_setRow hb57 hgy _
        rw [ev58]
        clear ev58
        refine hK.out _ _ (HS0.out _ hb58) (fun hH58 => ?_)
        clear hK K hH57
        simp only [Act.put]
        refine wpAnyH_done (by kernel_rfl) ?_ _
        go_wp2_with fail
        go_meet
        exact ⟨_, _, rfl, rfl, ⟨PX58.out, PY58.out, (fun e => hne e.symm), hgx, hgy, hb58⟩⟩
  case rest =>
  obtain ⟨ga, gb, rfl, rfl, jX, jY, hne, hga, hgb, hb⟩ := hcut
  have X := Lib.hid jX
  have Y := Lib.hid jY
  have hB := below_via hB0 hb
  have hxr := made_right22 x hx
  have hyr := made_right22 y hy
  have hxo := madeO_ok x hx
  have hyo := madeO_ok y hy
  have hx0 := hx.1
  have hx1 := hx.2.1
  have hy0 := hy.1
  have hy1 := hy.2.1
  have hk1 : 0 ≤ x.k % 5 ∧ x.k % 5 ≤ 4 := by omega
  have hf1 : 0 ≤ x.f % 4 ∧ x.f % 4 ≤ 255 := by omega
  have hk2 : 0 ≤ y.k % 5 ∧ y.k % 5 ≤ 4 := by omega
  have hf2 : 0 ≤ y.f % 4 ∧ y.f % 4 ≤ 255 := by omega
  unfold madeC at X Y
  clear jX jY hb hd0 HS0 X0 Y0 HMx HMy hx hy hx0 hx1 hy0 hy1
  generalize x.k % 5 = k1 at *
  generalize x.f % 4 = f1 at *
  generalize madeO x = o1 at *
  generalize madeA0 x = a1 at *
  generalize madeA1 x = b1 at *
  generalize y.k % 5 = k2 at *
  generalize y.f % 4 = f2 at *
  generalize madeO y = o2 at *
  generalize madeA0 y = a2 at *
  generalize madeA1 y = b2 at *
  obtain ⟨v, hvv⟩ : ∃ v, vul % 4 = v := ⟨_, rfl⟩
  have hvb : 0 ≤ v ∧ v ≤ 3 := by omega
  have HRx := Lib.hid (fun W hW => eright_any _ k1 f1 a1 b1 o1 (enCells_ok _ _ _ _ _) hxo hf1 (by omega) W hW)
  have HRy := Lib.hid (fun W hW => eright_any _ k2 f2 a2 b2 o2 (enCells_ok _ _ _ _ _) hyo hf2 (by omega) W hW)
  rw [hxr] at HRx
  rw [hyr] at HRy
  have Hxk := Lib.hid (show ∀ W : World, W.heap[ga]? = some (.cells (enCells k1 f1 o1 a1 b1) 29 (0, 0)) → W.cell? ⟨ga, 4, none⟩ = some (.int .u8 k1) from fun W h => blk_cell h 4)
  have Hyk := Lib.hid (show ∀ W : World, W.heap[gb]? = some (.cells (enCells k2 f2 o2 a2 b2) 29 (0, 0)) → W.cell? ⟨gb, 4, none⟩ = some (.int .u8 k2) from fun W h => blk_cell h 4)
  have HHx := Lib.hid (show ∀ (hk : k1 = 1 ∨ k1 = 2 ∨ k1 = 3), True from fun _ => trivial)
  go_wp2_with (first | (refine wpList_load_row rfl 29 (.tmp 7) rfl ga rfl 29 (enCells k1 f1 o1 a1 b1) _ _ X.out Tryd.underlying29 rfl (HZ.out _ _ _ _ _) ?_) | (refine wpList_load_row rfl 29 (.tmp 8) rfl gb rfl 29 (enCells k2 f2 o2 a2 b2) _ _ Y.out Tryd.underlying29 rfl (HZ.out _ _ _ _ _) ?_) | (refine wpList_load_row_w (by kernel_rfl) 29 (.tmp 7) rfl ga rfl 29 (enCells k1 f1 o1 a1 b1) _ _ X.out Tryd.underlying29 rfl (HZ.out _ _ _ _ _) ?_) | (refine wpList_load_row_w (by kernel_rfl) 29 (.tmp 8) rfl gb rfl 29 (enCells k2 f2 o2 a2 b2) _ _ Y.out Tryd.underlying29 rfl (HZ.out _ _ _ _ _) ?_))
  refine (HRx.out _ (HL.out.go hB)).mono ?_
  rintro ee z101 ⟨rfl, hb⟩
  replace hB := below_via hB hb
  replace X := Lib.hid (blk_below X.out hb (blk_lt X.out))
  replace Y := Lib.hid (blk_below Y.out hb (blk_lt Y.out))
  clear hb
  go_wp2_with (first | (refine wpList_load_row rfl 29 (.tmp 7) rfl ga rfl 29 (enCells k1 f1 o1 a1 b1) _ _ X.out Tryd.underlying29 rfl (HZ.out _ _ _ _ _) ?_) | (refine wpList_load_row rfl 29 (.tmp 8) rfl gb rfl 29 (enCells k2 f2 o2 a2 b2) _ _ Y.out Tryd.underlying29 rfl (HZ.out _ _ _ _ _) ?_) | (refine wpList_load_row_w (by kernel_rfl) 29 (.tmp 7) rfl ga rfl 29 (enCells k1 f1 o1 a1 b1) _ _ X.out Tryd.underlying29 rfl (HZ.out _ _ _ _ _) ?_) | (refine wpList_load_row_w (by kernel_rfl) 29 (.tmp 8) rfl gb rfl 29 (enCells k2 f2 o2 a2 b2) _ _ Y.out Tryd.underlying29 rfl (HZ.out _ _ _ _ _) ?_))
  refine (HRy.out _ (HL.out.go hB)).mono ?_
  rintro ee z102 ⟨rfl, hb⟩
  replace hB := below_via hB hb
  replace X := Lib.hid (blk_below X.out hb (blk_lt X.out))
  replace Y := Lib.hid (blk_below Y.out hb (blk_lt Y.out))
  clear hb
  clear HRx HRy HHx
  have HYn := Lib.hid (show (k2 = 0 ∨ k2 = 4) → ∀ W, LaidS W → _ from fun h W hW => sides_none _ k2 f2 a2 b2 v _ (enCells_ok _ _ _ _ _) hyo hf2 (by omega) hvb hyr h W hW)
  have HYs := Lib.hid (show (k2 = 1 ∨ k2 = 2 ∨ k2 = 3) → ∀ W, LaidS W → _ from fun h W hW => sides_some _ k2 f2 a2 b2 v _ (enCells_ok _ _ _ _ _) hyo hf2 (by omega) hvb hyr h W hW)
  have HYr := Lib.hid (show (k2 = 1 ∨ k2 = 2 ∨ k2 = 3) → rightM (wPts (sideA k2 o2) v) = true from fun h => ((wOk_iff _ _).1 (sides_okB k2 f2 o2 a2 b2 hyr hyo h v hvb.2).1).2.2.2)
  by_cases hk : k1 = 0 ∨ k1 = 4
  · have hS : ∀ W, LaidS W → Calls Tryd.prog 10 #[.agg (enCells k1 f1 o1 a1 b1), .int .u8 v] W _ := fun W hW => sides_none _ k1 f1 a1 b1 v _ (enCells_ok _ _ _ _ _) hxo hf1 (by omega) hvb hxr hk W hW
    have HSn := Lib.hid hS
    have HMn := Lib.hid (fun W hW => mean_err _ v 6 (enCells_ok k1 f1 o1 a1 b1).1 (Or.inr rfl) hS W hW)
    clear hS HYn HYs HYr hxr hyr hxo hyo Hyk Y
    go_wp2_with (first | (refine wpList_load_row rfl 29 (.tmp 7) rfl ga rfl 29 (enCells k1 f1 o1 a1 b1) _ _ X.out Tryd.underlying29 rfl (HZ.out _ _ _ _ _) ?_) | (refine wpList_load_row rfl 29 (.tmp 8) rfl gb rfl 29 (enCells k2 f2 o2 a2 b2) _ _ Y.out Tryd.underlying29 rfl (HZ.out _ _ _ _ _) ?_) | (refine wpList_load_row_w (by kernel_rfl) 29 (.tmp 7) rfl ga rfl 29 (enCells k1 f1 o1 a1 b1) _ _ X.out Tryd.underlying29 rfl (HZ.out _ _ _ _ _) ?_) | (refine wpList_load_row_w (by kernel_rfl) 29 (.tmp 8) rfl gb rfl 29 (enCells k2 f2 o2 a2 b2) _ _ Y.out Tryd.underlying29 rfl (HZ.out _ _ _ _ _) ?_))
    refine (HSn.out _ (HL.out.go hB)).mono ?_
    rintro ee z103 ⟨rfl, hb⟩
    replace hB := below_via hB hb
    replace X := Lib.hid (blk_below X.out hb (blk_lt X.out))
    clear hb
    go_wp2_with (first | (refine wpList_load_row rfl 29 (.tmp 7) rfl ga rfl 29 (enCells k1 f1 o1 a1 b1) _ _ X.out Tryd.underlying29 rfl (HZ.out _ _ _ _ _) ?_) | (refine wpList_load_row rfl 29 (.tmp 8) rfl gb rfl 29 (enCells k2 f2 o2 a2 b2) _ _ Y.out Tryd.underlying29 rfl (HZ.out _ _ _ _ _) ?_) | (refine wpList_load_row_w (by kernel_rfl) 29 (.tmp 7) rfl ga rfl 29 (enCells k1 f1 o1 a1 b1) _ _ X.out Tryd.underlying29 rfl (HZ.out _ _ _ _ _) ?_) | (refine wpList_load_row_w (by kernel_rfl) 29 (.tmp 8) rfl gb rfl 29 (enCells k2 f2 o2 a2 b2) _ _ Y.out Tryd.underlying29 rfl (HZ.out _ _ _ _ _) ?_))
    refine (HMn.out _ (HL.out.go hB)).mono ?_
    rintro ee z104 ⟨rfl, hb⟩
    replace hB := below_via hB hb
    replace X := Lib.hid (blk_below X.out hb (blk_lt X.out))
    clear hb
    go_upto_region 7 with fail
    obtain ⟨V1, hV1⟩ : ∃ V, (z104.alloc (.cells #[.int .i64 0, .int .i64 0] 40)).alloc (.cells #[.int .i64 0, .int .i64 0] 40) = V := ⟨_, rfl⟩
    have hb : Below z104.heap.size z104 V1 := by rw [← hV1]; exact (by repeat (first | exact Below.refl _ _ | assumption | refine Below.drew ?_ | refine below_drewN ?_ _ | refine Below.alloc ?_ (by first | omega | (simp; done) | (simp; omega)) _ | refine Below.setCell ?_ (by first | omega | (simp; done) | (simp; omega)) _))
    rw [hV1]
    clear hV1
    replace hB := below_via hB hb
    replace X := Lib.hid (blk_below X.out hb (blk_lt X.out))
    clear hb
    have qk := Hxk.out _ X.out
    rcases hk with rfl | rfl
    all_goals
      go_wp2_with fail
      refine (awake22 _ (HL.out.go hB)).mono ?_
      rintro ee zz ⟨rfl, hbz⟩
      replace hB := below_via hB hbz
      go_wp2
      go_ret
      exact ⟨rfl, hB⟩
  · have hkk : k1 = 1 ∨ k1 = 2 ∨ k1 = 3 := by omega
    have HSs := Lib.hid (fun W hW => sides_some _ k1 f1 a1 b1 v _ (enCells_ok _ _ _ _ _) hxo hf1 (by omega) hvb hxr hkk W hW)
    have HMs := Lib.hid (fun W hW => mean_some _ k1 f1 a1 b1 v _ (enCells_ok _ _ _ _ _) hxo hf1 (by omega) hvb hxr hkk W hW)
    have hoks := sides_okB k1 f1 o1 a1 b1 hxr hxo hkk v hvb.2
    have hrP := ((wOk_iff _ _).1 hoks.1).2.2.2
    have hrR := negP_right _ ((wOk_iff _ _).1 hoks.2).2.2.2
    have hlP := wPts_len (sideA k1 o1) v
    have hlR : (negP (wPts (sideB k1 o1) v)).length = (sideB k1 o1).length := by rw [negP_len, wPts_len]
    have hll : (wPts (sideA k1 o1) v).length = (negP (wPts (sideB k1 o1) v)).length := by rw [hlP, hlR, sides_len]
    have HRN := Lib.hid (show k1 ≠ 3 → negP (wPts (sideB k1 o1) v) = negP (wPts (sideA k1 o1) v) from fun h => by rw [sides_same k1 o1 (by omega)])
    unfold SRes at HSs
    rw [← hlP, ← hlR] at HSs
    clear hoks hlP hlR hxr hyr hxo hyo
    generalize wPts (sideA k1 o1) v = P at *
    generalize negP (wPts (sideB k1 o1) v) = Q at *
    have hri := (rightM_iff P).1 hrP
    have HAd := Lib.hid (fun W => fadd_sm _ _ (meanF_sm P hrP) (meanF_sm Q hrR) W)
    have HSm := Lib.hid (show k1 ≠ 3 → addF (meanF P) (meanF Q) = (0, 1) from fun h => by rw [HRN.out h]; exact mean_zero P)
    generalize addF (meanF P) (meanF Q) = sm at HAd HSm
    generalize meanF P = mp at *
    generalize meanF Q = mq at *
    obtain ⟨m1, m2⟩ := mp
    obtain ⟨m3, m4⟩ := mq
    obtain ⟨m5, m6⟩ := sm
    unfold fV at HMs HAd
    dsimp only at HMs HAd
    go_wp2_with (first | (refine wpList_load_row rfl 29 (.tmp 7) rfl ga rfl 29 (enCells k1 f1 o1 a1 b1) _ _ X.out Tryd.underlying29 rfl (HZ.out _ _ _ _ _) ?_) | (refine wpList_load_row rfl 29 (.tmp 8) rfl gb rfl 29 (enCells k2 f2 o2 a2 b2) _ _ Y.out Tryd.underlying29 rfl (HZ.out _ _ _ _ _) ?_) | (refine wpList_load_row_w (by kernel_rfl) 29 (.tmp 7) rfl ga rfl 29 (enCells k1 f1 o1 a1 b1) _ _ X.out Tryd.underlying29 rfl (HZ.out _ _ _ _ _) ?_) | (refine wpList_load_row_w (by kernel_rfl) 29 (.tmp 8) rfl gb rfl 29 (enCells k2 f2 o2 a2 b2) _ _ Y.out Tryd.underlying29 rfl (HZ.out _ _ _ _ _) ?_))
    refine (HSs.out _ (HL.out.go hB)).mono ?_
    rintro ee z105 ⟨v1, v2, rfl, jo1, jo2, -, hb⟩
    obtain ⟨A1, c1, rfl⟩ := own_form jo1
    obtain ⟨A2, c2, rfl⟩ := own_form jo2
    have R1 := Lib.hid (Rd.of_own jo1)
    have R2 := Lib.hid (Rd.of_own jo2)
    clear jo1 jo2
    replace hB := below_via hB hb
    replace X := Lib.hid (blk_below X.out hb (blk_lt X.out))
    replace Y := Lib.hid (blk_below Y.out hb (blk_lt Y.out))
    clear hb
    go_wp2_with (first | (refine wpList_load_row rfl 29 (.tmp 7) rfl ga rfl 29 (enCells k1 f1 o1 a1 b1) _ _ X.out Tryd.underlying29 rfl (HZ.out _ _ _ _ _) ?_) | (refine wpList_load_row rfl 29 (.tmp 8) rfl gb rfl 29 (enCells k2 f2 o2 a2 b2) _ _ Y.out Tryd.underlying29 rfl (HZ.out _ _ _ _ _) ?_) | (refine wpList_load_row_w (by kernel_rfl) 29 (.tmp 7) rfl ga rfl 29 (enCells k1 f1 o1 a1 b1) _ _ X.out Tryd.underlying29 rfl (HZ.out _ _ _ _ _) ?_) | (refine wpList_load_row_w (by kernel_rfl) 29 (.tmp 8) rfl gb rfl 29 (enCells k2 f2 o2 a2 b2) _ _ Y.out Tryd.underlying29 rfl (HZ.out _ _ _ _ _) ?_))
    refine (HMs.out _ (HL.out.go hB)).mono ?_
    rintro ee z106 ⟨rfl, hb⟩
    replace hB := below_via hB hb
    replace X := Lib.hid (blk_below X.out hb (blk_lt X.out))
    replace Y := Lib.hid (blk_below Y.out hb (blk_lt Y.out))
    replace R1 := Lib.hid (R1.out.go hb)
    replace R2 := Lib.hid (R2.out.go hb)
    clear hb
    go_upto_region 7 with fail
    obtain ⟨V1, hV1⟩ : ∃ V, (z106.alloc (.cells #[.int .i64 m1, .int .i64 m2] 40)).alloc (.cells #[.int .i64 m3, .int .i64 m4] 40) = V := ⟨_, rfl⟩
    obtain ⟨gm, hgm⟩ : ∃ g, z106.heap.size = g := ⟨_, rfl⟩
    have hb : Below z106.heap.size z106 V1 := by rw [← hV1]; exact (by repeat (first | exact Below.refl _ _ | assumption | refine Below.drew ?_ | refine below_drewN ?_ _ | refine Below.alloc ?_ (by first | omega | (simp; done) | (simp; omega)) _ | refine Below.setCell ?_ (by first | omega | (simp; done) | (simp; omega)) _))
    have M1 := Lib.hid (show V1.heap[gm]? = some (.cells #[.int .i64 m1, .int .i64 m2] 40) by rw [← hV1]; exact blk_alloc (blk_new _ hgm.symm) _)
    have M2 := Lib.hid (show V1.heap[gm + 1]? = some (.cells #[.int .i64 m3, .int .i64 m4] 40) by rw [← hV1]; exact blk_new _ (by simp [hgm]))
    rw [hV1, hgm]
    clear hV1 hgm
    replace hB := below_via hB hb
    replace X := Lib.hid (blk_below X.out hb (blk_lt X.out))
    replace Y := Lib.hid (blk_below Y.out hb (blk_lt Y.out))
    replace R1 := Lib.hid (R1.out.go hb)
    replace R2 := Lib.hid (R2.out.go hb)
    clear hb
    have qk := Hxk.out _ X.out
    have p1 := blk_cell M1.out 0
    have p2 := blk_cell M1.out 1
    have p3 := blk_cell M2.out 0
    have p4 := blk_cell M2.out 1
    have t1 : (k1 == 0) = false := beq_eq_false_iff_ne.2 (by omega)
    have t2 : (k1 == 4) = false := beq_eq_false_iff_ne.2 (by omega)
    go_wp2_with fail
    refine (HAd.out _).mono ?_
    rintro ee z107 ⟨rfl, hb⟩
    clear p1 p2 p3 p4 qk M1 M2
    replace hB := below_via hB hb
    replace X := Lib.hid (blk_below X.out hb (blk_lt X.out))
    replace Y := Lib.hid (blk_below Y.out hb (blk_lt Y.out))
    replace R1 := Lib.hid (R1.out.go hb)
    replace R2 := Lib.hid (R2.out.go hb)
    clear hb
    go_upto_region 10 with fail
    obtain ⟨V2, hV2⟩ : ∃ V, z107.alloc (.cells #[.int .i64 m5, .int .i64 m6] 40) = V := ⟨_, rfl⟩
    obtain ⟨gs, hgs⟩ : ∃ g, z107.heap.size = g := ⟨_, rfl⟩
    have hb : Below z107.heap.size z107 V2 := by rw [← hV2]; exact (by repeat (first | exact Below.refl _ _ | assumption | refine Below.drew ?_ | refine below_drewN ?_ _ | refine Below.alloc ?_ (by first | omega | (simp; done) | (simp; omega)) _ | refine Below.setCell ?_ (by first | omega | (simp; done) | (simp; omega)) _))
    have M := Lib.hid (show V2.heap[gs]? = some (.cells #[.int .i64 m5, .int .i64 m6] 40 (0, 0)) by rw [← hV2]; exact blk_new _ hgs.symm)
    rw [hV2, hgs]
    clear hV2 hgs
    replace hB := below_via hB hb
    replace X := Lib.hid (blk_below X.out hb (blk_lt X.out))
    replace Y := Lib.hid (blk_below Y.out hb (blk_lt Y.out))
    replace R1 := Lib.hid (R1.out.go hb)
    replace R2 := Lib.hid (R2.out.go hb)
    clear hb
    have hn4 := hri.2.1
    have HQ1 := Lib.hid (fun (W : World) hR => rightM_any P A1 c1 W hR (by omega))
    have HQ2 := Lib.hid (fun (W : World) hR => rightM_any Q A2 c2 W hR (by omega))
    rw [hrP] at HQ1
    rw [hrR] at HQ2
    rw [hll] at HQ1
    have hnn : (Q.length : Int) == (Q.length : Int) := by simp
    go_wp2_with fail
    refine (HQ1.out _ (by rw [← hll]; exact R1.out)).mono ?_
    rintro ee z108 ⟨rfl, hb⟩
    replace hB := below_via hB hb
    replace X := Lib.hid (blk_below X.out hb (blk_lt X.out))
    replace Y := Lib.hid (blk_below Y.out hb (blk_lt Y.out))
    replace R1 := Lib.hid (R1.out.go hb)
    replace R2 := Lib.hid (R2.out.go hb)
    replace M := Lib.hid (blk_below M.out hb (blk_lt M.out))
    clear hb
    go_wp2_with fail
    refine (HQ2.out _ R2.out).mono ?_
    rintro ee z109 ⟨rfl, hb⟩
    replace hB := below_via hB hb
    replace X := Lib.hid (blk_below X.out hb (blk_lt X.out))
    replace Y := Lib.hid (blk_below Y.out hb (blk_lt Y.out))
    replace R1 := Lib.hid (R1.out.go hb)
    replace R2 := Lib.hid (R2.out.go hb)
    replace M := Lib.hid (blk_below M.out hb (blk_lt M.out))
    clear hb
    have qk := Hxk.out _ X.out
    have HTy := Lib.hid (show True from trivial)
    clear hnn HTy HSs HMs HAd HQ1 HQ2 t1 t2
    by_cases h3 : k1 = 3
    · subst h3
      by_cases hy4 : k2 = 0 ∨ k2 = 4
      · have HY := Lib.hid (HYn.out hy4)
        clear HYn HYs HYr
        go_wp2_with (first | (refine wpList_load_row rfl 29 (.tmp 7) rfl ga rfl 29 (enCells k1 f1 o1 a1 b1) _ _ X.out Tryd.underlying29 rfl (HZ.out _ _ _ _ _) ?_) | (refine wpList_load_row rfl 29 (.tmp 8) rfl gb rfl 29 (enCells k2 f2 o2 a2 b2) _ _ Y.out Tryd.underlying29 rfl (HZ.out _ _ _ _ _) ?_) | (refine wpList_load_row_w (by kernel_rfl) 29 (.tmp 7) rfl ga rfl 29 (enCells k1 f1 o1 a1 b1) _ _ X.out Tryd.underlying29 rfl (HZ.out _ _ _ _ _) ?_) | (refine wpList_load_row_w (by kernel_rfl) 29 (.tmp 8) rfl gb rfl 29 (enCells k2 f2 o2 a2 b2) _ _ Y.out Tryd.underlying29 rfl (HZ.out _ _ _ _ _) ?_))
        refine (HY.out _ (HL.out.go hB)).mono ?_
        rintro ee z110 ⟨rfl, hb⟩
        replace hB := below_via hB hb
        replace X := Lib.hid (blk_below X.out hb (blk_lt X.out))
        clear hb
        have HA := Lib.hid (awake22 _ (HL.out.go hB))
        go_wp2_with fail
        refine HA.out.mono ?_
        rintro ee zz ⟨rfl, hbz⟩
        replace hB := below_via hB hbz
        go_wp2
        go_ret
        exact ⟨rfl, hB⟩
      · have hy3 : k2 = 1 ∨ k2 = 2 ∨ k2 = 3 := by omega
        have HY := Lib.hid (HYs.out hy3)
        have hrY := HYr.out hy3
        unfold SRes at HY
        clear HYn HYs HYr
        go_wp2_with (first | (refine wpList_load_row rfl 29 (.tmp 7) rfl ga rfl 29 (enCells k1 f1 o1 a1 b1) _ _ X.out Tryd.underlying29 rfl (HZ.out _ _ _ _ _) ?_) | (refine wpList_load_row rfl 29 (.tmp 8) rfl gb rfl 29 (enCells k2 f2 o2 a2 b2) _ _ Y.out Tryd.underlying29 rfl (HZ.out _ _ _ _ _) ?_) | (refine wpList_load_row_w (by kernel_rfl) 29 (.tmp 7) rfl ga rfl 29 (enCells k1 f1 o1 a1 b1) _ _ X.out Tryd.underlying29 rfl (HZ.out _ _ _ _ _) ?_) | (refine wpList_load_row_w (by kernel_rfl) 29 (.tmp 8) rfl gb rfl 29 (enCells k2 f2 o2 a2 b2) _ _ Y.out Tryd.underlying29 rfl (HZ.out _ _ _ _ _) ?_))
        refine (HY.out _ (HL.out.go hB)).mono ?_
        rintro ee z111 ⟨w1, w2, rfl, -, -, -, hb⟩
        replace hB := below_via hB hb
        replace X := Lib.hid (blk_below X.out hb (blk_lt X.out))
        replace Y := Lib.hid (blk_below Y.out hb (blk_lt Y.out))
        clear hb
        have qk := Hxk.out _ X.out
        have HA := Lib.hid (awake22 _ (HL.out.go hB))
        go_wp2_with fail
        refine HA.out.mono ?_
        rintro ee zz ⟨rfl, hbz⟩
        replace hB := below_via hB hbz
        go_wp2
        go_ret
        exact ⟨rfl, hB⟩
    · have hQ := HRN.out h3
      have Hm := HSm.out h3
      obtain ⟨rfl, rfl⟩ : m5 = 0 ∧ m6 = 1 := by injection Hm with h1 h2; exact ⟨h1, h2⟩
      have HTu := Lib.hid (fun (W : World) hR => turn_any P A1 c1 W hR hrP)
      rw [hll, ← hQ] at HTu
      have HP := Lib.hid hQ
      have HW0 := Lib.hid (fun W => q22_any 0 1 W)
      have t3 : (k1 == 3) = false := beq_eq_false_iff_ne.2 h3
      have t3' : (k1 != 3) = true := by rw [bne, t3]; rfl
      clear hQ Hm HRN HSm
      go_wp2_with fail
      refine (HTu.out _ (by rw [← hll]; exact R1.out)).mono ?_
      rintro ee z112 ⟨v3, rfl, jo3, hb⟩
      obtain ⟨A3, c3, rfl⟩ := own_form jo3
      have T1 := Lib.hid (Rd.of_own jo3)
      clear jo3 qk
      replace hB := below_via hB hb
      replace X := Lib.hid (blk_below X.out hb (blk_lt X.out))
      replace Y := Lib.hid (blk_below Y.out hb (blk_lt Y.out))
      replace R1 := Lib.hid (R1.out.go hb)
      replace R2 := Lib.hid (R2.out.go hb)
      replace M := Lib.hid (blk_below M.out hb (blk_lt M.out))
      clear hb
      have hd : Below z112.heap.size z112 z112.drew := (Below.refl _ _).drew
      have q0 := blk_cell M.out 0
      have q1 := blk_cell M.out 1
      have l9 := blk_lt M.out
      clear HTu
      go_upto_region 14 with fail
      go_region_held3 (fun w' => w'.cell? ⟨gs, 0, none⟩ = some (.int .i64 0) ∧ w'.cell? ⟨gs, 1, none⟩ = some (.int .i64 1)) (first | exact ⟨q0, q1⟩ | exact ⟨keepB0 hbm l9 q0, keepB0 hbm l9 q1⟩)
        ((go_at_call 26; (with_reducible refine (HW0.out _).mono ?_); rintro ee wm ⟨rfl, hbm0⟩; have hbm := hd.trans (hbm0.mono hd.size)))
      have hb := hbm
      replace hB := below_via hB hb
      replace X := Lib.hid (blk_below X.out hb (blk_lt X.out))
      replace Y := Lib.hid (blk_below Y.out hb (blk_lt Y.out))
      replace R1 := Lib.hid (R1.out.go hb)
      replace R2 := Lib.hid (R2.out.go hb)
      replace T1 := Lib.hid (T1.out.go hb)
      clear hb
      clear q0 q1 l9 hd hbm hbm0 M HW0
      go_wp2
      go_loopw [137] (fun i wx => ∃ j : Nat, j ≤ Q.length ∧ i = .int .i64 (j : Int) ∧ Below wm.heap.size wm wx) (fun i _ => Q.length - (intOf i).toNat)
      case atStart => exact ⟨0, by omega, rfl, Below.refl _ _⟩
      case round =>
        obtain ⟨j, hj, rfl, hb⟩ := hrel
        rename World => wx
        by_cases hlt : j < Q.length
        · obtain ⟨bt, ot, rfl, hbt, r0, r1⟩ := rd_p T1.out j hlt
          obtain ⟨be, oe, rfl, hbe, s0, s1⟩ := rd_p R2.out j hlt
          have d0 := keepB0 hb hbt r0
          have d1 := keepB0 hb hbt r1
          have e0 := keepB0 hb hbe s0
          have e1 := keepB0 hb hbe s1
          generalize Q[j].1 = y1 at d0 e0
          generalize Q[j].2 = y2 at d1 e1
          have c1 : (0 : Int) ≤ (j : Int) := by omega
          have c2 : (j : Int) < (Q.length : Int) := by omega
          have hb2 := Lib.hid (fun n => below_drewN hb n)
          clear r0 r1 s0 s1 hb HYn HYs HYr HL HG hB X Y R1 R2 T1
          go_upto_region 19 with fail
          go_quiet (fail)
          go_wp2
          go_roundw
          case rel => exact ⟨j + 1, by omega, by go_num, hb2.out _⟩
          case measure => simp [intOf]; omega
        · obtain rfl : j = Q.length := by omega
          replace hB := below_via hB hb
          replace X := Lib.hid (blk_below X.out hb (blk_lt X.out))
          replace Y := Lib.hid (blk_below Y.out hb (blk_lt Y.out))
          replace R1 := Lib.hid (R1.out.go hb)
          replace R2 := Lib.hid (R2.out.go hb)
          clear hb
          clear T1 hj hlt
          by_cases hy4 : k2 = 0 ∨ k2 = 4
          · have HY := Lib.hid (HYn.out hy4)
            clear HYn HYs HYr
            go_wp2_with (first | (refine wpList_load_row rfl 29 (.tmp 7) rfl ga rfl 29 (enCells k1 f1 o1 a1 b1) _ _ X.out Tryd.underlying29 rfl (HZ.out _ _ _ _ _) ?_) | (refine wpList_load_row rfl 29 (.tmp 8) rfl gb rfl 29 (enCells k2 f2 o2 a2 b2) _ _ Y.out Tryd.underlying29 rfl (HZ.out _ _ _ _ _) ?_) | (refine wpList_load_row_w (by kernel_rfl) 29 (.tmp 7) rfl ga rfl 29 (enCells k1 f1 o1 a1 b1) _ _ X.out Tryd.underlying29 rfl (HZ.out _ _ _ _ _) ?_) | (refine wpList_load_row_w (by kernel_rfl) 29 (.tmp 8) rfl gb rfl 29 (enCells k2 f2 o2 a2 b2) _ _ Y.out Tryd.underlying29 rfl (HZ.out _ _ _ _ _) ?_))
            refine (HY.out _ (HL.out.go hB)).mono ?_
            rintro ee z113 ⟨rfl, hb⟩
            replace hB := below_via hB hb
            replace X := Lib.hid (blk_below X.out hb (blk_lt X.out))
            clear hb
            have HA := Lib.hid (awake22 _ (HL.out.go hB))
            go_wp2_with fail
            refine HA.out.mono ?_
            rintro ee zz ⟨rfl, hbz⟩
            replace hB := below_via hB hbz
            go_wp2
            go_ret
            exact ⟨rfl, hB⟩
          · have hy3 : k2 = 1 ∨ k2 = 2 ∨ k2 = 3 := by omega
            have HY := Lib.hid (HYs.out hy3)
            have hrY := HYr.out hy3
            unfold SRes at HY
            clear HYn HYs HYr
            by_cases hy5 : k2 = 3
            · have t4 : (k2 == 3) = true := by rw [hy5]; rfl
              clear hy5 hy3
              go_wp2_with (first | (refine wpList_load_row rfl 29 (.tmp 7) rfl ga rfl 29 (enCells k1 f1 o1 a1 b1) _ _ X.out Tryd.underlying29 rfl (HZ.out _ _ _ _ _) ?_) | (refine wpList_load_row rfl 29 (.tmp 8) rfl gb rfl 29 (enCells k2 f2 o2 a2 b2) _ _ Y.out Tryd.underlying29 rfl (HZ.out _ _ _ _ _) ?_) | (refine wpList_load_row_w (by kernel_rfl) 29 (.tmp 7) rfl ga rfl 29 (enCells k1 f1 o1 a1 b1) _ _ X.out Tryd.underlying29 rfl (HZ.out _ _ _ _ _) ?_) | (refine wpList_load_row_w (by kernel_rfl) 29 (.tmp 8) rfl gb rfl 29 (enCells k2 f2 o2 a2 b2) _ _ Y.out Tryd.underlying29 rfl (HZ.out _ _ _ _ _) ?_))
              refine (HY.out _ (HL.out.go hB)).mono ?_
              rintro ee z114 ⟨w1, w2, rfl, -, -, -, hb⟩
              replace hB := below_via hB hb
              replace X := Lib.hid (blk_below X.out hb (blk_lt X.out))
              replace Y := Lib.hid (blk_below Y.out hb (blk_lt Y.out))
              clear hb
              have qk := Hxk.out _ X.out
              have ql := Hyk.out _ Y.out
              have t3 : (k1 == 3) = false := beq_eq_false_iff_ne.2 h3
              have HA := Lib.hid (awake22 _ (HL.out.go hB))
              go_wp2_with fail
              refine HA.out.mono ?_
              rintro ee zz ⟨rfl, hbz⟩
              replace hB := below_via hB hbz
              go_wp2
              go_ret
              exact ⟨rfl, hB⟩
            · have hlY := wPts_len (sideA k2 o2) v
              rw [← sides_same k2 o2 (by omega), ← hlY] at HY
              clear hlY
              generalize wPts (sideA k2 o2) v = U at HY hrY
              have hU4 := ((rightM_iff U).1 hrY).2.1
              have hrN := negP_right U hrY
              have HAd2 := Lib.hid (fun W => fadd_sm (cmpV P U) (cmpV Q (negP U)) (cmpV_sm _ _ hrP hrY) (cmpV_sm _ _ hrR hrN) W)
              have hsum : addF (cmpV P U) (cmpV Q (negP U)) = (2, 1) := by rw [HP.out]; exact pair_turned P U hrP hrY
              rw [hsum] at HAd2
              have HCa := Lib.hid (fun (W : World) B1 d1 hL hA hB => compare_any P U A1 B1 c1 d1 W hL hA hB (by omega) (by omega))
              have HCb := Lib.hid (fun (W : World) B2 d2 hL hA hB => compare_any Q (negP U) A2 B2 c2 d2 W hL hA hB (by omega) (by rw [negP_len]; omega))
              rw [cmpE_ok _ _ hrP hrY] at HCa
              rw [cmpE_ok _ _ hrR hrN] at HCb
              rw [hll] at HCa
              rw [negP_len] at HCb
              clear hsum hrY hrN hrP hrR hri
              generalize cmpV P U = x1 at HAd2 HCa
              generalize cmpV Q (negP U) = x2 at HAd2 HCb
              obtain ⟨n1, n2⟩ := x1
              obtain ⟨n3, n4⟩ := x2
              unfold fV at HAd2 HCa HCb
              dsimp only at HAd2 HCa HCb
              go_wp2_with (first | (refine wpList_load_row rfl 29 (.tmp 7) rfl ga rfl 29 (enCells k1 f1 o1 a1 b1) _ _ X.out Tryd.underlying29 rfl (HZ.out _ _ _ _ _) ?_) | (refine wpList_load_row rfl 29 (.tmp 8) rfl gb rfl 29 (enCells k2 f2 o2 a2 b2) _ _ Y.out Tryd.underlying29 rfl (HZ.out _ _ _ _ _) ?_) | (refine wpList_load_row_w (by kernel_rfl) 29 (.tmp 7) rfl ga rfl 29 (enCells k1 f1 o1 a1 b1) _ _ X.out Tryd.underlying29 rfl (HZ.out _ _ _ _ _) ?_) | (refine wpList_load_row_w (by kernel_rfl) 29 (.tmp 8) rfl gb rfl 29 (enCells k2 f2 o2 a2 b2) _ _ Y.out Tryd.underlying29 rfl (HZ.out _ _ _ _ _) ?_))
              refine (HY.out _ (HL.out.go hB)).mono ?_
              rintro ee z115 ⟨w1, w2, rfl, jo4, jo5, -, hb⟩
              obtain ⟨B1, d1, rfl⟩ := own_form jo4
              obtain ⟨B2, d2, rfl⟩ := own_form jo5
              have O1 := Lib.hid (Rd.of_own jo4)
              have O2 := Lib.hid (Rd.of_own jo5)
              clear jo4 jo5
              replace hB := below_via hB hb
              replace X := Lib.hid (blk_below X.out hb (blk_lt X.out))
              replace Y := Lib.hid (blk_below Y.out hb (blk_lt Y.out))
              replace R1 := Lib.hid (R1.out.go hb)
              replace R2 := Lib.hid (R2.out.go hb)
              clear hb
              have qk := Hxk.out _ X.out
              have ql := Hyk.out _ Y.out
              have t3 : (k1 == 3) = false := beq_eq_false_iff_ne.2 h3
              have t4 : (k2 == 3) = false := beq_eq_false_iff_ne.2 hy5
              go_wp2_with fail
              refine (HCa.out _ _ _ (HG.out.goG hB) (by rw [← hll]; exact R1.out) O1.out).mono ?_
              rintro ee z116 ⟨rfl, hb⟩
              clear X Y R1 O1 qk ql
              replace hB := below_via hB hb
              replace R2 := Lib.hid (R2.out.go hb)
              replace O2 := Lib.hid (O2.out.go hb)
              clear hb
              go_upto_region 26 with fail
              obtain ⟨Fn1, hFn1⟩ : ∃ V, z116.alloc (.cells #[.int .i64 n1, .int .i64 n2] 40) = V := ⟨_, rfl⟩
              obtain ⟨gn1, hgn1⟩ : ∃ g, z116.heap.size = g := ⟨_, rfl⟩
              have hb : Below z116.heap.size z116 Fn1 := by rw [← hFn1]; exact (by repeat (first | exact Below.refl _ _ | assumption | refine Below.drew ?_ | refine below_drewN ?_ _ | refine Below.alloc ?_ (by first | omega | (simp; done) | (simp; omega)) _ | refine Below.setCell ?_ (by first | omega | (simp; done) | (simp; omega)) _))
              have Mn1 := Lib.hid (show Fn1.heap[gn1]? = some (.cells #[.int .i64 n1, .int .i64 n2] 40 (0, 0)) by rw [← hFn1]; exact blk_new _ hgn1.symm)
              rw [hFn1, hgn1]
              clear hFn1 hgn1
              replace hB := below_via hB hb
              replace R2 := Lib.hid (R2.out.go hb)
              replace O2 := Lib.hid (O2.out.go hb)
              clear hb
              go_wp2_with fail
              refine (HCb.out _ _ _ (HG.out.goG hB) R2.out O2.out).mono ?_
              rintro ee z117 ⟨rfl, hb⟩
              clear R2 O2
              replace hB := below_via hB hb
              replace Mn1 := Lib.hid (blk_below Mn1.out hb (blk_lt Mn1.out))
              clear hb
              go_upto_region 27 with fail
              obtain ⟨Fn3, hFn3⟩ : ∃ V, z117.alloc (.cells #[.int .i64 n3, .int .i64 n4] 40) = V := ⟨_, rfl⟩
              obtain ⟨gn3, hgn3⟩ : ∃ g, z117.heap.size = g := ⟨_, rfl⟩
              have hb : Below z117.heap.size z117 Fn3 := by rw [← hFn3]; exact (by repeat (first | exact Below.refl _ _ | assumption | refine Below.drew ?_ | refine below_drewN ?_ _ | refine Below.alloc ?_ (by first | omega | (simp; done) | (simp; omega)) _ | refine Below.setCell ?_ (by first | omega | (simp; done) | (simp; omega)) _))
              have Mn3 := Lib.hid (show Fn3.heap[gn3]? = some (.cells #[.int .i64 n3, .int .i64 n4] 40 (0, 0)) by rw [← hFn3]; exact blk_new _ hgn3.symm)
              rw [hFn3, hgn3]
              clear hFn3 hgn3
              replace hB := below_via hB hb
              replace Mn1 := Lib.hid (blk_below Mn1.out hb (blk_lt Mn1.out))
              clear hb
              have pn10 := blk_cell Mn1.out 0
              have pn11 := blk_cell Mn1.out 1
              have pn30 := blk_cell Mn3.out 0
              have pn31 := blk_cell Mn3.out 1
              go_wp2_with fail
              refine (HAd2.out _).mono ?_
              rintro ee z118 ⟨rfl, hb⟩
              clear Mn1 Mn3 pn10 pn11 pn30 pn31
              replace hB := below_via hB hb
              clear hb
              go_upto_region 28 with fail
              obtain ⟨V9, hV9⟩ : ∃ V, z118.alloc (.cells #[.int .i64 2, .int .i64 1] 40) = V := ⟨_, rfl⟩
              obtain ⟨g9, hg9⟩ : ∃ g, z118.heap.size = g := ⟨_, rfl⟩
              have hb : Below z118.heap.size z118 V9 := by rw [← hV9]; exact (by repeat (first | exact Below.refl _ _ | assumption | refine Below.drew ?_ | refine below_drewN ?_ _ | refine Below.alloc ?_ (by first | omega | (simp; done) | (simp; omega)) _ | refine Below.setCell ?_ (by first | omega | (simp; done) | (simp; omega)) _))
              have m9 : V9.heap[g9]? = some (.cells #[.int .i64 2, .int .i64 1] 40 (0, 0)) := by rw [← hV9]; exact blk_new _ hg9.symm
              rw [hV9, hg9]
              clear hV9 hg9
              replace hB := below_via hB hb
              have q0 := blk_cell m9 0
              have q1 := blk_cell m9 1
              have l9 := blk_lt m9
              have hd : Below V9.heap.size V9 V9.drew := (Below.refl _ _).drew
              have HW2 := Lib.hid (fun W => q22_any 2 1 W)
              have HAw := Lib.hid (fun (W : World) (hb : Below V9.heap.size V9 W) => awake22 W (HL.out.go (below_via hB hb)))
              clear m9 hb t3 t4
              go_region_held3 (fun w' => w'.cell? ⟨g9, 0, none⟩ = some (.int .i64 2) ∧ w'.cell? ⟨g9, 1, none⟩ = some (.int .i64 1)) (first | exact ⟨q0, q1⟩ | exact ⟨keepB0 hbn l9 q0, keepB0 hbn l9 q1⟩ | exact ⟨keepB0 hbm l9 q0, keepB0 hbm l9 q1⟩)
                ((first | (go_at_call 26; (with_reducible refine (HW2.out _).mono ?_); rintro ee wm ⟨rfl, hbm0⟩; have hbm := hd.trans (hbm0.mono hd.size)) | (go_at_call 19; (with_reducible refine (HAw.out _ hbm).mono ?_); rintro ee wn ⟨rfl, hbn0⟩; have hbn := hbm.trans (hbn0.mono hbm.size))))
              replace hB := below_via hB hbn
              go_wp2
              go_ret
              exact ⟨rfl, hB⟩

end Go.Proofs.YtgfnggdjjigomaaDoor
