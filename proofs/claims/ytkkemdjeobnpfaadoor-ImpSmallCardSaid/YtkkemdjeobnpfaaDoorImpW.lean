/- The walks of the package and of its reference, function by function. -/
import Derived.Test.YtkkemdjeobnpfaaDoorChecked
import Derived.Test.YtkkemdjeobnpfaaDoorBase
import Derived.Test.YtkkemdjeobnpfaaDoorImpMath
namespace Go.Proofs.YtkkemdjeobnpfaaDoor
open Go.RowKit

def scaleC : Array Value := (scaleL.map (Value.int .i64)).toArray
/-- The package's table lies in its block. -/
def Laid (w : World) : Prop := ∃ t fr, w.heap[0]? = some (.cells scaleC t fr)
theorem Laid.below {w w' : World} {B : Nat} (h : Laid w) (hb : Below B w w') (hB : 0 < B) : Laid w' := by
  obtain ⟨t, fr, h⟩ := h
  exact ⟨t, fr, (hb.block 0 hB).trans h⟩
theorem Laid.lt {w : World} (h : Laid w) : 0 < w.heap.size := by
  obtain ⟨t, fr, h⟩ := h
  rcases Nat.lt_or_ge 0 w.heap.size with hlt | hge
  · exact hlt
  · rw [Array.getElem?_eq_none hge] at h; cases h
theorem scaleC_get (j : Nat) (h : j < 24) : scaleC[j]? = some (.int .i64 (scaleL.getD j 0)) := by
  have : ∀ j : Fin 24, (scaleL.map (Value.int .i64))[j.1]? = some (Value.int .i64 (scaleL.getD j.1 0)) := fun j => by
    have hl : j.1 < scaleL.length := j.2
    simp [List.getElem?_map, List.getD, List.getElem?_eq_getElem hl]
  simpa [scaleC] using this ⟨j, h⟩
theorem Laid.cell {w : World} (h : Laid w) (j : Nat) (hj : j < 24) : w.cell? ⟨0, j, none⟩ = some (.int .i64 (scaleL.getD j 0)) := by
  obtain ⟨t, fr, h⟩ := h
  simp [World.cell?, h, scaleC_get j hj]

theorem isAgg_int : ∀ w, (isAgg 3).run Tryd.prog w = .ok false w := fun _ => by kernel_rfl
theorem index_scale (j : Nat) (h : j < 24) (w : World) :
    (Instr.index 49 (.agg scaleC) (.int .i64 (j : Int))).run Tryd.prog w = .ok (.int .i64 (scaleL.getD j 0)) w :=
  run_index_one _ _ 24 _ _ _ _ Tryd.underlying49 (by kernel_rfl) isAgg_int (scaleC_get j h) h

set_option maxHeartbeats 400000 in
/-- imp.IMP returns the match points of any difference. -/
theorem imp_any (d : Int) (w : World) (hg : Laid w) :
    Calls Tryd.prog 15 #[.int .i64 d] w fun e w' => e = .returned (.int .i64 (impV d)) ∧ w = w' := by
  obtain ⟨t, fr, hg⟩ := hg
  go_enter Tryd.func15, Tryd.ntmps15
  go_wp2_with (refine wpList_load_row rfl 49 _ rfl 0 rfl t scaleC fr _ hg Tryd.underlying49 rfl (by kernel_rfl) ?_)
  go_loop [3, 7] (fun n k => ∃ j : Nat, j ≤ 24 ∧ k = .int .i64 (j : Int) ∧ n = .int .i64 (impUpto d j)) (fun _ i => 24 - (intOf i).toNat)
  case atStart => exact ⟨0, by omega, rfl, rfl⟩
  case round =>
    obtain ⟨j, hj, rfl, rfl⟩ := hrel
    by_cases hlt : j < 24
    · have hix := index_scale j hlt
      have hs := scale_bd j hlt
      have hb := impUpto_bd d j hj
      have Hs := Lib.hid (impUpto_succ d j hlt)
      generalize scaleL.getD j 0 = sn at hix hs Hs
      go_wp2
      all_goals
        go_round
        case rel => exact ⟨j + 1, by omega, by go_num, int_eq (by rw [Hs.out]; unfold impOne; omega)⟩
        case measure => simp [intOf]; omega
    · obtain rfl : j = 24 := by omega
      go_wp2
      go_ret
      exact ⟨rfl, rfl⟩

set_option maxHeartbeats 400000 in
theorem least_any (n : Int) (w : World) (hg : Laid w) :
    Calls Tryd.prog 11 #[.int .i64 n] w fun e w' => e = .returned (.tuple #[.int .i64 (leastV n), .int .i64 (leastE n)]) ∧ w = w' := by
  by_cases h0 : n < 0
  · have hv : leastV n = 0 := by simp [leastV, h0]
    have he : leastE n = 2 := by simp [leastE, h0]
    rw [hv, he]; clear hv he
    go_enter Tryd.func11, Tryd.ntmps11
    go_wp2
    go_ret2
    exact ⟨rfl, rfl⟩
  by_cases h1 : 24 < n
  · have hv : leastV n = 0 := by simp [leastV, h1]
    have he : leastE n = 2 := by simp [leastE, h1]
    rw [hv, he]; clear hv he
    go_enter Tryd.func11, Tryd.ntmps11
    go_wp2
    go_ret2
    exact ⟨rfl, rfl⟩
  have he : leastE n = 0 := by simp [leastE, h0, h1]
  by_cases h2 : n = 0
  · have hv : leastV n = 0 := by simp [leastV, h2]
    rw [hv, he]; clear hv he
    subst h2
    go_enter Tryd.func11, Tryd.ntmps11
    go_wp2
    go_ret2
    exact ⟨rfl, rfl⟩
  · have hv : leastV n = scaleL.getD (n - 1).toNat 0 := by simp [leastV, h0, h1, h2]
    rw [hv, he]; clear hv he
    have hc := hg.cell (n - 1).toNat (by omega)
    generalize scaleL.getD (n - 1).toNat 0 = s at hc
    obtain ⟨j, rfl⟩ : ∃ j : Nat, n = j + 1 := ⟨(n - 1).toNat, by omega⟩
    rw [show ((j : Int) + 1 - 1).toNat = j by omega] at hc
    go_enter Tryd.func11, Tryd.ntmps11
    go_wp2
    go_ret2
    exact ⟨rfl, rfl⟩

/-! ### The reference -/
theorem info_int : (Tryd.prog.info? 3).map (fun i => (i.zero, i.size, i.bytes)) = some (some (.int .i64 0), 1, 8) := by kernel_rfl
def scaleSum (k : Nat) : Int := (stepsL.take k).sum
theorem scaleSum_succ (k : Nat) (h : k < 24) : scaleSum (k + 1) = scaleSum k + stepsL.getD k 0 ∧ scaleL.getD k 0 = scaleSum (k + 1) := by
  have : ∀ j : Fin 24, scaleSum (j.1 + 1) = scaleSum j.1 + stepsL.getD j.1 0 ∧ scaleL.getD j.1 0 = scaleSum (j.1 + 1) := by decide
  exact this ⟨k, h⟩
theorem steps_bd (j : Nat) (h : j < 24) : 0 ≤ stepsL.getD j 0 ∧ stepsL.getD j 0 ≤ 500 := by
  have : ∀ j : Fin 24, 0 ≤ stepsL.getD j 0 ∧ stepsL.getD j.1 0 ≤ 500 := by decide
  exact this ⟨j, h⟩
theorem scaleSum_bd (j : Nat) (h : j ≤ 24) : 0 ≤ scaleSum j ∧ scaleSum j ≤ 4000 := by
  have : ∀ j : Fin 25, 0 ≤ scaleSum j ∧ scaleSum j.1 ≤ 4000 := by decide
  exact this ⟨j, by omega⟩
theorem take_scale_succ (k : Nat) (h : k < 24) : (scaleL.take (k + 1)).map (Value.int .i64) = (scaleL.take k).map (Value.int .i64) ++ [.int .i64 (scaleL.getD k 0)] := by
  have hl : k < scaleL.length := h
  rw [List.take_succ_eq_append_getElem hl, List.map_append]
  simp [List.getD, List.getElem?_eq_getElem hl]

def stepsC : Array Value := (stepsL.map (Value.int .i64)).toArray
theorem steps_cell {w : World} {b t : Nat} (h : w.heap[b]? = some (.cells stepsC t)) (j : Nat) (hj : j < 24) : w.cell? ⟨b, j, none⟩ = some (.int .i64 (stepsL.getD j 0)) := by
  have : ∀ j : Fin 24, (stepsL.map (Value.int .i64))[j.1]? = some (Value.int .i64 (stepsL.getD j.1 0)) := fun j => by
    have hl : j.1 < stepsL.length := j.2
    simp [List.getElem?_map, List.getD, List.getElem?_eq_getElem hl]
  simp only [World.cell?, h]
  simpa [stepsC] using this ⟨j, hj⟩

set_option maxHeartbeats 1000000 in
/-- finesseref19.Scale returns a new slice that holds the scale. -/
theorem scale_ref (w : World) :
    Calls Tryd.prog 22 #[] w fun e w' => ∃ v, e = .returned v ∧ w'.ownsRow w.heap.size 3 1 v 24 (scaleL.map (Value.int .i64)) ∧ Below w.heap.size w w' := by
  obtain ⟨i0, hi, hz0, hz1, hz2⟩ := info_parts info_int
  obtain ⟨B, HB⟩ : ∃ B, B = w.heap.size := ⟨_, rfl⟩
  go_enter Tryd.func22, Tryd.ntmps22
  go_wp2
  go_loopw [2, 3, 4] (fun v s i wr => ∃ (k : Nat) (xs : List Value), k ≤ 24 ∧ i = .int .i64 (k : Int) ∧ s = .int .i64 (scaleSum k) ∧ Hid (xs = (scaleL.take k).map (Value.int .i64)) ∧ wr.ownsRow (w.heap.size + 1) 3 1 v k xs ∧
      wr.heap[w.heap.size]? = some (.cells stepsC 3) ∧ Below w.heap.size w wr ∧ w.heap.size + 1 ≤ wr.heap.size) (fun _ _ i _ => 24 - (intOf i).toNat)
  case atStart => exact ⟨0, [], by omega, rfl, rfl, rfl, ⟨rfl, .inl ⟨rfl, rfl⟩⟩, heap_alloc_new w _, (Below.refl _ _).alloc (Nat.le_refl _) _, by simp⟩
  case round =>
    obtain ⟨k, xs, hk, rfl, rfl, hxs, hown, hst, hbel, hsz⟩ := hrel
    by_cases hlt : k < 24
    · have hcell := steps_cell hst k hlt
      have hbd := steps_bd k hlt
      have hsb := scaleSum_bd k hk
      have Hs := Lib.hid (scaleSum_succ k hlt)
      have Ht := Lib.hid (take_scale_succ k hlt)
      have Hst := Lib.hid hst
      clear hst
      generalize stepsL.getD k 0 = st at hcell hbd Hs
      go_wp2_with (at_builtin; refine wpList_append_own _ rfl _ _ 36 rfl (w.heap.size + 1) 3 i0 (.int .i64 0) 1 8 Tryd.underlying36 hi hz0 hz1 hz2 rfl (by decide) _ _ _ rfl (hown.alloc _) ⟨wr.heap.size, 0, none⟩ 1 1 [.int .i64 (scaleSum k + st)] rfl rfl ?c1 ?c2 ?c3 ?c4 ?c5 ?_)
      case c1 => exact cell_one_new _ _ _
      case c2 => simp [Value.oneCell']
      case c3 => unfold maxLen; omega
      case c4 => omega
      case c5 => simp; omega
      intro v' w1 hown1 hgrow _
      go_wp2
      go_roundw
      case rel =>
        have hb1 : Below w.heap.size w w1 := (hbel.alloc (by omega) _).grown hgrow (by simp; omega) (fun g hg => by have := hown.lt _ hg; omega)
        refine ⟨k + 1, _, by omega, by go_num, int_eq Hs.out.1.symm, ?_, hown1, ?_, hb1, ?_⟩
        · rw [Ht.out, Hs.out.2, Hs.out.1, hxs.out]; exact rfl
        · have := hgrow.block w.heap.size (by simp; omega) (fun e => by have := hown.lt _ e.symm; omega)
          rw [this]
          exact (Below.heap_alloc wr _ _ (by omega)).trans Hst.out
        · have := hb1.size; have := hgrow.size; simp at this; omega
      case measure => simp [intOf]; omega
    · obtain rfl : k = 24 := by omega
      go_wp2
      go_ret
      refine ⟨_, rfl, ?_, hbel⟩
      rw [← show _ = scaleL.map (Value.int .i64) from hxs.out]
      exact own_mono hown (by omega)

set_option maxHeartbeats 400000 in
/-- finesseref19.IMP at a difference from 0 on. -/
theorem impref_pos (d : Int) (w : World) (h0 : 0 ≤ d) :
    Calls Tryd.prog 16 #[.int .i64 d] w fun e w' => e = .returned (.int .i64 (impV d)) ∧ Below w.heap.size w w' := by
  go_enter Tryd.func16, Tryd.ntmps16
  go_wp2_with (go_at_call 22; refine (scale_ref _).mono ?_; rintro e w1 ⟨v, rfl, hown, hb⟩; obtain ⟨A, c, rfl⟩ := own_form hown)
  have hrd := Rd.of_own hown
  clear hown
  go_loop [4] (fun n => ∃ k : Nat, k ≤ 24 ∧ n = .int .i64 (k : Int) ∧ Hid (∀ j, j < k → scaleL.getD j 0 ≤ d)) (fun i => 24 - (intOf i).toNat)
  case atStart => exact ⟨0, by omega, rfl, fun j hj => by omega⟩
  case round =>
    obtain ⟨k, hk, rfl, hall⟩ := hrel
    by_cases hlt : k < 24
    · obtain ⟨b, off, rfl, hbw, hc⟩ := hrd.pos (by omega)
      have hcell : w1.cell? ⟨b, off + k, none⟩ = some (.int .i64 (scaleL.getD k 0)) := by
        rw [hc k (by simpa [scaleL] using hlt)]
        have hl : k < scaleL.length := hlt
        simp [List.getElem?_map, List.getD, List.getElem?_eq_getElem hl]
      by_cases hle : scaleL.getD k 0 ≤ d
      · have Hn := Lib.hid (show ∀ j, j < k + 1 → scaleL.getD j 0 ≤ d from fun j hj => by
          by_cases e : j = k
          · rw [e]; exact hle
          · exact hall.out j (by omega))
        generalize scaleL.getD k 0 = s at hcell hle
        clear hc
        go_wp2
        go_round
        case rel => exact ⟨k + 1, by omega, by go_num, Hn⟩
        case measure => simp [intOf]; omega
      · have Hn := Lib.hid (imp_count d k h0 hk hall.out (fun _ => by omega))
        have hle' : d < scaleL.getD k 0 := by omega
        clear hle
        generalize scaleL.getD k 0 = s at hcell hle'
        clear hc
        go_wp2
        go_ret
        exact ⟨ret_int Hn.out.symm, hb⟩
    · obtain rfl : k = 24 := by omega
      have Hn := Lib.hid (imp_count d 24 h0 hk hall.out (fun h => by omega))
      go_wp2
      go_ret
      exact ⟨ret_int Hn.out.symm, hb⟩

set_option maxHeartbeats 400000 in
/-- finesseref19.IMP returns the match points of any difference. -/
theorem impref_any (d : Int) (w : World) :
    Calls Tryd.prog 16 #[.int .i64 d] w fun e w' => e = .returned (.int .i64 (impV d)) ∧ Below w.heap.size w w' := by
  by_cases h0 : 0 ≤ d
  · exact impref_pos d w h0
  by_cases h1 : d < -4000
  · have Hn := Lib.hid (imp_low d (by omega))
    have Hm := Lib.hid (show impV 4000 = 24 by rw [show (4000 : Int) = -(-4000) from rfl, imp_neg, imp_low _ (by omega)]; rfl)
    go_enter Tryd.func16, Tryd.ntmps16
    go_wp2_with (go_at_call 16; refine (impref_pos _ _ (by omega)).mono ?_; rintro e w1 ⟨rfl, hb⟩; have hbd := imp_bd 4000)
    go_ret
    exact ⟨ret_int (by rw [Hn.out, Hm.out]), hb⟩
  · have Hn := Lib.hid (imp_neg d)
    have hbd := imp_bd (-d)
    go_enter Tryd.func16, Tryd.ntmps16
    go_wp2_with (go_at_call 16; refine (impref_pos _ _ (by omega)).mono ?_; rintro e w1 ⟨rfl, hb⟩)
    go_ret
    exact ⟨ret_int (by rw [Hn.out]; omega), hb⟩

set_option maxHeartbeats 400000 in
theorem leastref_any (n : Int) (w : World) :
    Calls Tryd.prog 12 #[.int .i64 n] w fun e w' => e = .returned (.tuple #[.int .i64 (leastV n), .int .i64 (leastE n)]) ∧ Below w.heap.size w w' := by
  by_cases h0 : n < 0
  · have hv : leastV n = 0 := by simp [leastV, h0]
    have he : leastE n = 2 := by simp [leastE, h0]
    rw [hv, he]; clear hv he
    go_enter Tryd.func12, Tryd.ntmps12
    go_wp2
    go_ret2
    exact ⟨rfl, Below.refl _ _⟩
  by_cases h1 : 24 < n
  · have hv : leastV n = 0 := by simp [leastV, h1]
    have he : leastE n = 2 := by simp [leastE, h1]
    rw [hv, he]; clear hv he
    go_enter Tryd.func12, Tryd.ntmps12
    go_wp2
    go_ret2
    exact ⟨rfl, Below.refl _ _⟩
  have he : leastE n = 0 := by simp [leastE, h0, h1]
  by_cases h2 : n = 0
  · have hv : leastV n = 0 := by simp [leastV, h2]
    rw [hv, he]; clear hv he
    subst h2
    go_enter Tryd.func12, Tryd.ntmps12
    go_wp2
    go_ret2
    exact ⟨rfl, Below.refl _ _⟩
  · have hv : leastV n = scaleL.getD (n - 1).toNat 0 := by simp [leastV, h0, h1, h2]
    rw [hv, he]; clear hv he
    obtain ⟨j, rfl⟩ : ∃ j : Nat, n = j + 1 := ⟨(n - 1).toNat, by omega⟩
    rw [show ((j : Int) + 1 - 1).toNat = j by omega]
    have hj : j < 24 := by omega
    go_enter Tryd.func12, Tryd.ntmps12
    go_wp2_with fail
    refine (scale_ref _).mono ?_
    rintro e w1 ⟨v, rfl, hown, hb⟩
    obtain ⟨A, c, rfl⟩ := own_form hown
    obtain ⟨b, off, rfl, hbw, hc⟩ := (Rd.of_own hown).pos (by omega)
    have hcell : w1.cell? ⟨b, off + j, none⟩ = some (.int .i64 (scaleL.getD j 0)) := by
      rw [hc j (by simpa [scaleL] using hj)]
      have hl : j < scaleL.length := hj
      simp [List.getElem?_map, List.getD, List.getElem?_eq_getElem hl]
    generalize hs : scaleL.getD j 0 = s at hcell
    have Hs := Lib.hid hs
    clear hc hown hs
    go_wp2
    go_ret2
    exact ⟨by rw [Hs.out]; rfl, hb⟩

/-! ### Swings -/
set_option maxHeartbeats 400000 in
theorem swing_any (o c : Int) (w : World) (hg : Laid w) :
    Calls Tryd.prog 13 #[.agg #[.int .i64 o, .int .i64 c]] w fun e w' => e = .returned (.tuple #[.int .i64 (swingV o c), .int .i64 (swingE o c)]) ∧ Below w.heap.size w w' := by
  have hb0 : Below w.heap.size w (w.alloc (.cells #[.int .i64 o, .int .i64 c] 29)) := (Below.refl _ _).alloc (Nat.le_refl _) _
  have Hl := Lib.hid (hg.below hb0 hg.lt)
  have bad : ¬ (okScore o ∧ okScore c) → swingV o c = 0 ∧ swingE o c = 190 := fun h => by simp [swingV, swingE, h]
  by_cases h0 : o < -7600
  · obtain ⟨hv, he⟩ := bad (by unfold okScore; omega)
    rw [hv, he]; clear hv he bad
    go_enter Tryd.func13, Tryd.ntmps13
    go_wp2
    go_ret2
    exact ⟨rfl, hb0⟩
  by_cases h1 : 7600 < o
  · obtain ⟨hv, he⟩ := bad (by unfold okScore; omega)
    rw [hv, he]; clear hv he bad
    go_enter Tryd.func13, Tryd.ntmps13
    go_wp2
    go_ret2
    exact ⟨rfl, hb0⟩
  by_cases h2 : c < -7600
  · obtain ⟨hv, he⟩ := bad (by unfold okScore; omega)
    rw [hv, he]; clear hv he bad
    go_enter Tryd.func13, Tryd.ntmps13
    go_wp2
    go_ret2
    exact ⟨rfl, hb0⟩
  by_cases h3 : 7600 < c
  · obtain ⟨hv, he⟩ := bad (by unfold okScore; omega)
    rw [hv, he]; clear hv he bad
    go_enter Tryd.func13, Tryd.ntmps13
    go_wp2
    go_ret2
    exact ⟨rfl, hb0⟩
  have hv : swingV o c = impV (o - c) := by rw [swingV, if_pos (by unfold okScore; omega)]
  have he : swingE o c = 0 := by rw [swingE, if_pos (by unfold okScore; omega)]
  rw [hv, he]; clear hv he bad
  go_enter Tryd.func13, Tryd.ntmps13
  go_wp2_with (go_at_call 15; refine (imp_any _ _ Hl.out).mono ?_; rintro e w1 ⟨rfl, rfl⟩)
  go_ret2
  exact ⟨rfl, hb0⟩

set_option maxHeartbeats 400000 in
theorem swingref_any (o c : Int) (w : World) :
    Calls Tryd.prog 14 #[.int .i64 o, .int .i64 c] w fun e w' => e = .returned (.tuple #[.int .i64 (swingV o c), .int .i64 (swingE o c)]) ∧ Below w.heap.size w w' := by
  have bad : ¬ (okScore o ∧ okScore c) → swingV o c = 0 ∧ swingE o c = 190 := fun h => by simp [swingV, swingE, h]
  by_cases hok : okScore o ∧ okScore c
  · have hv : swingV o c = impV (o - c) := by rw [swingV, if_pos hok]
    have he : swingE o c = 0 := by rw [swingE, if_pos hok]
    rw [hv, he]; clear hv he bad
    unfold okScore at hok
    obtain ⟨⟨h0, h1⟩, h2, h3⟩ := hok
    go_enter Tryd.func14, Tryd.ntmps14
    go_wp2_with (go_at_call 16; refine (impref_any _ _).mono ?_; rintro e w1 ⟨rfl, hb⟩)
    go_ret2
    exact ⟨rfl, hb⟩
  · obtain ⟨hv, he⟩ := bad hok
    rw [hv, he]; clear hv he bad
    unfold okScore at hok
    by_cases h0 : o < -7600
    · clear hok
      go_enter Tryd.func14, Tryd.ntmps14
      go_wp2
      go_ret2
      exact ⟨rfl, Below.refl _ _⟩
    by_cases h1 : 7600 < o
    · clear hok
      go_enter Tryd.func14, Tryd.ntmps14
      go_wp2
      go_ret2
      exact ⟨rfl, Below.refl _ _⟩
    by_cases h2 : c < -7600
    · clear hok
      go_enter Tryd.func14, Tryd.ntmps14
      go_wp2
      go_ret2
      exact ⟨rfl, Below.refl _ _⟩
    have h3 : 7600 < c := by omega
    clear hok
    go_enter Tryd.func14, Tryd.ntmps14
    go_wp2
    go_ret2
    exact ⟨rfl, Below.refl _ _⟩

end Go.Proofs.YtkkemdjeobnpfaaDoor
