/- What the tied tables of the package score give the walks. -/
import Derived.Test.YtgfnggdjjigomaaDoorScoW
import Derived.Test.YtgfnggdjjigomaaDoorRows
import Derived.Lib.LaidTab
import Derived.LaidMore
import Derived.Stop.Joined
namespace Go.Proofs.YtgfnggdjjigomaaDoor
open Go.RowKit

/-- The tables' names, as the rows list them. -/
def tabName (i : Nat) : String := match Rows.adjustTellsRow.laid[i]? with
  | some x => x.1
  | none => ""
theorem var_heap {W : World} {n : String} {g : Nat} {cs : Array Value} (hg : Tryd.prog.globalNamed n = some g) (e : W.var? Tryd.prog n = some cs) : ∃ t fr, W.heap[g]? = some (.cells cs t fr) := by
  unfold World.var? at e
  rw [hg] at e
  simp only [Option.bind_some] at e
  split at e
  · rename_i cs t fr hh
    obtain rfl := Option.some.inj e
    exact ⟨t, fr, hh⟩
  · cases e
theorem arr_of {cs : Array Value} {l : List Value} (h : cs.toList = l) : cs = l.toArray := by rw [← h]

/-- An array of arrays of integers that reads as a table holds its numbers. -/
theorem cells_of_tab3 {H : Type} {enc : TypeId × Value → H} {P : Program} {w : World} {base : Nat} {sp : Nat → Bool} {held : Bool} {fuel : Nat} {t e i : TypeId} {m : Nat} {k : IntKind} {cs : List Value} {z0 z1 z2 : List Int} {p : List MemPlace}
    (ht : P.underlying t = some (.array 3 e)) (he : P.underlying e = some (.array m i)) (hi : P.underlying i = some (.int k)) (hci : P.cellsOf i = 1) (hce : P.cellsOf e = m) (hct : P.cellsOf t = 3 * m)
    (h : DataW.trod enc P w base sp held fuel t cs = some (.agg [Lib.tabData k z0, Lib.tabData k z1, Lib.tabData k z2], p)) : cs = (z0 ++ z1 ++ z2).map fun z => Value.int k z := by
  cases fuel with
  | zero => simp [DataW.trod] at h
  | succ fuel =>
    simp only [DataW.trod, ht, hce, hct] at h
    split at h
    · rename_i hl
      obtain ⟨xs, hm, hx⟩ := Option.map_eq_some_iff.1 h
      have hxs : xs.map (·.1) = [Lib.tabData k z0, Lib.tabData k z1, Lib.tabData k z2] := by
        have := congrArg Prod.fst hx
        simpa using this
      have key : ∀ j z, j < 3 → [Lib.tabData (H := H) k z0, Lib.tabData k z1, Lib.tabData k z2][j]? = some (Lib.tabData k z) → (cs.drop (j * m)).take m = z.map fun z => Value.int k z := by
        intro j z hj hz
        obtain ⟨b, hb, hf⟩ := Lib.mapM_at hm j j (by simp [hj])
        have h2 : (xs.map (·.1))[j]? = some b.1 := by simp [hb]
        rw [hxs, hz] at h2
        obtain ⟨b1, b2⟩ := b
        obtain rfl := Option.some.inj h2
        exact Lib.cells_of_tab he hi hci hce hf
      have e0 := key 0 z0 (by decide) rfl
      have e1 := key 1 z1 (by decide) rfl
      have e2 := key 2 z2 (by decide) rfl
      rw [List.map_append, List.map_append, ← e0, ← e1, ← e2]
      apply List.ext_getElem?
      intro q
      by_cases h0 : q < m
      · rw [List.append_assoc, List.getElem?_append_left (by simp; omega)]
        simp [h0]
      · by_cases h1 : q < 2 * m
        · rw [List.getElem?_append_left (by simp; omega), List.getElem?_append_right (by simp; omega)]
          simp only [List.getElem?_take, List.getElem?_drop, List.length_take, List.length_drop]
          rw [if_pos (by omega)]
          congr 1
          omega
        · by_cases h2 : q < 3 * m
          · rw [List.getElem?_append_right (by simp; omega)]
            simp only [List.getElem?_take, List.getElem?_drop, List.length_take, List.length_drop, List.length_append]
            rw [if_pos (by omega)]
            congr 1
            omega
          · rw [List.getElem?_eq_none (by omega), List.getElem?_eq_none (by simp; omega)]
    · cases h

theorem laidS_vars {W : World} {L : List (String × DataW Unit)} (hL : L = [(tabName 0, Lib.tabData .i64 [20, 20, 30, 30, 30]), (tabName 1, Lib.tabData .i64 [1, 2, 4]), (tabName 2, Lib.tabData .i64 [0, 50, 100]), (tabName 3, .agg [Lib.tabData .i64 [0, 0], Lib.tabData .i64 [100, 200], Lib.tabData .i64 [200, 400]])])
    {ps : List MemPlace} (h : DataW.LaidVars Tryd.prog W L ps) : LaidS W := by
  subst hL
  obtain ⟨g0, t0, c0, f0, p0, q0, hg0, ht0, hv0, hd0, h, -⟩ := h
  obtain ⟨g1, t1, c1, f1, p1, q1, hg1, ht1, hv1, hd1, h, -⟩ := h
  obtain ⟨g2, t2, c2, f2, p2, q2, hg2, ht2, hv2, hd2, h, -⟩ := h
  obtain ⟨g3, t3, c3, f3, p3, q3, hg3, ht3, hv3, hd3, -, -⟩ := h
  have n0 : Tryd.prog.globalNamed (tabName 0) = some 1 := by kernel_rfl
  have n1 : Tryd.prog.globalNamed (tabName 1) = some 2 := by kernel_rfl
  have n2 : Tryd.prog.globalNamed (tabName 2) = some 4 := by kernel_rfl
  have n3 : Tryd.prog.globalNamed (tabName 3) = some 3 := by kernel_rfl
  obtain rfl : 1 = g0 := Option.some.inj (n0.symm.trans hg0)
  obtain rfl : 2 = g1 := Option.some.inj (n1.symm.trans hg1)
  obtain rfl : 4 = g2 := Option.some.inj (n2.symm.trans hg2)
  obtain rfl : 3 = g3 := Option.some.inj (n3.symm.trans hg3)
  obtain rfl : 131 = t0 := Option.some.inj ((show (Tryd.prog.globals[1]?).map (·.type) = some 131 by kernel_rfl).symm.trans ht0)
  obtain rfl : 119 = t1 := Option.some.inj ((show (Tryd.prog.globals[2]?).map (·.type) = some 119 by kernel_rfl).symm.trans ht1)
  obtain rfl : 119 = t2 := Option.some.inj ((show (Tryd.prog.globals[4]?).map (·.type) = some 119 by kernel_rfl).symm.trans ht2)
  obtain rfl : 132 = t3 := Option.some.inj ((show (Tryd.prog.globals[3]?).map (·.type) = some 132 by kernel_rfl).symm.trans ht3)
  obtain rfl := arr_of (Lib.cells_of_tab Tryd.underlying131 Tryd.underlying3 (by kernel_rfl) (by kernel_rfl) hd0)
  obtain rfl := arr_of (Lib.cells_of_tab Tryd.underlying119 Tryd.underlying3 (by kernel_rfl) (by kernel_rfl) hd1)
  obtain rfl := arr_of (Lib.cells_of_tab Tryd.underlying119 Tryd.underlying3 (by kernel_rfl) (by kernel_rfl) hd2)
  obtain rfl := arr_of (cells_of_tab3 Tryd.underlying132 Tryd.underlying27 Tryd.underlying3 (by kernel_rfl) (by kernel_rfl) (by kernel_rfl) hd3)
  exact ⟨var_heap n0 hv0, var_heap n1 hv1, var_heap n3 hv3, var_heap n2 hv2⟩
theorem laid_of {W : World} (h : laidMetH Tryd.prog Rows.adjustTellsRow.laid W) : LaidS W := by
  rw [MakeChecks.laidMetH_plain _ _ _ (by kernel_rfl)] at h
  obtain ⟨ps, hv, -⟩ := h
  exact laidS_vars rfl hv

end Go.Proofs.YtgfnggdjjigomaaDoor
