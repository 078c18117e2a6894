/- Arguments that are twenty bytes, or a table of tricks. -/
import Derived.Test.YtilekdjjfdehcaaDoorParMadeW
import Derived.Test.YtilekdjjfdehcaaDoorOpen
import Derived.Lib.SmallJoins
import Derived.Lib.LaidTab
namespace Go.Proofs.YtilekdjjfdehcaaDoor
open Go.ChangeShapes Go.WideShapes Go.RowKit Go.Deep

theorem okWide_array {P : Program} {w : World} {r : Reach} {base : Nat} {t : TypeId} {v : Value} {n : Nat} {e : TypeId} (ht : P.underlying t = some (.array n e)) (h : Value.okWide P w r base t v) : ∃ cs, v = .agg cs ∧ cs.size = P.cellsOf t := by
  simp only [Value.okWide, ht] at h
  obtain ⟨cs, h1, h2, _⟩ := h
  exact ⟨cs, h1, h2⟩
/-- The cells of an array of integers. -/
theorem arr_cells {H : Type} {enc : TypeId × Value → H} {P : Program} {w : World} {base : Nat} {sp : Nat → Bool} {held : Bool} {fuel : Nat} {t e : TypeId} {n : Nat} {k : IntKind} {cs : List Value} {x : DataW H × List MemPlace}
    (ht : P.underlying t = some (.array n e)) (he : P.underlying e = some (.int k)) (hce : P.cellsOf e = 1) (hct : P.cellsOf t = n)
    (h : DataW.trod enc P w base sp held fuel t cs = some x) : ∀ i, i < n → ∃ z, cs[i]? = some (.int k z) ∧ (Lit.int k z).wf = true := by
  cases fuel with
  | zero => simp [DataW.trod] at h
  | succ fuel =>
    simp only [DataW.trod, ht, hce, hct, Nat.mul_one] at h
    split at h
    · obtain ⟨xs, hm, -⟩ := Option.map_eq_some_iff.1 h
      intro i hi
      obtain ⟨b, hb, hf⟩ := Lib.mapM_at hm i i (by simp [hi])
      obtain ⟨z, hc, -, hw⟩ := DataW.trod_int he hf
      refine ⟨z, ?_, hw⟩
      have := congrArg (·[0]?) hc
      simpa [List.getElem?_take, List.getElem?_drop] using this
    · cases h
/-- The cells of an array of arrays of integers. -/
theorem arr_cells2 {H : Type} {enc : TypeId × Value → H} {P : Program} {w : World} {base : Nat} {sp : Nat → Bool} {held : Bool} {fuel : Nat} {t e i : TypeId} {n m : Nat} {k : IntKind} {cs : List Value} {x : DataW H × List MemPlace}
    (ht : P.underlying t = some (.array n e)) (he : P.underlying e = some (.array m i)) (hi : P.underlying i = some (.int k)) (hci : P.cellsOf i = 1) (hce : P.cellsOf e = m) (hct : P.cellsOf t = n * m)
    (h : DataW.trod enc P w base sp held fuel t cs = some x) : ∀ d s, d < n → s < m → ∃ z, cs[d * m + s]? = some (.int k z) ∧ (Lit.int k z).wf = true := by
  cases fuel with
  | zero => simp [DataW.trod] at h
  | succ fuel =>
    simp only [DataW.trod, ht, hce, hct] at h
    split at h
    · obtain ⟨xs, hm, -⟩ := Option.map_eq_some_iff.1 h
      intro d s hd hs
      obtain ⟨b, hb, hf⟩ := Lib.mapM_at hm d d (by simp [hd])
      obtain ⟨z, hc, hw⟩ := arr_cells he hi hci hce hf s hs
      refine ⟨z, ?_, hw⟩
      rw [List.getElem?_take, if_pos hs, List.getElem?_drop] at hc
      exact hc
    · cases h
/-- The number in a cell. -/
def numC : Option Value → Int
  | some (.int _ z) => z
  | _ => 0
theorem open_bytes20 {H : Type} {enc : TypeId × Value → H} {P : Program} {W : World} {t e : TypeId} {v : Value} {d : DataW H} {ps : List MemPlace} {base : Nat}
    (ht : P.underlying t = some (.array 20 e)) (he : P.underlying e = some (.int .u8)) (hce : P.cellsOf e = 1) (hct : P.cellsOf t = 20)
    (hval : Value.okWide P W .any base t v) (h : DataW.Trod enc P W 0 (fun _ => true) true t v d ps) : ∃ A l, v = .agg A ∧ BytC A l := by
  obtain ⟨cs, rfl, hsz⟩ := okWide_array ht hval
  rw [hct] at hsz
  obtain ⟨fuel, hf⟩ := h
  have hc := arr_cells ht he hce hct hf
  refine ⟨cs, fun i => numC cs[i]?, rfl, hsz, fun i hi => ?_⟩
  obtain ⟨z, hz, hw⟩ := hc i hi
  have hz : cs[i]? = some (.int .u8 z) := by simpa [Value.cells] using hz
  have hn : numC cs[i]? = z := by rw [hz]; rfl
  show cs[i]? = some (.int .u8 (numC cs[i]?)) ∧ 0 ≤ numC cs[i]? ∧ numC cs[i]? ≤ 255
  rw [hn]
  exact ⟨hz, bounds_u8 hw⟩
theorem open_table {H : Type} {enc : TypeId × Value → H} {P : Program} {W : World} {t e i : TypeId} {v : Value} {d : DataW H} {ps : List MemPlace} {base : Nat}
    (ht : P.underlying t = some (.array 5 e)) (he : P.underlying e = some (.array 4 i)) (hi : P.underlying i = some (.int .i64)) (hci : P.cellsOf i = 1) (hce : P.cellsOf e = 4) (hct : P.cellsOf t = 20)
    (hval : Value.okWide P W .any base t v) (h : DataW.Trod enc P W 0 (fun _ => true) true t v d ps) : ∃ C T, v = .agg C ∧ TabC C T ∧ ∀ d s, d < 5 → s < 4 → -9223372036854775808 ≤ T d s ∧ T d s ≤ 9223372036854775807 := by
  obtain ⟨cs, rfl, hsz⟩ := okWide_array ht hval
  rw [hct] at hsz
  obtain ⟨fuel, hf⟩ := h
  have hc := arr_cells2 ht he hi hci hce hct hf
  have key : ∀ d s, d < 5 → s < 4 → cs[d * 4 + s]? = some (.int .i64 (numC cs[d * 4 + s]?)) ∧ -9223372036854775808 ≤ numC cs[d * 4 + s]? ∧ numC cs[d * 4 + s]? ≤ 9223372036854775807 := fun d s hd hs => by
    obtain ⟨z, hz, hw⟩ := hc d s hd hs
    have hz : cs[d * 4 + s]? = some (.int .i64 z) := by simpa [Value.cells] using hz
    have hn : numC cs[d * 4 + s]? = z := by rw [hz]; rfl
    rw [hn]
    exact ⟨hz, bounds_i64 hw⟩
  exact ⟨cs, fun d s => numC cs[d * 4 + s]?, rfl, ⟨hsz, fun d s hd hs => (key d s hd hs).1⟩, fun d s hd hs => (key d s hd hs).2⟩

end Go.Proofs.YtilekdjjfdehcaaDoor
