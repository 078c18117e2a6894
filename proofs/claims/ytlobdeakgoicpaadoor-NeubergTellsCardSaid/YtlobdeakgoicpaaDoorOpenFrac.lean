/- An argument that is a struct of two integers. No program stands in this text. -/
import Derived.Test.YtlobdeakgoicpaaDoorOpenRows
import Derived.Lib.SmallJoins
namespace Go.Proofs.YtlobdeakgoicpaaDoor
open Go.ChangeShapes Go.WideShapes Go.RowKit Go.Deep

theorem open_frac {H : Type} {enc : TypeId × Value → H} {P : Program} {W : World} {t : TypeId} {k0 k1 : IntKind} {f0 f1 : Field} {v : Value} {d : DataW H} {ps : List MemPlace} {base : Nat}
    (ht : P.underlying t = some (.struct #[f0, f1])) (hone : oneCellFields P #[f0, f1] = true) (hC : P.cellsOf t = 2)
    (h0 : P.underlying f0.type = some (.int k0)) (h1 : P.underlying f1.type = some (.int k1))
    (hval : Value.okWide P W .any base t v) (h : DataW.Trod enc P W 0 (fun _ => true) true t v d ps) :
    ∃ (x y : Int), v = .agg #[.int k0 x, .int k1 y] ∧ (Lit.int k0 x).wf = true ∧ (Lit.int k1 y).wf = true := by
  obtain ⟨v0, v1, y0, y1, n, rfl, _, _, g0, g1⟩ := Joins.open_agg2 ht hone hC hval h
  obtain ⟨x, e0, _, wx⟩ := DataW.trod_int h0 g0
  obtain ⟨y, e1, _, wy⟩ := DataW.trod_int h1 g1
  simp at e0 e1
  subst e0 e1
  exact ⟨x, y, rfl, wx, wy⟩

end Go.Proofs.YtlobdeakgoicpaaDoor
