/- Arguments that are slices of integers, opened to the words of these walks. No program stands in this text. -/
import Derived.Test.YtlobdeakgoicpaaDoorBase
import Derived.ProofKit
import Derived.OpenShut
namespace Go.Proofs.YtlobdeakgoicpaaDoor
open Go.ChangeShapes Go.WideShapes Go.RowKit

theorem cell_lt {w : World} {b o : Nat} {v : Value} (h : w.cell? ⟨b, o, none⟩ = some v) : b < w.heap.size := by
  rcases Nat.lt_or_ge b w.heap.size with hlt | hge
  · exact hlt
  · simp [World.cell?, Array.getElem?_eq_none hge] at h

theorem open_int_slice {H : Type} {enc : TypeId × Value → H} {P : Program} {W : World} {t e : TypeId} {k : IntKind} {v : Value} {d : DataW H} {ps : List MemPlace} {base : Nat}
    (ht : P.underlying t = some (.slice e)) (he : P.underlying e = some (.int k)) (hc : P.cellsOf e = 1) (hval : Value.okWide P W .any base t v) (h : DataW.Trod enc P W 0 (fun _ => true) true t v d ps) :
    ∃ (A : Option Addr) (c : Nat) (u : List Int), v = .slice A u.length c ∧ Rd W W.heap.size 1 A u.length (u.map (Value.int k)) ∧ (∀ x ∈ u, (Lit.int k x).wf = true) ∧ u.length ≤ c ∧ c ≤ 9223372036854775807 := by
  obtain ⟨a0, len, cap, rfl⟩ := okWide_slice ht hval
  obtain ⟨fuel, hf⟩ := h
  rcases open_ints ht he hc hf with ⟨hcs, _⟩ | ⟨a, len', cap', zs, hcs, _, hl, hm, hz, _, hcell, hwf⟩
  · simp [Value.cells] at hcs
    obtain ⟨rfl, rfl, rfl⟩ := hcs
    exact ⟨none, 0, [], rfl, Rd.nil_, by simp, by simp, by omega⟩
  · simp [Value.cells] at hcs
    obtain ⟨rfl, rfl, rfl⟩ := hcs
    rw [if_pos rfl] at hz
    have hul : (zs.take len).length = len := by rw [List.length_take]; omega
    refine ⟨some a, cap, zs.take len, by rw [hul], ?_, fun x hx => hwf x (List.mem_of_mem_take hx), by rw [hul]; exact hl, by unfold maxLen at hm; omega⟩
    rw [hul]
    refine ⟨by rw [List.length_map, hul]; omega, fun hn => ?_⟩
    obtain ⟨b, off, rfl, hat⟩ := ints_at hcell (by omega)
    refine ⟨b, off, rfl, cell_lt (hat 0 (by omega)), fun j hj => ?_⟩
    have hj' : j < len := by rw [List.length_map, hul] at hj; exact hj
    rw [hat j (by omega), List.getElem?_map, List.getElem?_take, if_pos hj']
    simp [List.getD, List.getElem?_eq_getElem (show j < zs.length by omega)]

end Go.Proofs.YtlobdeakgoicpaaDoor
