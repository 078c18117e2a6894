/- Rows of slices that read as results. -/
import Derived.Test.YtlobdeakgoicpaaDoorMatOwn
namespace Go.Proofs.YtlobdeakgoicpaaDoor
open Go.RowKit

/-- A row of slices reads as results. -/
def RowOf (W : World) (xs : List Value) (L : List (List Pt)) : Prop :=
  xs.length = L.length ∧ ∀ k (h : k < L.length), ∃ Ak ck, xs[k]? = some (.slice Ak (L[k]).length ck) ∧ (Ak = none → ck = 0) ∧ Rd W W.heap.size 2 Ak (L[k]).length (pC L[k])
theorem RowOf.go {W W' : World} {xs : List Value} {L : List (List Pt)} (h : RowOf W xs L) (hb : Below W.heap.size W W') : RowOf W' xs L :=
  ⟨h.1, fun k hk => by obtain ⟨Ak, ck, h1, h2, h3⟩ := h.2 k hk; exact ⟨Ak, ck, h1, h2, h3.go hb⟩⟩
theorem RowOf.snoc {W : World} {xs : List Value} {L : List (List Pt)} {A : Option Addr} {c : Nat} {r : List Pt} (h : RowOf W xs L) (hA : A = none → c = 0) (hr : Rd W W.heap.size 2 A r.length (pC r)) : RowOf W (xs ++ [.slice A r.length c]) (L ++ [r]) :=
  ⟨by rw [List.length_append, List.length_append, h.1]; rfl, fun k hk => by
    rw [List.length_append] at hk
    by_cases hlt : k < L.length
    · obtain ⟨Ak, ck, h1, h2, h3⟩ := h.2 k hlt
      rw [List.getElem_append_left hlt, List.getElem?_append_left (by rw [h.1]; exact hlt)]
      exact ⟨Ak, ck, h1, h2, h3⟩
    · obtain rfl : k = L.length := by simp at hk; omega
      rw [List.getElem_append_right (Nat.le_refl _), List.getElem?_append_right (by rw [h.1]; exact Nat.le_refl _), h.1]
      simp only [Nat.sub_self, List.getElem_cons_zero, List.getElem?_cons_zero]
      exact ⟨A, c, rfl, hA, hr⟩⟩
theorem RowOf.nil_ {W : World} : RowOf W [] [] := ⟨rfl, fun k hk => by simp at hk⟩
theorem RowOf.rdl {W : World} {base e n c : Nat} {A : Option Addr} {xs : List Value} {L : List (List Pt)} (h : RowOf W xs L) (ho : W.ownsRow base e 1 (.slice A n c) n xs) (hn : n = L.length) : RdL W W.heap.size A L := fun k hk => by
  have hr := Rd.of_own ho
  obtain ⟨b, off, e1, e2, e3⟩ := hr.pos (by omega)
  obtain ⟨Aj, cj, h1, h2, h3⟩ := h.2 k hk
  exact ⟨b, off, Aj, cj, e1, e2, (e3 k (by rw [h.1]; exact hk)).trans h1, h2, h3⟩
theorem RowOf.blk {W : World} {g t : Nat} {cs : Array Value} {xs : List Value} {L : List (List Pt)} (h : RowOf W xs L) (hg : W.heap[g]? = some (.cells cs t (0, 0))) (hc : cs.toList = xs) : RdL W W.heap.size (some ⟨g, 0, none⟩) L := fun k hk => by
  obtain ⟨Aj, cj, h1, h2, h3⟩ := h.2 k hk
  refine ⟨g, 0, Aj, cj, rfl, blk_lt hg, ?_, h2, h3⟩
  rw [Nat.zero_add, blk_cell hg k, ← h1, ← hc]
  simp

end Go.Proofs.YtlobdeakgoicpaaDoor
