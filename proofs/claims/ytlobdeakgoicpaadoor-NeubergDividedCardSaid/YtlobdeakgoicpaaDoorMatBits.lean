/- Small facts of rows and blocks. -/
import Derived.Test.YtlobdeakgoicpaaDoorMatOwn
namespace Go.Proofs.YtlobdeakgoicpaaDoor
open Go.RowKit

theorem info_res : (Tryd.prog.info? 35).map (fun i => (i.zero, i.size, i.bytes)) = some (some (.slice none 0 0), 1, 24) := by kernel_rfl
/-- A block of parts, known whole, reads as them. -/
theorem rd_parts {w : World} {g t n : Nat} {cs : Array Value} {l : List Pt} (h : w.heap[g]? = some (.cells cs t (0, 0))) (hc : cs.toList = pC l) (hn : n = l.length) : Rd w w.heap.size 2 (some ⟨g, 0, none⟩) n (pC l) := by
  subst hn
  exact rd_of_blk h (by rw [hc, List.take_of_length_le (by rw [pC_len]; exact Nat.le_refl _)]) (pC_len l)

/-- A row of the call's own with elements starts at the head of a block. -/
theorem own_at' {w : World} {base n : Nat} {e sz : Nat} {v : Value} {xs : List Value} (h : w.ownsRow base e sz v n xs) (hn : 0 < n) : ∃ g c, v = .slice (some ⟨g, 0, none⟩) n c := by
  rcases h.2 with ⟨_, h0⟩ | ⟨g, cap, cur, rfl, _⟩
  · omega
  · exact ⟨g, cap, rfl⟩

end Go.Proofs.YtlobdeakgoicpaaDoor
