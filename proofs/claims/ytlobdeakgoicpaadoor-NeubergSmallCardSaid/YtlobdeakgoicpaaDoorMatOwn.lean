/- Rows of slices that the call itself makes: each of them a row of its own. No walk stands in this text. Small facts of rows and blocks. -/
import Derived.Test.YtlobdeakgoicpaaDoorMatW
namespace Go.Proofs.YtlobdeakgoicpaaDoor
open Go.RowKit

/-! ### Rows of slices that the call itself makes: each of them a row of its own. No walk stands in this text. -/
/-- The outer row v has the slices xs; each of them is a row of the call's own, apart from v, and reads as one of the results L. -/
def OwnL (w : World) (base e : Nat) (v : Value) (xs : List Value) (L : List (List Pt)) : Prop :=
  xs.length = L.length ∧ ∀ j (h : j < L.length), ∃ Aj cj, xs[j]? = some (.slice Aj (L[j]).length cj) ∧ (Aj = none → cj = 0) ∧ w.ownsRow base e 2 (.slice Aj (L[j]).length cj) (L[j]).length (pC L[j]) ∧ apart2 v (.slice Aj (L[j]).length cj)
theorem OwnL.nil_ {w : World} {base e : Nat} {v : Value} : OwnL w base e v [] [] := ⟨rfl, fun j h => by simp at h⟩
theorem OwnL.below {w w' : World} {base e : Nat} {v : Value} {xs : List Value} {L : List (List Pt)} (h : OwnL w base e v xs L) (hb : Below w.heap.size w w') : OwnL w' base e v xs L :=
  ⟨h.1, fun j hj => by
    obtain ⟨Aj, cj, h1, h2, h3, h4⟩ := h.2 j hj
    exact ⟨Aj, cj, h1, h2, own_below h3 hb (Nat.le_refl _), h4⟩⟩
/-- An append onto the outer row keeps the rows. -/
theorem OwnL.kept {W W' : World} {base e : Nat} {v v' : Value} {xs : List Value} {L : List (List Pt)} {H : Nat} (h : OwnL W base e v xs L) (hg : W.grownBy W' v.ownBlock) (hat : v'.ownBlock = v.ownBlock ∨ v'.ownBlock = some H) (hH : H = W.heap.size) : OwnL W' base e v' xs L :=
  ⟨h.1, fun j hj => by
    obtain ⟨Aj, cj, h1, h2, h3, h4⟩ := h.2 j hj
    obtain ⟨h5, h6⟩ := own_two h3 hg h4 (hH ▸ hat)
    exact ⟨Aj, cj, h1, h2, h5, h6⟩⟩
theorem OwnL.snoc {w : World} {base e c : Nat} {v : Value} {A : Option Addr} {xs : List Value} {L : List (List Pt)} {r : List Pt} (h : OwnL w base e v xs L) (hA : A = none → c = 0) (ho : w.ownsRow base e 2 (.slice A r.length c) r.length (pC r)) (hap : apart2 v (.slice A r.length c)) :
    OwnL w base e v (xs ++ [.slice A r.length c]) (L ++ [r]) :=
  ⟨by simp [h.1], fun j hj => by
    rw [List.length_append] at hj
    by_cases hlt : j < L.length
    · obtain ⟨Aj, cj, h1, h2, h3, h4⟩ := h.2 j hlt
      rw [List.getElem_append_left hlt]
      exact ⟨Aj, cj, by rw [List.getElem?_append_left (by rw [h.1]; exact hlt)]; exact h1, h2, h3, h4⟩
    · obtain rfl : j = L.length := by simp at hj; omega
      simp only [List.getElem_append_right (Nat.le_refl _), Nat.sub_self, List.getElem_cons_zero]
      exact ⟨A, c, by rw [List.getElem?_append_right (by rw [h.1]; exact Nat.le_refl _), h.1]; simp, hA, ho, hap⟩⟩
/-- A row that a later call made is apart from an older one. -/
theorem apart_new {W W' : World} {base base' e e' sz sz' n n' : Nat} {v v' : Value} {xs ys : List Value} (h : W.ownsRow base e sz v n xs) (h' : W'.ownsRow base' e' sz' v' n' ys) (hb : W.heap.size ≤ base') : apart2 v v' := fun g h1 h2 => by
  have := (h.lt g h1).2
  have := (h'.lt g h2).1
  omega
/-- What the call owns it may read. -/
theorem rdl_of_own {w : World} {base base' e e' : Nat} {A : Option Addr} {c : Nat} {xs : List Value} {L : List (List Pt)} (ho : w.ownsRow base' e' 1 (.slice A L.length c) L.length xs) (h : OwnL w base e (.slice A L.length c) xs L) : RdL w w.heap.size A L := fun k hk => by
  have hr := Rd.of_own ho
  obtain ⟨b, off, e1, e2, e3⟩ := hr.pos (by omega)
  obtain ⟨Aj, cj, h1, h2, h3, _⟩ := h.2 k hk
  exact ⟨b, off, Aj, cj, e1, e2, (e3 k (by rw [h.1]; exact hk)).trans h1, h2, Rd.of_own h3⟩

/-! ### Small facts of rows and blocks. -/
theorem info_res : (Tryd.prog.info? 35).map (fun i => (i.zero, i.size, i.bytes)) = some (some (.slice none 0 0), 1, 24) := by kernel_rfl
/-- A block of parts, known whole, reads as them. -/
theorem rd_parts {w : World} {g t n : Nat} {cs : Array Value} {l : List Pt} (h : w.heap[g]? = some (.cells cs t (0, 0))) (hc : cs.toList = pC l) (hn : n = l.length) : Rd w w.heap.size 2 (some ⟨g, 0, none⟩) n (pC l) := by
  subst hn
  exact rd_of_blk h (by rw [hc, List.take_of_length_le (by rw [pC_len]; exact Nat.le_refl _)]) (pC_len l)

/-- A row of the call's own with elements starts at the head of a block. -/
theorem own_at' {w : World} {base n : Nat} {e sz : Nat} {v : Value} {xs : List Value} (h : w.ownsRow base e sz v n xs) (hn : 0 < n) : ∃ g c, v = .slice (some ⟨g, 0, none⟩) n c := by
  rcases h.2 with ⟨_, h0⟩ | ⟨g, cap, cur, rfl, _⟩
  · omega
  · exact ⟨g, cap, rfl⟩

end Go.Proofs.YtlobdeakgoicpaaDoor
