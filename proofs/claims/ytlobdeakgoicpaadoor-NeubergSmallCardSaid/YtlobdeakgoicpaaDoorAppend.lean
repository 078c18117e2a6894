/- append onto a slice of the call's own, whatever the source: nil, empty, or not. No program stands in this text. -/
import Derived.Test.YtlobdeakgoicpaaDoorBase
import Derived.Maps.AppendAt
import Derived.Laws.AppendOwnNone
namespace Go.Proofs.YtlobdeakgoicpaaDoor
open Go.RowKit

theorem Rd.pre {w : World} {B sz n : Nat} {A : Option Addr} {xs : List Value} (h : Rd w B sz A n xs) {k : Nat} (hk : k ≤ n) : Rd w B sz A k (xs.take (k * sz)) := by
  have hle : k * sz ≤ n * sz := Nat.mul_le_mul_right _ hk
  refine ⟨by rw [List.length_take, h.1]; omega, fun hk0 => ?_⟩
  obtain ⟨b, off, e, hb, hc⟩ := h.2 (by omega)
  refine ⟨b, off, e, hb, fun j hj => ?_⟩
  rw [List.length_take, h.1] at hj
  rw [List.getElem?_take, if_pos (by omega)]
  exact hc j (by rw [h.1]; omega)
/-- A nil slice has no capacity. -/
theorem own_src {w : World} {base : Nat} {e : TypeId} {sz : Nat} {A : Option Addr} {n c : Nat} {xs : List Value} (h : w.ownsRow base e sz (.slice A n c) n xs) : A = none → c = 0 := by
  rintro rfl
  rcases h.2 with ⟨hv, _⟩ | ⟨g, cap, cur, hv, _⟩
  · injection hv
  · injection hv with h1; cases h1

/-- A new slice without elements. -/
theorem own_empty (w : World) (e sz m : Nat) (h : m = w.heap.size) : (w.alloc (.cells #[] e)).ownsRow m e sz (.slice (some ⟨m, 0, none⟩) 0 0) 0 [] := by
  subst h
  exact ⟨by simp, .inr ⟨w.heap.size, 0, #[], rfl, Nat.le_refl _, heap_alloc_new w _, Nat.le_refl _, by unfold maxLen; omega, by simp, by simp⟩⟩

/-- A block that holds cells reads as them. -/
theorem rd_of_blk {w : World} {g t n : Nat} {cur : Array Value} {fr : Nat × Nat} {xs : List Value} {sz : Nat} (h : w.heap[g]? = some (.cells cur t fr)) (hx : cur.toList.take (n * sz) = xs) (hl : xs.length = n * sz) : Rd w w.heap.size sz (some ⟨g, 0, none⟩) n xs := by
  refine ⟨hl, fun _ => ⟨g, 0, rfl, blk_lt h, fun j hj => ?_⟩⟩
  rw [Nat.zero_add, blk_cell h j, ← hx, List.getElem?_take, if_pos (by omega)]
  simp
theorem take_set_ (cur : Array Value) (m k : Nat) (v : Value) : (cur.setIfInBounds k v).toList.take m = (cur.toList.take m).set k v := by
  rw [Array.toList_setIfInBounds, List.take_set]

section
variable {P : Program} {w : World}
theorem wpList_append_src {ops : Array Oper} {rest : List Oper} {o : Oper} {a : Act} {Q : Exit → Act → World → Prop} (hgd : o.guard = none) (s x : Operand) (t : TypeId)
    (ho : o.op = .call { callee := .builtin .append, args := #[s, x], argTypes := #[t, t] })
    (base : Nat) (e : TypeId) (i : TypeInfo) (z : Value) (size bytes : Nat) (ht : P.underlying t = some (.slice e)) (hi : P.info? e = some i) (hz : i.zero = some z)
    (hsize : i.size = size) (hby : i.bytes = bytes) (hzs : z.cells.size = size) (hsz : 0 < size)
    (v : Value) (n : Nat) (xs : List Value) (hs : a.eval s = v) (hown : w.ownsRow base e size v n xs)
    (A : Option Addr) (m c B : Nat) (news : List Value) (hx : a.eval x = .slice A m c) (hrd : Rd w B size A m news) (hA : A = none → c = 0) (h1 : ∀ u ∈ news, u.oneCell' = true)
    (h63 : n + m ≤ maxLen) (hbytes : (n + m) * bytes ≤ 140737488355328) (hbase : base ≤ w.heap.size)
    (h : ∀ v' w', w'.ownsRow base e size v' (n + m) (xs ++ news) → w.grownBy w' v.ownBlock → (v'.ownBlock = v.ownBlock ∨ v'.ownBlock = some w.heap.size) → wpList P ops Q rest (a.put o.dst v') w') :
    wpList P ops Q (o :: rest) a w := by
  cases A with
  | none =>
    have hc := hA rfl
    subst hc
    have hm : m = 0 := by
      rcases Nat.eq_zero_or_pos m with h0 | h0
      · exact h0
      · obtain ⟨b, off, he, _⟩ := hrd.2 h0
        cases he
    subst hm
    have hn : news = [] := List.eq_nil_of_length_eq_zero (by simpa using hrd.1)
    subst hn
    exact wpList_append_own_none hgd s x t ho base e i size ht hi v n xs hs hown hx (h v w (by simpa using hown) ⟨rfl, rfl, rfl, Nat.le_refl _, fun _ _ _ => rfl⟩ (.inl rfl))
  | some ad =>
    refine wpList_append_own_at w hgd s x t ho base e i z size bytes ht hi hz hsize hby hzs hsz v n xs hs hown ad m c news hx hrd.1 ?_ h1 h63 hbytes hbase (fun v' w' h2 h3 _ h5 => h v' w' h2 h3 h5)
    intro j u hj
    have hjl := (List.getElem?_eq_some_iff.1 hj).1
    have hm : 0 < m := by
      rcases Nat.eq_zero_or_pos m with h0 | h0
      · rw [hrd.1, h0] at hjl; omega
      · exact h0
    obtain ⟨b, off, he, _, hc⟩ := hrd.2 hm
    obtain rfl := Option.some.inj he
    have := (hc j hjl).trans hj
    unfold Addr.add
    split
    · rename_i h0; subst h0; simpa using this
    · exact this
end

end Go.Proofs.YtlobdeakgoicpaaDoor
