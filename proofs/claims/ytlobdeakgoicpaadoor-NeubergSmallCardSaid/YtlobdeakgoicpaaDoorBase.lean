/- Small general facts for the walks of this seat: reading arrays by index, slices that read as lists, lists. No program stands in this text. -/
import Derived.WalkKit
import Derived.Lib.Hide
import Derived.Deep.Draws
import Derived.WalkSpells
import Derived.WalkLawsBesides
namespace Go.Proofs.YtlobdeakgoicpaaDoor
open Go.RowKit

section idx
variable {P : Program} {w : World}
/-- An array value of one-cell parts, read at an index inside its bounds. -/
theorem run_index_one (t e n : Nat) (cs : Array Value) (k : IntKind) (j : Nat) (v : Value) (h : P.underlying t = some (.array n e)) (hs : (P.info? e).map (·.size) = some 1)
    (ha : ∀ w, (isAgg e).run P w = .ok false w) (hc : cs[j]? = some v) (hj : j < n) :
    (Instr.index t (.agg cs) (.int k (j : Int))).run P w = .ok v w := by
  obtain ⟨i, hi, hi1⟩ := Option.map_eq_some_iff.1 hs
  simp [Instr.index, asIntOf, run_underlying h, hj, sizeOf, typeInfo, hi, hi1, part, ha, hc]
/-- An array value of wider parts, read at an index inside its bounds. -/
theorem run_index_agg (t e n m : Nat) (cs : Array Value) (k : IntKind) (j : Nat) (h : P.underlying t = some (.array n e)) (hs : (P.info? e).map (·.size) = some m)
    (ha : ∀ w, (isAgg e).run P w = .ok true w) (hj : j < n) :
    (Instr.index t (.agg cs) (.int k (j : Int))).run P w = .ok (.agg (cs.extract (j * m) (j * m + m))) w := by
  obtain ⟨i, hi, hi1⟩ := Option.map_eq_some_iff.1 hs
  simp [Instr.index, asIntOf, run_underlying h, hj, sizeOf, typeInfo, hi, hi1, part, ha]
end idx

/-! ### A slice that reads as a list of cells -/

/-- The slice value with address A and length n, of elements of sz cells, reads as the cells xs; its cells lie in blocks below B. -/
def Rd (w : World) (B sz : Nat) (A : Option Addr) (n : Nat) (xs : List Value) : Prop :=
  xs.length = n * sz ∧ (0 < n → ∃ b off, A = some ⟨b, off, none⟩ ∧ b < B ∧ ∀ j, j < xs.length → w.cell? ⟨b, off + j, none⟩ = xs[j]?)

section rd
variable {w w' : World} {B B' sz n : Nat} {A : Option Addr} {xs : List Value}
theorem Rd.nil_ : Rd w B sz A 0 [] := ⟨by simp, fun h => absurd h (by omega)⟩
theorem Rd.len (h : Rd w B sz A n xs) : xs.length = n * sz := h.1
theorem Rd.pos (h : Rd w B sz A n xs) (hn : 0 < n) : ∃ b off, A = some ⟨b, off, none⟩ ∧ b < B ∧ ∀ j, j < xs.length → w.cell? ⟨b, off + j, none⟩ = xs[j]? := h.2 hn
theorem Rd.keep (h : Rd w B sz A n xs) (hk : ∀ b o, b < B → w'.cell? ⟨b, o, none⟩ = w.cell? ⟨b, o, none⟩) : Rd w' B sz A n xs :=
  ⟨h.1, fun hn => by
    obtain ⟨b, off, e, hb, hc⟩ := h.2 hn
    exact ⟨b, off, e, hb, fun j hj => (hk _ _ hb).trans (hc j hj)⟩⟩
theorem Rd.more (h : Rd w B sz A n xs) (hB : B ≤ B') : Rd w B' sz A n xs :=
  ⟨h.1, fun hn => by
    obtain ⟨b, off, e, hb, hc⟩ := h.2 hn
    exact ⟨b, off, e, by omega, hc⟩⟩
theorem Rd.below (h : Rd w B sz A n xs) (hb : Below B w w') : Rd w' B sz A n xs := h.keep fun b o hp => hb.cell (p := ⟨b, o, none⟩) hp
theorem Rd.alloc (h : Rd w B sz A n xs) (hB : B ≤ w.heap.size) (o : Obj) : Rd (w.alloc o) B sz A n xs := h.below ((Below.refl _ _).alloc hB o)
theorem Rd.drew (h : Rd w B sz A n xs) : Rd w.drew B sz A n xs := h
theorem Rd.drewN (h : Rd w B sz A n xs) (k : Nat) : Rd (w.drewN k) B sz A n xs := h
theorem Rd.setCell (h : Rd w B sz A n xs) {p : Addr} (hB : B ≤ p.block) (u : Value) : Rd (w.setCell p u) B sz A n xs := h.below ((Below.refl _ _).setCell hB u)
theorem Rd.grown (h : Rd w B sz A n xs) {row : Option Nat} (hg : w.grownBy w' row) (hB : B ≤ w.heap.size) (hr : ∀ g, row = some g → B ≤ g) : Rd w' B sz A n xs :=
  h.below ((Below.refl _ _).grown hg hB hr)
/-- What the call owns, it may read. -/
theorem Rd.of_own {base : Nat} {e : TypeId} {c : Nat} (h : w.ownsRow base e sz (.slice A n c) n xs) : Rd w w.heap.size sz A n xs := by
  obtain ⟨h1, h2⟩ := h
  refine ⟨h1, fun hn => ?_⟩
  rcases h2 with ⟨_, h0⟩ | ⟨g, cap, cur, hv, _, hh, hnc, _, hcs, hx⟩
  · omega
  have hA : A = some ⟨g, 0, none⟩ := by injection hv
  have hlt : g < w.heap.size := by
    rcases Nat.lt_or_ge g w.heap.size with hlt | hge
    · exact hlt
    · rw [Array.getElem?_eq_none hge] at hh; cases hh
  refine ⟨g, 0, hA, hlt, fun j hj => ?_⟩
  have hjn : j < n * sz := by omega
  rw [← hx, List.getElem?_take, if_pos hjn, Nat.zero_add]
  simp [World.cell?, hh]
end rd

/-! ### What the call owns -/
theorem own_mono {w : World} {base base' : Nat} {e : TypeId} {sz : Nat} {v : Value} {n : Nat} {xs : List Value} (h : w.ownsRow base e sz v n xs) (hb : base' ≤ base) : w.ownsRow base' e sz v n xs := by
  refine ⟨h.1, ?_⟩
  rcases h.2 with h2 | ⟨g, cap, cur, h1, h2, h3⟩
  · exact .inl h2
  · exact .inr ⟨g, cap, cur, h1, by omega, h3⟩
theorem own_nil {w : World} {base : Nat} {e : TypeId} {sz : Nat} : w.ownsRow base e sz (.slice none 0 0) 0 [] := ⟨by simp, .inl ⟨rfl, rfl⟩⟩
/-- A new row without elements, with room for some. -/
theorem own_room (w : World) (cs : Array Value) (e sz cap m : Nat) (hm : m = w.heap.size) (hcap : cap ≤ maxLen) (hcs : cs.size = cap * sz) : (w.alloc (.cells cs e)).ownsRow m e sz (.slice (some ⟨m, 0, none⟩) 0 cap) 0 [] := by
  subst hm
  exact ⟨by simp, .inr ⟨w.heap.size, cap, cs, rfl, Nat.le_refl _, heap_alloc_new w _, Nat.zero_le _, hcap, hcs, by simp⟩⟩
theorem own_below {w w' : World} {B base : Nat} {e : TypeId} {sz : Nat} {v : Value} {n : Nat} {xs : List Value} (h : w.ownsRow base e sz v n xs) (hb : Below B w w') (hB : w.heap.size ≤ B) : w'.ownsRow base e sz v n xs := by
  refine ⟨h.1, ?_⟩
  rcases h.2 with h2 | ⟨g, cap, cur, h1, h2, h3, h4⟩
  · exact .inl h2
  · have hlt : g < w.heap.size := by
      rcases Nat.lt_or_ge g w.heap.size with hlt | hge
      · exact hlt
      · rw [Array.getElem?_eq_none hge] at h3; cases h3
    exact .inr ⟨g, cap, cur, h1, h2, (hb.block g (by omega)).trans h3, h4⟩
theorem own_form {w : World} {base : Nat} {e : TypeId} {sz : Nat} {v : Value} {n : Nat} {xs : List Value} (h : w.ownsRow base e sz v n xs) : ∃ A c, v = .slice A n c := by
  rcases h.2 with ⟨rfl, rfl⟩ | ⟨g, cap, cur, rfl, _⟩
  · exact ⟨_, _, rfl⟩
  · exact ⟨_, _, rfl⟩

/-- Two slices of the call's own that do not share a block. -/
def apart2 (v1 v2 : Value) : Prop := ∀ g, v1.ownBlock = some g → v2.ownBlock ≠ some g
theorem apart2.symm_ {v1 v2 : Value} (h : apart2 v1 v2) : apart2 v2 v1 := fun g h1 h2 => h g h2 h1
theorem apart2.nil_ {v : Value} : apart2 (.slice none 0 0) v := fun g h => by simp [Value.ownBlock] at h
theorem own_two {W W' : World} {base e2 sz2 n2 : Nat} {v1 v1' v2 : Value} {xs2 : List Value} (h2 : W.ownsRow base e2 sz2 v2 n2 xs2) (hg : W.grownBy W' v1.ownBlock) (hap : apart2 v1 v2)
    (hat : v1'.ownBlock = v1.ownBlock ∨ v1'.ownBlock = some W.heap.size) : W'.ownsRow base e2 sz2 v2 n2 xs2 ∧ apart2 v1' v2 := by
  constructor
  · refine h2.kept hg ?_
    cases hb : v2.ownBlock with
    | none => exact .inl rfl
    | some g => exact .inr fun e => hap g e.symm hb
  · intro g hg1 hg2
    rcases hat with h | h
    · exact hap g (h ▸ hg1) hg2
    · have := (h2.lt g hg2).2
      rw [h] at hg1
      have := Option.some.inj hg1
      omega

theorem below_drewN {B : Nat} {a w : World} (h : Below B a w) (n : Nat) : Below B a (w.drewN n) := ⟨h.os, h.tape, h.output, h.size, h.block⟩

/-! ### A block known whole -/
theorem blk_lt {w : World} {g t : Nat} {cs : Array Value} {fr : Nat × Nat} (h : w.heap[g]? = some (.cells cs t fr)) : g < w.heap.size := by
  rcases Nat.lt_or_ge g w.heap.size with hlt | hge
  · exact hlt
  · rw [Array.getElem?_eq_none hge] at h; cases h
theorem blk_new {w : World} {n : Nat} (o : Obj) (h : n = w.heap.size) : (w.alloc o).heap[n]? = some o := by subst h; exact heap_alloc_new w o
theorem cell_one_at (w : World) (v : Value) (t m : Nat) (h : m = w.heap.size) : ∀ (j : Nat) (u : Value), [v][j]? = some u → (w.alloc (.cells #[v] t)).cell? ((⟨m, 0, none⟩ : Addr).add j) = some u := by
  subst h; exact cell_one_new w v t
theorem blk_cell {w : World} {g t : Nat} {cs : Array Value} {fr : Nat × Nat} (h : w.heap[g]? = some (.cells cs t fr)) (i : Nat) : w.cell? ⟨g, i, none⟩ = cs[i]? := by simp [World.cell?, h]
theorem cells_new_at (w : World) (vs : Array Value) (t m : Nat) (h : m = w.heap.size) : ∀ (j : Nat) (u : Value), vs.toList[j]? = some u → (w.alloc (.cells vs t)).cell? ((⟨m, 0, none⟩ : Addr).add j) = some u := by
  subst h
  intro j u hu
  have key : (w.alloc (.cells vs t)).cell? ⟨w.heap.size, j, none⟩ = some u := (blk_cell (heap_alloc_new w _) j).trans (by simpa using hu)
  unfold Addr.add
  split
  · rename_i h0; subst h0; exact key
  · show (w.alloc (.cells vs t)).cell? ⟨w.heap.size, 0 + j, none⟩ = _
    rw [Nat.zero_add]; exact key
theorem blk_free {w : World} {g t : Nat} {cs : Array Value} (h : w.heap[g]? = some (.cells cs t (0, 0))) (i : Nat) : w.frozen? ⟨g, i, none⟩ = false := by simp [World.frozen?, h]
theorem blk_alloc {w : World} {g : Nat} {x : Obj} (h : w.heap[g]? = some x) (o : Obj) : (w.alloc o).heap[g]? = some x := by
  have hlt : g < w.heap.size := by
    rcases Nat.lt_or_ge g w.heap.size with hlt | hge
    · exact hlt
    · rw [Array.getElem?_eq_none hge] at h; cases h
  exact (Below.heap_alloc w o g hlt).trans h
theorem blk_below {w w' : World} {B g : Nat} {x : Option Obj} (h : w.heap[g]? = x) (hb : Below B w w') (hg : g < B) : w'.heap[g]? = x := (hb.block g hg).trans h
theorem blk_set {w : World} {g t : Nat} {cs : Array Value} {fr : Nat × Nat} (h : w.heap[g]? = some (.cells cs t fr)) (i : Nat) (u : Value) : (w.setCell ⟨g, i, none⟩ u).heap[g]? = some (.cells (cs.setIfInBounds i u) t fr) := by
  simp [World.setCell, Array.getElem?_modify, h]
theorem blk_far {w : World} {g : Nat} {x : Option Obj} (h : w.heap[g]? = x) {p : Addr} (hp : g ≠ p.block) (u : Value) : (w.setCell p u).heap[g]? = x := (Below.heap_setCell w p u g hp).trans h

theorem bcell {B : Nat} {W w : World} (hb : Below B W w) : (∀ b o, b < B → w.cell? ⟨b, o, none⟩ = W.cell? ⟨b, o, none⟩) :=
  fun b o h => hb.cell (p := ⟨b, o, none⟩) h

theorem ret_int {k : IntKind} {a b : Int} (h : a = b) : Ending.returned (.int k a) = .returned (.int k b) := by rw [h]
theorem int_eq {k : IntKind} {a b : Int} (h : a = b) : Value.int k a = .int k b := by rw [h]

end Go.Proofs.YtlobdeakgoicpaaDoor
