/- Entries as a list, in plain Lean, and as the cells of a slice. -/
import Derived.Test.YtchklobblkddhaaGreatDoorAdjRightW3
import Derived.Test.YtchklobblkddhaaGreatDoorMatW
import Derived.Deep.MidRow
namespace Go.Proofs.YtchklobblkddhaaGreatDoor
open Go.RowKit

/-- An entry: its cells, and what of them counts. -/
structure Ent where
  C : Array Value
  k : Int
  f : Int
  o : Nat → Oc
  a0 : Int
  a1 : Int
def Ent.Ok (e : Ent) : Prop := EnC e.C e.k e.f e.o e.a0 e.a1 ∧ e.C.all (·.oneCell') = true ∧ (∀ i, i < 4 → OcOk (e.o i)) ∧ (0 ≤ e.f ∧ e.f ≤ 255) ∧ (0 ≤ e.k ∧ e.k ≤ 255)
def Ent.right (e : Ent) : Bool := rightE e.k e.f e.o e.a0 e.a1
/-- The cells of entries. -/
def enL (L : List Ent) : List Value := L.flatMap fun e => e.C.toList
theorem enL_len (L : List Ent) (h : ∀ e ∈ L, e.C.size = 33) : (enL L).length = L.length * 33 := by
  induction L with
  | nil => rfl
  | cons a L ih =>
    have e : enL (a :: L) = a.C.toList ++ enL L := rfl
    rw [e, List.length_append, ih (fun x hx => h x (List.mem_cons_of_mem _ hx))]
    have := h a (List.mem_cons_self ..)
    simp [this]; omega
theorem enL_get (L : List Ent) (h : ∀ e ∈ L, e.C.size = 33) : ∀ (k : Nat) (hk : k < L.length) (j : Nat), j < 33 → (enL L)[k * 33 + j]? = (L[k]).C[j]? := by
  induction L with
  | nil => intro k hk; simp at hk
  | cons a L ih =>
    intro k hk j hj
    have e : enL (a :: L) = a.C.toList ++ enL L := rfl
    have ha := h a (List.mem_cons_self ..)
    rw [e]
    cases k with
    | zero =>
      rw [List.getElem?_append_left (by simp [ha]; omega)]
      simp
    | succ k =>
      have := ih (fun x hx => h x (List.mem_cons_of_mem _ hx)) k (by simpa using hk) j hj
      rw [List.getElem?_append_right (by simp [ha]; omega)]
      simp only [List.getElem_cons_succ]
      rw [← this]
      congr 1
      simp [ha]; omega
/-- An entry of a slice, read whole. -/
theorem rd_e {w : World} {B : Nat} {A : Option Addr} {L : List Ent} (hL : ∀ e ∈ L, e.C.size = 33) (h : Rd w B 33 A L.length (enL L)) (k : Nat) (hk : k < L.length) :
    ∃ b off, A = some ⟨b, off, none⟩ ∧ b < B ∧ w.rangeAt b (off + k * 33) (L[k]).C.toList := by
  obtain ⟨b, off, e, hb, hc⟩ := h.pos (by omega)
  refine ⟨b, off, e, hb, fun j v hv => ?_⟩
  have hsz := hL _ (List.getElem_mem hk)
  have hj : j < 33 := by
    obtain ⟨hj, _⟩ := List.getElem?_eq_some_iff.1 hv
    simpa [hsz] using hj
  have hlen := enL_len L hL
  have hle : k * 33 + 33 ≤ L.length * 33 := by omega
  have h1 := hc (k * 33 + j) (by omega)
  rw [enL_get L hL k hk j hj] at h1
  rw [Nat.add_assoc, h1]
  simpa using hv
theorem range_below {B : Nat} {w w' : World} {b off : Nat} {cs : List Value} (h : w.rangeAt b off cs) (hb : Below B w w') (hlt : b < B) : w'.rangeAt b off cs := fun j v hv => (bcell hb b (off + j) hlt).trans (h j v hv)
/-- The error of entries. -/
def chkE (L : List Ent) : Int := if L.all Ent.right then (if 24 < L.length then 5 else 0) else 2
/-- An entry is compared. -/
def cmpB (e : Ent) : Bool := decide (e.k ≠ 0 ∧ e.k ≠ 4)
/-- How many entries are not void; how many of a field are compared. -/
def notVoid (L : List Ent) : Nat := (L.filter fun e => decide (e.k ≠ 0)).length
def inField (L : List Ent) (f : Int) : Nat := (L.filter fun e => cmpB e && decide (e.f = f)).length

end Go.Proofs.YtchklobblkddhaaGreatDoor
