/- The walks of the package match: the matchpoints of results. -/
import Derived.Test.YtgfnggdjjigomaaDoorMatW
import Derived.Test.YtgfnggdjjigomaaDoorMatLaw
namespace Go.Proofs.YtgfnggdjjigomaaDoor
open Go.RowKit

/-! ### Slices of results -/
/-- The slice with address A reads as the results L; each of them, and the slice, lies in blocks below B. -/
def RdL (w : World) (B : Nat) (A : Option Addr) (L : List (List Pt)) : Prop :=
  ∀ k (h : k < L.length), ∃ b off Ak ck, A = some ⟨b, off, none⟩ ∧ b < B ∧ w.cell? ⟨b, off + k, none⟩ = some (.slice Ak (L[k]).length ck) ∧ (Ak = none → ck = 0) ∧ Rd w B 2 Ak (L[k]).length (pC L[k])
theorem RdL.below {w w' : World} {B : Nat} {A : Option Addr} {L : List (List Pt)} (h : RdL w B A L) (hb : Below B w w') : RdL w' B A L := fun k hk => by
  obtain ⟨b, off, Ak, ck, h1, h2, h3, h4, h5⟩ := h k hk
  exact ⟨b, off, Ak, ck, h1, h2, (bcell hb _ _ h2).trans h3, h4, h5.below hb⟩
theorem RdL.more {w : World} {B B' : Nat} {A : Option Addr} {L : List (List Pt)} (h : RdL w B A L) (hB : B ≤ B') : RdL w B' A L := fun k hk => by
  obtain ⟨b, off, Ak, ck, h1, h2, h3, h4, h5⟩ := h k hk
  exact ⟨b, off, Ak, ck, h1, by omega, h3, h4, h5.more hB⟩
theorem RdL.go {w w' : World} {A : Option Addr} {L : List (List Pt)} (h : RdL w w.heap.size A L) (hb : Below w.heap.size w w') : RdL w' w'.heap.size A L := (h.below hb).more hb.size
theorem Rd.go {w w' : World} {sz n : Nat} {A : Option Addr} {xs : List Value} (h : Rd w w.heap.size sz A n xs) (hb : Below w.heap.size w w') : Rd w' w'.heap.size sz A n xs := (h.below hb).more hb.size

/-! ### Points -/
def ptsTo (L : List (List Pt)) (k : Nat) : List Pt := (L.take k).map fun r => ptsM r L
theorem ptsTo_succ (L : List (List Pt)) (k : Nat) (h : k < L.length) : ptsTo L (k + 1) = ptsTo L k ++ [ptsM L[k] L] := by
  unfold ptsTo; rw [List.take_succ_eq_append_getElem h, List.map_append]; rfl
/-- The matchpoints of all results. -/
def ptsL (L : List (List Pt)) : List Pt := L.map fun r => ptsM r L
theorem ptsTo_all (L : List (List Pt)) : ptsTo L L.length = ptsL L := by unfold ptsTo ptsL; rw [List.take_length]
theorem ptsL_len (L : List (List Pt)) : (ptsL L).length = L.length := by simp [ptsL]
theorem info_frac : (Tryd.prog.info? 40).map (fun i => (i.zero, i.size, i.bytes)) = some (some (.agg #[.int .i64 0, .int .i64 0]), 2, 16) := by kernel_rfl
/-- The error of results: 2 if one of them is not right, 5 if there are too many. -/
def ptsErr (L : List (List Pt)) : Int := if okAll L then (if 24 < L.length then 5 else 0) else 2

end Go.Proofs.YtgfnggdjjigomaaDoor
