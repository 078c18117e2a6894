/- The walk of Made of layer 22's statements. (Written by genmade22.py.) -/
import Derived.Test.YtchklobblkddhaaGreatDoorAdjMadeW
import Derived.Laws.CopyOwn
import Derived.Deep.RegionWith
namespace Go.Proofs.YtchklobblkddhaaGreatDoor
open Go.RowKit

theorem sm_b (x : SmE) : ∀ i, i < 4 → (smA x)[3 + i]? = some (.int .u8 (x.b i)) := fun i hi => by
  obtain rfl | rfl | rfl | rfl : i = 0 ∨ i = 1 ∨ i = 2 ∨ i = 3 := by omega
  all_goals rfl
theorem sm_t (x : SmE) : ∀ i, i < 4 → (smA x)[7 + i]? = some (.int .u8 (x.t i)) := fun i hi => by
  obtain rfl | rfl | rfl | rfl : i = 0 ∨ i = 1 ∨ i = 2 ∨ i = 3 := by omega
  all_goals rfl
theorem sm_v (x : SmE) : ∀ i, i < 3 → (smA x)[11 + i]? = some (.int .u8 (x.v i)) := fun i hi => by
  obtain rfl | rfl | rfl : i = 0 ∨ i = 1 ∨ i = 2 := by omega
  all_goals rfl
/-- An outcome stored into a block of cells, from an offset on. -/
def six (w : World) (g off : Nat) (x : Oc) : World := (((((w.setCell ⟨g, off, none⟩ (.int .u8 x.l)).setCell ⟨g, off + 1, none⟩ (.int .u8 x.d)).setCell ⟨g, off + 2, none⟩ (.int .u8 x.r)).setCell ⟨g, off + 3, none⟩ (.int .u8 x.s)).setCell ⟨g, off + 4, none⟩ (.int .i64 x.t)).setCell ⟨g, off + 5, none⟩ (.int .i64 x.w)
theorem six_set {w : World} {g k0 : Nat} {k f a0 a1 : Int} {o : Nat → Oc} (h : w.heap[g]? = some (.cells (enCells k f o a0 a1) k0)) (i : Nat) (hi : i < 4) (x : Oc) : (six w g (7 + i * 6) x).heap[g]? = some (.cells (enCells k f (upd o i x) a0 a1) k0) :=
  (blk_set (blk_set (blk_set (blk_set (blk_set (blk_set h (7 + i * 6) (.int .u8 x.l)) (7 + i * 6 + 1) (.int .u8 x.d)) (7 + i * 6 + 2) (.int .u8 x.r)) (7 + i * 6 + 3) (.int .u8 x.s)) (7 + i * 6 + 4) (.int .i64 x.t)) (7 + i * 6 + 5) (.int .i64 x.w)).trans (congrArg (fun c => some (Obj.cells c k0)) (enCells_set k f o a0 a1 i hi x))
theorem six_far {w : World} {g g2 : Nat} {y : Option Obj} (h : w.heap[g2]? = y) (hne : g2 ≠ g) (off : Nat) (x : Oc) : (six w g off x).heap[g2]? = y :=
  blk_far (blk_far (blk_far (blk_far (blk_far (blk_far h hne _) hne _) hne _) hne _) hne _) hne _
theorem six_below {B : Nat} {w0 w : World} (h : Below B w0 w) (g off : Nat) (hg : B ≤ g) (x : Oc) : Below B w0 (six w g off x) :=
  (((((h.setCell (p := ⟨g, off, none⟩) hg _).setCell (p := ⟨g, off + 1, none⟩) hg _).setCell (p := ⟨g, off + 2, none⟩) hg _).setCell (p := ⟨g, off + 3, none⟩) hg _).setCell (p := ⟨g, off + 4, none⟩) hg _).setCell (p := ⟨g, off + 5, none⟩) hg _
theorem awT_get (i : Int) (h : 0 ≤ i ∧ i < 7) : (#[.int .i64 0, .int .i64 30, .int .i64 40, .int .i64 50, .int .i64 60, .int .i64 70, .int .i64 100] : Array Value)[i.toNat]? = some (.int .i64 (awT i)) := by
  obtain rfl | rfl | rfl | rfl | rfl | rfl | rfl : i = 0 ∨ i = 1 ∨ i = 2 ∨ i = 3 ∨ i = 4 ∨ i = 5 ∨ i = 6 := by omega
  all_goals rfl
theorem enCells_aw {w : World} {g k0 : Nat} {k f a0 a1 : Int} {o : Nat → Oc} (h : w.heap[g]? = some (.cells (enCells k f o a0 a1) k0)) (y0 y1 : Int) : ((w.drew.setCell ⟨g, 31, none⟩ (.int .i64 y0)).setCell ⟨g, 32, none⟩ (.int .i64 y1)).heap[g]? = some (.cells (enCells k f o y0 y1) k0) :=
  (blk_set (blk_set (show w.drew.heap[g]? = _ from h) 31 (.int .i64 y0)) 32 (.int .i64 y1)).trans (congrArg (fun c => some (Obj.cells c k0)) (by simp [enCells]))
theorem enC_size (k f : Int) (o : Nat → Oc) (a0 a1 : Int) : (Tryz.prog.info? 51).map (·.size) = some (enCells k f o a0 a1).size := (enCells_ok k f o a0 a1).size

end Go.Proofs.YtchklobblkddhaaGreatDoor
