/- The iterator of the bids, and the chooser of the better choice. -/
import Derived.RangeFuncNested
import Derived.RangeFuncBound
import Derived.RangeFuncCalls
import Derived.RangeFuncLeaves
import Derived.Shelf.Abstract
import Derived.Shelf.RegionOpen
import Derived.OwnWalkIn
import Derived.TacticsInMore
import Derived.LoopNIn
import Derived.LoopIn
import Derived.Test.YtilekdjjfdehcaaDoorParW
namespace Go.Proofs.YtilekdjjfdehcaaDoor
open Go.RowKit Go.Shelf

attribute [local go_sem] Oper.semAt_some

/-- The bids. -/
abbrev Bid : Type := { x : Nat // 3 ≤ x ∧ x ≤ 37 }
/-- The bids from 37 down, k of them. -/
def dnTo (k : Nat) : List Bid := (List.range k).map fun j => ⟨max 3 (37 - j), by omega⟩
theorem dnTo_succ (k : Nat) : dnTo (k + 1) = dnTo k ++ [⟨max 3 (37 - k), by omega⟩] := by simp [dnTo, List.range_succ]
theorem dnTo_len (k : Nat) : (dnTo k).length = k := by simp [dnTo]

theorem bids_any (o : Nat) (w : World) : Calls Tryd.prog 39 #[.int .u8 (o : Int)] w fun e w' => e = .returned (.func (.func 48) #[] #[.pointer (some ⟨w.heap.size, 0, none⟩)]) ∧ w.alloc (.cells #[.int .u8 (o : Int)] 5) = w' := by
  go_enter Tryd.func39, Tryd.ntmps39
  go_wp2
  go_ret
  exact ⟨rfl, rfl⟩

/-- A block that lies as it lay. -/
def KeepB (b : Nat) (W W' : World) : Prop := W'.heap[b]? = W.heap[b]?
theorem keepB_t {b : Nat} {X Y Z : World} (h : KeepB b X Y) (k : KeepB b Y Z) : KeepB b X Z := Eq.trans k h
theorem keepB_b {b : Nat} {w : World} (hb : b < w.heap.size) (W : World) (l : Nat) (o o' : Obj) (hl : w.heap.size ≤ l) (_ : W.heap[l]? = some o) (_ : o.isCells = false) (_ : o.isWalk = false) : KeepB b W (W.putObj l o') :=
  World.putObj_heap_other (by omega)
theorem keepB_cell {b : Nat} {W W' : World} (h : KeepB b W W') (o : Nat) : W'.cell? ⟨b, o, none⟩ = W.cell? ⟨b, o, none⟩ := World.cell?_of_block h
theorem keeps_below {W W' : World} (h : Below W.heap.size W W') : KeepsOthers W W' := ⟨h.size, fun k _ hk _ => (h.block k (Array.getElem?_eq_some_iff.1 hk).1).trans hk⟩
theorem blk_own {β : Type} (B k t : Nat) (fr : Nat × Nat) (f : β → Array Value) : OwnFrom B (fun s W => W.heap[k]? = some (.cells (f s) t fr)) := fun _ X _ row hs hg hr =>
  (hg.block k (blk_lt hs) (fun e => by obtain ⟨_, o, ho, hc⟩ := hr k e.symm; rw [hs] at ho; cases ho; cases hc)).trans hs

set_option maxRecDepth 100000 in
set_option maxHeartbeats 2000000 in
/-- The iterator: the bids from 37 down to o + 1, whatever the loop's body does that keeps the captured bid. -/
theorem bids1_in (F : Fence) (n : Nat) (hF : F.fn 48) (hro : F.round = none) (hn : 1 ≤ n) (l Bs o : Nat) (ho : 2 ≤ o ∧ o ≤ 37) (J Jx : List Bid → World → Prop)
    (hY : ∀ (pre : List Bid) (x : Bid) (W : World), J pre W → pre.length < 37 - o → YieldAt F (n - 1) Tryd.prog l #[.int .u8 (x.1 : Int)] W fun e W' =>
      (e = .returned (.bool true) ∧ J (pre ++ [x]) W' ∧ KeepB Bs W W') ∨ (e = .returned (.bool false) ∧ Jx (pre ++ [x]) W'))
    (W : World) (hBs : W.cell? ⟨Bs, 0, none⟩ = some (.int .u8 (o : Int))) (h0 : J [] W) :
    CallsIn F n Tryd.prog 48 #[.func (.yield l) #[] #[], .pointer (some ⟨Bs, 0, none⟩)] W fun e W' => (∃ v, e = .returned v) ∧
      ((∃ ys, ys = dnTo (37 - o) ∧ J ys W') ∨ (∃ pre, (∃ k, k ≤ 37 - o ∧ pre = dnTo k) ∧ Jx pre W')) := by
  refine callsIn_of_wp Tryd.func48 rfl hF ?_ hro
  simp only [Tryd.ntmps48, List.size_toArray, List.length_cons, List.length_nil, Nat.reduceAdd, Nat.reduceSub, Array.replicate_succ, Array.replicate_zero, List.push_toArray, List.append_toArray, List.nil_append, List.cons_append]
  gi_wp2
  gi_loopw [3] (fun i wr => ∃ k : Nat, k ≤ 37 - o ∧ i = .int .u8 (37 - (k : Int)) ∧ J (dnTo k) wr ∧ KeepB Bs W wr)
    (fun i _ => (intOf i).toNat)
  case atStart => exact ⟨0, Nat.zero_le _, rfl, h0, (rfl : KeepB Bs W W)⟩
  case round =>
    obtain ⟨k, hk, rfl, hJs, hnx⟩ := hrel
    have hcx : wr.cell? ⟨Bs, 0, none⟩ = some (.int .u8 (o : Int)) := (keepB_cell hnx 0).trans hBs
    have Hnx := Lib.hid hnx
    clear hnx
    by_cases hlt : k < 37 - o
    · obtain ⟨fn, tmps, assign, body, hy, hR⟩ := hY _ ⟨max 3 (37 - k), by omega⟩ wr hJs (by rw [dnTo_len]; exact hlt)
      have ek : ((max 3 (37 - k) : Nat) : Int) = 37 - (k : Int) := by omega
      dsimp only at hy
      rw [ek] at hy
      clear ek
      have c1 : (o : Int) < 37 - (k : Int) := by omega
      gi_wp2
      refine hR.mono ?_
      rintro e W3 (⟨rfl, hJ3, hk3⟩ | ⟨rfl, hJx3⟩)
      · have Hk3 := Lib.hid (keepB_t Hnx.out hk3)
        clear hk3
        gi_wp2
        go_roundw
        case rel => exact ⟨k + 1, by omega, int_eq (by omega), by rw [dnTo_succ]; exact hJ3, Hk3.out⟩
        case measure => simp [intOf]; omega
      · gi_wp2
        refine bodyPost_ret (results_none rfl _ _ _) rfl ?_
        exact ⟨⟨_, rfl⟩, .inr ⟨_, ⟨k + 1, by omega, (dnTo_succ _).symm⟩, hJx3⟩⟩
    · obtain rfl : k = 37 - o := by omega
      have c1 : ¬ (o : Int) < 37 - ((37 - o : Nat) : Int) := by omega
      gi_wp2
      go_end0
      exact ⟨⟨_, rfl⟩, .inl hJs⟩
theorem bids_stops (F : Fence) (n : Nat) (hF : F.fn 48) (hro : F.round = none) (hn : 1 ≤ n) (Bs o : Nat) (ho : 2 ≤ o ∧ o ≤ 37) (w : World) (hB : Bs < w.heap.size) (hBs : w.cell? ⟨Bs, 0, none⟩ = some (.int .u8 (o : Int))) :
    SeqStopsK F n Tryd.prog 48 #[.pointer (some ⟨Bs, 0, none⟩)] (fun x : Bid => #[Value.int .u8 (x.1 : Int)]) (KeepB Bs) (fun ys => ys = dnTo (37 - o)) (fun pre => ∃ k, k ≤ 37 - o ∧ pre = dnTo k) (37 - o) w := fun l J Jx W hW _ _ hY h0 => by
  have hc' := (hW.cell (p := ⟨Bs, 0, none⟩) hB).trans hBs
  exact bids1_in F n hF hro hn l Bs o ho J Jx hY W hc' h0

/-! ### The better choice -/
theorem better_any (s : Nat) (hs : s ≤ 1) (w : World) : Calls Tryd.prog 40 #[.int .u8 (s : Int)] w fun e w' => e = .returned (.func (.func 49) #[] #[.pointer (some ⟨w.heap.size, 0, none⟩)]) ∧ w.alloc (.cells #[.int .i64 (1 - 2 * (s : Int))] 3) = w' := by
  go_enter Tryd.func40, Tryd.ntmps40
  go_wp2
  go_ret
  exact ⟨rfl, rfl⟩
def chV (c : Nat × Int) : Value := .agg #[.int .u8 (c.1 : Int), .int .i64 c.2]
theorem sg_wo (s : Nat) (hs : s ≤ 1) (x : Int) : (1 - 2 * (s : Int)) * x = wo s x := by
  rcases (show s = 0 ∨ s = 1 by omega) with rfl | rfl
  · show (1 - 2 * 0) * x = x; omega
  · show (1 - 2 * 1) * x = -x; omega
set_option maxHeartbeats 1000000 in
theorem better1_any (s : Nat) (hs : s ≤ 1) (a c : Nat × Int) (ha : -10000 ≤ a.2 ∧ a.2 ≤ 10000) (hc : -10000 ≤ c.2 ∧ c.2 ≤ 10000) (g : Nat) (w : World) (hg : w.cell? ⟨g, 0, none⟩ = some (.int .i64 (1 - 2 * (s : Int)))) (hgw : g < w.heap.size) :
    Calls Tryd.prog 49 #[chV a, chV c, .pointer (some ⟨g, 0, none⟩)] w fun e w' => e = .returned (chV (pickC s a c)) ∧ Below w.heap.size w w' := by
  have e1 := sg_wo s hs a.2
  have e2 := sg_wo s hs c.2
  have b1 : -10000 ≤ wo s a.2 ∧ wo s a.2 ≤ 10000 := by unfold wo; split <;> omega
  have b2 : -10000 ≤ wo s c.2 ∧ wo s c.2 ≤ 10000 := by unfold wo; split <;> omega
  have HP := Lib.hid (show pickC s a c = if wo s c.2 < wo s a.2 then a else c from rfl)
  generalize pickC s a c = P at HP ⊢
  have hW1 : IntKind.i64.wrap ((1 - 2 * (s : Int)) * a.2) = wo s a.2 := by rw [e1]; exact IntWalk.i64_in _ (by omega)
  have hW2 : IntKind.i64.wrap ((1 - 2 * (s : Int)) * c.2) = wo s c.2 := by rw [e2]; exact IntWalk.i64_in _ (by omega)
  generalize wo s a.2 = x at hW1 HP
  generalize wo s c.2 = y at hW2 HP
  obtain ⟨a1, a2⟩ := a
  obtain ⟨c1, c2⟩ := c
  unfold chV
  dsimp only at *
  generalize 1 - 2 * (s : Int) = sg at *
  clear e1 e2
  go_enter Tryd.func49, Tryd.ntmps49
  go_upto_region 1 with fail
  obtain ⟨W1, hW1w⟩ : ∃ W1, ((w.alloc (.cells #[.int .u8 (a1 : Int), .int .i64 a2] 68)).alloc (.cells #[.int .u8 (c1 : Int), .int .i64 c2] 68)).alloc (.cells #[.int .u8 0, .int .i64 0] 68) = W1 := ⟨_, rfl⟩
  obtain ⟨gw, hgg⟩ : ∃ g, w.heap.size = g := ⟨_, rfl⟩
  have k0 : W1.heap[gw]? = some (.cells #[.int .u8 (a1 : Int), .int .i64 a2] 68) := by rw [← hW1w]; exact blk_alloc (blk_alloc (blk_new _ hgg.symm) _) _
  have k1 : W1.heap[gw + 1]? = some (.cells #[.int .u8 (c1 : Int), .int .i64 c2] 68) := by rw [← hW1w]; exact blk_alloc (blk_new _ (by simp [hgg])) _
  have k2 : W1.heap[gw + 1 + 1]? = some (.cells #[.int .u8 0, .int .i64 0] 68) := by rw [← hW1w]; exact blk_new _ (by simp [hgg])
  have hB1 : Below w.heap.size w W1 := by rw [← hW1w]; exact (by repeat (first | exact Below.refl _ _ | assumption | refine Below.drew ?_ | refine below_drewN ?_ _ | refine Below.alloc ?_ (by first | omega | (simp; done) | (simp; omega)) _ | refine Below.setCell ?_ (by first | omega | (simp; done) | (simp; omega)) _))
  have hg := keepB0 hB1 hgw hg
  have hw2 : w.heap.size ≤ gw + 1 + 1 := by rw [hgg]; omega
  rw [hW1w, hgg]
  have a0 := blk_cell k0 0
  have a1' := blk_cell k0 1
  have c0 := blk_cell k1 0
  have c1' := blk_cell k1 1
  have z0 := blk_cell k2 0
  have z1 := blk_cell k2 1
  have f0 := blk_free k2 0
  have f1 := blk_free k2 1
  clear hW1w hgg k0 k1 k2
  by_cases h : y < x
  · obtain rfl : P = (a1, a2) := by rw [HP.out, if_pos h]
    go_wp2
    refine bodyPost_ret (v := .agg #[.int .u8 (a1 : Int), .int .i64 a2]) ?_ rfl ⟨rfl, (hB1.setCell (p := ⟨gw + 1 + 1, 0, none⟩) hw2 _).setCell (p := ⟨gw + 1 + 1, 1, none⟩) hw2 _⟩
    simp [results, Tryd.results49, go_sem, z0, z1]
  · obtain rfl : P = (c1, c2) := by rw [HP.out, if_neg h]
    go_wp2
    refine bodyPost_ret (v := .agg #[.int .u8 (c1 : Int), .int .i64 c2]) ?_ rfl ⟨rfl, (hB1.setCell (p := ⟨gw + 1 + 1, 0, none⟩) hw2 _).setCell (p := ⟨gw + 1 + 1, 1, none⟩) hw2 _⟩
    simp [results, Tryd.results49, go_sem, z0, z1]

end Go.Proofs.YtilekdjjfdehcaaDoor
