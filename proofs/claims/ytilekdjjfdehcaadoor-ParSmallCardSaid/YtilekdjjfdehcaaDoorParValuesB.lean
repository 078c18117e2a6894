/- The walk of values, where a table or a vulnerability is not right. -/
import Derived.Test.YtilekdjjfdehcaaDoorParValues
namespace Go.Proofs.YtilekdjjfdehcaaDoor
open Go.RowKit Go.Shelf

attribute [local go_sem] Oper.semAt_some

/-- The iterator's first round is the last one. -/
def VbI (w : World) (C : Array Value) (n v : Nat) (pre : List Bid) (W : World) : Prop :=
  pre = [] ∧ W.heap[n]? = some (.cells C 25 (0, 0)) ∧ W.heap[n + 1]? = some (.cells #[.int .u8 (v : Int)] 5 (0, 0)) ∧ W.heap[n + 1 + 1]? = some (.cells besZ 71 (0, 0)) ∧ W.heap[n + 1 + 1 + 1]? = some (.cells #[.int .i64 0] 31 (0, 0)) ∧
  W.heap[n + 1 + 1 + 1 + 1]? = some (.cells besZ 71 (0, 0)) ∧ W.heap[n + 1 + 1 + 1 + 1 + 1]? = some (.cells #[.int .u8 2] 5 (0, 0)) ∧ Below n w W
theorem vbI_own (w : World) (C : Array Value) (n v : Nat) (B : Nat) (hn : n ≤ w.heap.size) (hB : n ≤ B) : OwnFrom B (VbI w C n v) := by
  unfold VbI
  exact OwnFrom.and (ownFrom_pure B _) (OwnFrom.and (blk_own B n _ (0, 0) (fun _ => _)) (OwnFrom.and (blk_own B (n + 1) _ (0, 0) (fun _ => _)) (OwnFrom.and (blk_own B (n + 1 + 1) _ (0, 0) (fun _ => _)) (OwnFrom.and (blk_own B (n + 1 + 1 + 1) _ (0, 0) (fun _ => _)) (OwnFrom.and (blk_own B (n + 1 + 1 + 1 + 1) _ (0, 0) (fun _ => _)) (OwnFrom.and (blk_own B (n + 1 + 1 + 1 + 1 + 1) _ (0, 0) (fun _ => _)) (ownFrom_below hn hB)))))))
def VbX (w : World) (n : Nat) (c : Code) (_ : List Bid) (W : World) : Prop :=
  c = .ret ∧ W.heap[n + 1 + 1]? = some (.cells besZ 71 (0, 0)) ∧ W.heap[n + 1 + 1 + 1]? = some (.cells #[.int .i64 2] 31 (0, 0)) ∧ Below n w W
theorem vbX_own (w : World) (n : Nat) (c : Code) (B : Nat) (hn : n ≤ w.heap.size) (hB : n ≤ B) : OwnFrom B (VbX w n c) := by
  unfold VbX
  exact OwnFrom.and (ownFrom_pure B (fun _ => c = .ret)) (OwnFrom.and (blk_own B (n + 1 + 1) _ (0, 0) (fun _ => _)) (OwnFrom.and (blk_own B (n + 1 + 1 + 1) _ (0, 0) (fun _ => _)) (ownFrom_below hn hB)))
theorem keeps_setRow {W : World} {g t : Nat} {cs old : Array Value} {fr : Nat × Nat} (hg : W.heap[g]? = some (.cells old t fr)) : KeepsOthers W (W.setRow g cs) :=
  ⟨by simp, fun k o hk ho => by
    by_cases e : k = g
    · subst e; rw [hg] at hk; cases hk; cases ho
    · exact (setRow_other W g k cs e).trans hk⟩
/-- What values returns for what is not right. -/
def ValE (w : World) (e : Ending) (w' : World) : Prop := e = .returned (.tuple #[.agg besZ, .int .i64 2]) ∧ Below w.heap.size w w'
set_option maxRecDepth 100000 in
set_option maxHeartbeats 2000000 in
theorem values_bad (C : Array Value) (t : Nat → Nat → Int) (hC : TabC C t) (v : Nat) (hv : v ≤ 255) (h : rightT t = false ∨ 3 < v) (w : World) :
    Calls Tryd.prog 31 #[.agg C, .int .u8 (v : Int)] w (ValE w) := by
  refine (callsIn_wide (n := 5)).1 ?_
  refine callsIn_of_wp_marks Tryd.func31 rfl trivial ?_ rfl
  simp only [Tryd.ntmps31, List.size_toArray, List.length_cons, List.length_nil, Nat.reduceAdd, Nat.reduceSub, Array.replicate_succ, Array.replicate_zero, List.push_toArray, List.append_toArray, List.nil_append, List.cons_append]
  have HBd : Hid (∀ W, Calls Tryd.prog 39 #[.int .u8 2] W fun e w' => e = .returned (.func (.func 48) #[] #[.pointer (some ⟨W.heap.size, 0, none⟩)]) ∧ W.alloc (.cells #[.int .u8 2] 5) = w') := Lib.hid (fun W => bids_any 2 W)
  have HC := Lib.hid hC
  have HI := Lib.hid hC.info
  have Hr := Lib.hid h
  clear hC h
  gi_wp2_with (refine wide_alloc_to rfl 71 rfl besZ bes_zero ?_)
  refine ⟨trivial, (callsIn_wide.2 (HBd.out _)).mono ?_⟩
  rintro e w' ⟨rfl, rfl⟩
  gi_wp2_with fail
  obtain ⟨n, hn⟩ : ∃ n, w.heap.size = n := ⟨_, rfl⟩
  rw [hn]
  obtain ⟨W0, hW0⟩ : ∃ W0, ((((((w.alloc (.cells C 25)).alloc (.cells #[.int .u8 (v : Int)] 5)).alloc (.cells besZ 71)).alloc (.cells #[.int .i64 0] 31)).alloc (.cells besZ 71)).alloc (.cells #[.int .u8 2] 5)) = W0 := ⟨_, rfl⟩
  rw [hW0]
  have hI0 : VbI w C n v ([] : List Bid) W0 := by
    rw [← hW0]
    refine ⟨rfl, ?_, ?_, ?_, ?_, ?_, ?_, ?_⟩
    · repeat (first | exact blk_new _ hn.symm | refine blk_alloc ?_ _)
    · repeat (first | exact blk_new _ (by simp; omega) | refine blk_alloc ?_ _)
    · repeat (first | exact blk_new _ (by simp; omega) | refine blk_alloc ?_ _)
    · repeat (first | exact blk_new _ (by simp; omega) | refine blk_alloc ?_ _)
    · repeat (first | exact blk_new _ (by simp; omega) | refine blk_alloc ?_ _)
    · repeat (first | exact blk_new _ (by simp; omega) | refine blk_alloc ?_ _)
    · rw [← hn]; exact (by repeat (first | exact Below.refl _ _ | assumption | refine Below.drew ?_ | refine below_drewN ?_ _ | refine Below.alloc ?_ (by first | omega | (simp; done) | (simp; omega)) _ | refine Below.setCell ?_ (by first | omega | (simp; done) | (simp; omega)) _))
  have hk5 : W0.heap[n + 1 + 1 + 1 + 1 + 1]? = some (.cells #[.int .u8 2] 5) := by rw [← hW0]; exact blk_new _ (by simp; omega)
  have hsz : n + 6 ≤ W0.heap.size := by rw [← hW0]; simp; omega
  have hn0 : n ≤ w.heap.size := by omega
  clear hW0
  refine wpIn_rangeFunc_ownG (F := Fence.wide) rfl (by decide) (gf := 48) (lb := #[.pointer (some ⟨n + 1 + 1 + 1 + 1 + 1, 0, none⟩)]) rfl trivial (enters_of Tryd.func48 (by kernel_rfl) rfl)
    (bids_stops Fence.wide 4 trivial rfl (by decide) (n + 1 + 1 + 1 + 1 + 1) 2 (by decide) W0 (by omega) (blk_cell hk5 0)) keepB_t (keepB_b (by omega)) (Below.refl _ _) (fun _ => rfl)
    (VbI w C n v) (VbX w n) (vbI_own w C n v _ hn0 (by omega)) (fun c => vbX_own w n c _ hn0 (by omega)) hI0
    (fun x => { tmps := #[.agg C, .int .u8 (v : Int), .pointer (some ⟨n, 0, none⟩), .pointer (some ⟨n + 1, 0, none⟩), .pointer (some ⟨n + 1 + 1, 0, none⟩), .pointer (some ⟨n + 1 + 1 + 1, 0, none⟩), .pointer (some ⟨n + 1 + 1 + 1 + 1, 0, none⟩), .int .u8 (x.1 : Int), undef, undef, undef, undef, .func (.func 48) #[] #[.pointer (some ⟨n + 1 + 1 + 1 + 1 + 1, 0, none⟩)], .int .u8 (x.1 : Int), undef, undef, undef, undef, undef, undef, undef, undef, undef, undef, undef, undef, undef, undef, undef, undef, undef, undef, undef, undef, undef, undef, undef, undef, undef, undef, undef], defers := [] }) ?assign ?body ?done ?stop
  case assign =>
    intro l x W K hK
    gi_wp2
    exact hK
  case body =>
    rintro l pre x W ⟨rfl, i0, i1, i2, i3, i4, i5, hB⟩ hlen
    dsimp only
    obtain ⟨x, hx3, hx37⟩ := x
    dsimp only
    have HF : Hid (∀ W, Calls Tryd.prog 16 #[.agg C, .int .u8 (v : Int), .int .u8 (x : Int), .int .u8 1] W fun e w' => e = .returned finBad ∧ Below W.heap.size W w') := Lib.hid (fun W => by
      by_cases h3 : 3 < v
      · exact pfinal_arg C v x 1 hv (by omega) (.inl h3) W
      · exact pfinal_bad C t HC.out v x 1 (by omega) hx3 hx37 (by decide) (.inl (Hr.out.resolve_right h3)) W)
    unfold finBad at HF
    have I0 := Lib.hid i0
    have I2 := Lib.hid i2
    have I3 := Lib.hid i3
    have HB := Lib.hid hB
    have c1 := blk_cell i1 0
    clear i0 i1 i2 i3 i4 i5 hB hI0 hk5 HBd
    gi_wp2
    gi_loopw [14] (fun i wr => i = .int .u8 0 ∧ wr = W) (fun _ _ => 0)
    case atStart => exact ⟨rfl, rfl⟩
    case round =>
      obtain ⟨rfl, rfl⟩ := hrel
      gi_wp2_with (refine round_load_row rfl 25 (.tmp 2) rfl n rfl 25 C _ _ I0.out Tryd.underlying25 rfl HI.out ?_)
      refine ⟨trivial, (CallsIn.inRound l (callsIn_wide.2 (HF.out _))).mono ?_⟩
      rintro e w3 ⟨rfl, hb3⟩
      gi_upto_region 9 with fail
      obtain ⟨W3, hW3⟩ : ∃ W3, w3.alloc (.cells #[.int .u8 0, .int .u8 0, .int .u8 0, .int .u8 0, .int .i64 0, .int .i64 0] 30) = W3 := ⟨_, rfl⟩
      rw [hW3]
      have hb : Below wr.heap.size wr W3 := by rw [← hW3]; exact hb3.alloc hb3.size _
      have K2 := Lib.hid (blk_below I2.out hb (blk_lt I2.out))
      have S3 := Lib.hid ((setRow_other W3 (n + 1 + 1) (n + 1 + 1 + 1) besZ (by omega)).trans (blk_below I3.out hb (blk_lt I3.out)))
      have S2 := Lib.hid (setRow_heap W3 (n + 1 + 1) besZ besZ _ _ K2.out)
      have SB := Lib.hid (below_setRow (HB.out.trans (hb.mono (by have := HB.out.size; omega))) (by omega : n ≤ n + 1 + 1) besZ)
      have SK := Lib.hid (((keeps_below hb).trans (keeps_setRow (cs := besZ) K2.out)).trans (KeepsOthers.setCell _ ⟨n + 1 + 1 + 1, 0, none⟩ (.int .i64 2)))
      have c3 := blk_cell S3.out 0
      have f3 := blk_free S3.out 0
      clear hW3 hb3 hb c1
      gi_wp2_with (first | (refine round_build_to rfl 71 _ rfl besZ (by kernel_rfl) ?_) | (refine round_store_row rfl 71 _ _ rfl (n + 1 + 1) besZ rfl rfl 71 besZ K2.out (bes_info besZ besZ_ok.1) rfl besZ_ok.2.1 ?_))
      exact ⟨SK.out.from _, rfl, blk_far S2.out (by show n + 1 + 1 ≠ n + 1 + 1 + 1; omega) _, blk_set S3.out 0 _, SB.out.setCell (p := ⟨n + 1 + 1 + 1, 0, none⟩) (by show n ≤ n + 1 + 1 + 1; omega) _⟩
  case done =>
    rintro D ys W hD rfl ⟨hys, -⟩ hK
    have := dnTo_len (37 - 2)
    rw [hys] at this
    simp at this
  case stop =>
    rintro D c pre W hD hpre ⟨rfl, i2, i3, hB⟩ hK
    have HK := Lib.hid hK
    have hDn : n ≤ D := by omega
    have hDne : D ≠ n + 1 + 1 := fun e => by rw [e, i2] at hK; cases hK
    have hg := grownBy_putObj' W D (.deferred none)
    have P2' := Lib.hid ((hg.block _ (blk_lt i2) (fun e => by cases e; exact hDne rfl)).trans i2)
    have P3' := Lib.hid (cell_kept (blk_cell i3 0) hg (fun r e => by cases e; exact ⟨_, hK, rfl⟩))
    have HB := Lib.hid hB
    clear i2 i3 hK hg hB hI0 hk5 HBd hpre
    dsimp only
    gi_wp2
    refine ⟨by simp, .inl ⟨_, _, rfl, run_takeDeferred HK.out, ?_⟩⟩
    refine ⟨_, res_vals2 _ rfl rfl P2'.out besZ_ok.1 P3'.out, rfl, ?_⟩
    rw [hn]
    exact HB.out.trans (belowK_b (n₀ := n) (w := w) (by omega) _ D _ _ (by omega) HK.out rfl rfl)


end Go.Proofs.YtilekdjjfdehcaaDoor
