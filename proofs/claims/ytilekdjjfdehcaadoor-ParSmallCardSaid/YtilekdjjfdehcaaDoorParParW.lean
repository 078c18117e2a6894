/- The walks of par.Bids and Par. -/
import Derived.Test.YtilekdjjfdehcaaDoorParBidW
import Derived.Deep.RegionHeld3
namespace Go.Proofs.YtilekdjjfdehcaaDoor
open Go.RowKit

set_option maxRecDepth 100000 in
set_option maxHeartbeats 1000000 in
theorem pbids_bad (C : Array Value) (t : Nat → Nat → Int) (hC : TabC C t) (v d : Nat) (hv : v ≤ 255) (hd : d ≤ 255) (h : rightT t = false ∨ 3 < v ∨ 3 < d) (w : World) :
    Calls Tryd.prog 13 #[.agg C, .int .u8 (v : Int), .int .u8 (d : Int)] w fun e w' => e = .returned (.tuple #[.slice none 0 0, .int .i64 2]) ∧ Below w.heap.size w w' := by
  have HV := Lib.hid (fun W => bidding_bad C t hC v d hv hd h W)
  have HI := Lib.hid hC.info
  clear h hC
  go_enter Tryd.func13, Tryd.ntmps13
  go_upto_region 1 with fail
  obtain ⟨W1, hW1⟩ : ∃ W1, w.alloc (.cells C 25) = W1 := ⟨_, rfl⟩
  obtain ⟨g, hg⟩ : ∃ g, w.heap.size = g := ⟨_, rfl⟩
  have HK := Lib.hid (show W1.heap[g]? = some (.cells C 25) by rw [← hW1]; exact blk_new _ hg.symm)
  have hB1 : Below w.heap.size w W1 := by rw [← hW1]; exact (by repeat (first | exact Below.refl _ _ | assumption | refine Below.drew ?_ | refine below_drewN ?_ _ | refine Below.alloc ?_ (by first | omega | (simp; done) | (simp; omega)) _ | refine Below.setCell ?_ (by first | omega | (simp; done) | (simp; omega)) _))
  rw [hW1, hg]
  clear hW1 hg
  go_wp2_with (refine wpList_load_row rfl 25 (.tmp 3) rfl g rfl 25 C _ _ HK.out Tryd.underlying25 rfl HI.out ?_)
  refine (HV.out _).mono ?_
  rintro ee w2 ⟨rfl, hb2⟩
  have hB2 := below_via hB1 hb2
  go_wp2
  go_ret2
  exact ⟨rfl, hB2⟩
/-- What Bids returns. -/
def BdsR (f : Nat → Nat → Int) (s : Nat) (w : World) (e : Ending) (w' : World) : Prop :=
  ∃ sv, e = .returned (.tuple #[sv, .int .i64 0]) ∧ w'.ownsRow w.heap.size 5 1 sv (bidsL f s).length (bC (bidsL f s)) ∧ Below w.heap.size w w'
set_option maxRecDepth 100000 in
set_option maxHeartbeats 1000000 in
theorem pbids_ok (C : Array Value) (t : Nat → Nat → Int) (hC : TabC C t) (v d : Nat) (hv : v ≤ 3) (hd : d ≤ 3) (h : rightT t = true) (w : World) (hLa : LaidS w) :
    Calls Tryd.prog 13 #[.agg C, .int .u8 (v : Int), .int .u8 (d : Int)] w (BdsR (finG t v) (d % 2) w) := by
  have HV := Lib.hid (fun W hW => bidding_ok C t hC v d hv hd h W hW)
  have HI := Lib.hid hC.info
  have HL := Lib.hid hLa
  clear h hC hLa
  go_enter Tryd.func13, Tryd.ntmps13
  go_upto_region 1 with fail
  obtain ⟨W1, hW1⟩ : ∃ W1, w.alloc (.cells C 25) = W1 := ⟨_, rfl⟩
  obtain ⟨g, hg⟩ : ∃ g, w.heap.size = g := ⟨_, rfl⟩
  have HK := Lib.hid (show W1.heap[g]? = some (.cells C 25) by rw [← hW1]; exact blk_new _ hg.symm)
  have hB1 : Below w.heap.size w W1 := by rw [← hW1]; exact (by repeat (first | exact Below.refl _ _ | assumption | refine Below.drew ?_ | refine below_drewN ?_ _ | refine Below.alloc ?_ (by first | omega | (simp; done) | (simp; omega)) _ | refine Below.setCell ?_ (by first | omega | (simp; done) | (simp; omega)) _))
  rw [hW1, hg]
  clear hW1 hg
  go_wp2_with (refine wpList_load_row rfl 25 (.tmp 3) rfl g rfl 25 C _ _ HK.out Tryd.underlying25 rfl HI.out ?_)
  refine (HV.out _ (HL.out.go hB1)).mono ?_
  rintro ee w2 ⟨sv, rfl, hown, hb2⟩
  have Hown := Lib.hid (own_mono hown hB1.size)
  have hB2 := below_via hB1 hb2
  clear hown hb2 hB1
  go_wp2
  go_ret2
  exact ⟨sv, rfl, Hown.out, hB2⟩

set_option maxRecDepth 100000 in
set_option maxHeartbeats 1000000 in
theorem ppar_bad (C : Array Value) (t : Nat → Nat → Int) (hC : TabC C t) (v d : Nat) (hv : v ≤ 255) (hd : d ≤ 255) (h : rightT t = false ∨ 3 < v ∨ 3 < d) (w : World) :
    Calls Tryd.prog 12 #[.agg C, .int .u8 (v : Int), .int .u8 (d : Int)] w fun e w' => e = .returned finBad ∧ Below w.heap.size w w' := by
  have HV := Lib.hid (fun W => bidding_bad C t hC v d hv hd h W)
  have HI := Lib.hid hC.info
  clear h hC
  go_enter Tryd.func12, Tryd.ntmps12
  go_upto_region 1 with fail
  obtain ⟨W1, hW1⟩ : ∃ W1, (w.alloc (.cells C 25)).alloc (.cells #[.int .u8 0, .int .u8 0, .int .u8 0, .int .u8 0, .int .i64 0, .int .i64 0] 30) = W1 := ⟨_, rfl⟩
  obtain ⟨g, hg⟩ : ∃ g, w.heap.size = g := ⟨_, rfl⟩
  have HK := Lib.hid (show W1.heap[g]? = some (.cells C 25) by rw [← hW1]; exact blk_alloc (blk_new _ hg.symm) _)
  have HK2 := Lib.hid (show W1.heap[g + 1]? = some (.cells #[.int .u8 0, .int .u8 0, .int .u8 0, .int .u8 0, .int .i64 0, .int .i64 0] 30) by rw [← hW1]; exact blk_new _ (by simp [hg]))
  have hB1 : Below w.heap.size w W1 := by rw [← hW1]; exact (by repeat (first | exact Below.refl _ _ | assumption | refine Below.drew ?_ | refine below_drewN ?_ _ | refine Below.alloc ?_ (by first | omega | (simp; done) | (simp; omega)) _ | refine Below.setCell ?_ (by first | omega | (simp; done) | (simp; omega)) _))
  have hgw : w.heap.size ≤ g + 1 := by omega
  rw [hW1, hg]
  clear hW1 hg
  go_wp2_with (refine wpList_load_row rfl 25 (.tmp 3) rfl g rfl 25 C _ _ HK.out Tryd.underlying25 rfl HI.out ?_)
  refine (HV.out _).mono ?_
  rintro ee w2 ⟨rfl, hb2⟩
  have hB2 := below_via hB1 hb2
  have K2 := blk_below HK2.out hb2 (blk_lt HK2.out)
  have r0 := blk_cell K2 0
  have r1 := blk_cell K2 1
  have r2 := blk_cell K2 2
  have r3 := blk_cell K2 3
  have r4 := blk_cell K2 4
  have r5 := blk_cell K2 5
  have f0 := blk_free K2 0
  have f1 := blk_free K2 1
  have f2 := blk_free K2 2
  have f3 := blk_free K2 3
  have f4 := blk_free K2 4
  have f5 := blk_free K2 5
  clear K2 hb2 hB1
  go_wp2
  refine bodyPost_ret (v := finBad) ?_ rfl ⟨rfl, six_set hB2 hgw⟩
  simp [results, Tryd.results12, go_sem, finBad, r0, r1, r2, r3, r4, r5]

/-- An outcome that is none. -/
def zOut : Value := .agg #[.int .u8 0, .int .u8 0, .int .u8 0, .int .u8 0, .int .i64 0, .int .i64 0]
set_option maxRecDepth 100000 in
set_option maxHeartbeats 1000000 in
theorem ppar_none (C : Array Value) (t : Nat → Nat → Int) (hC : TabC C t) (v d : Nat) (hv : v ≤ 3) (hd : d ≤ 3) (h : rightT t = true) (hL0 : bidsL (finG t v) (d % 2) = []) (w : World) (hLa : LaidS w) :
    Calls Tryd.prog 12 #[.agg C, .int .u8 (v : Int), .int .u8 (d : Int)] w fun e w' => e = .returned (.tuple #[zOut, .int .i64 0, .int .i64 0]) ∧ Below w.heap.size w w' := by
  have HV := Lib.hid (fun W hW => bidding_ok C t hC v d hv hd h W hW)
  have HI := Lib.hid hC.info
  have HL := Lib.hid hLa
  have HL0 := Lib.hid hL0
  clear h hC hLa hL0
  go_enter Tryd.func12, Tryd.ntmps12
  go_upto_region 1 with fail
  obtain ⟨W1, hW1⟩ : ∃ W1, (w.alloc (.cells C 25)).alloc (.cells #[.int .u8 0, .int .u8 0, .int .u8 0, .int .u8 0, .int .i64 0, .int .i64 0] 30) = W1 := ⟨_, rfl⟩
  obtain ⟨g, hg⟩ : ∃ g, w.heap.size = g := ⟨_, rfl⟩
  have HK := Lib.hid (show W1.heap[g]? = some (.cells C 25) by rw [← hW1]; exact blk_alloc (blk_new _ hg.symm) _)
  have HK2 := Lib.hid (show W1.heap[g + 1]? = some (.cells #[.int .u8 0, .int .u8 0, .int .u8 0, .int .u8 0, .int .i64 0, .int .i64 0] 30) by rw [← hW1]; exact blk_new _ (by simp [hg]))
  have hB1 : Below w.heap.size w W1 := by rw [← hW1]; exact (by repeat (first | exact Below.refl _ _ | assumption | refine Below.drew ?_ | refine below_drewN ?_ _ | refine Below.alloc ?_ (by first | omega | (simp; done) | (simp; omega)) _ | refine Below.setCell ?_ (by first | omega | (simp; done) | (simp; omega)) _))
  have hgw : w.heap.size ≤ g + 1 := by omega
  rw [hW1, hg]
  clear hW1 hg
  go_wp2_with (refine wpList_load_row rfl 25 (.tmp 3) rfl g rfl 25 C _ _ HK.out Tryd.underlying25 rfl HI.out ?_)
  refine (HV.out _ (HL.out.go hB1)).mono ?_
  rintro ee w2 ⟨sv, rfl, hown, hb2⟩
  rw [HL0.out] at hown ⊢
  obtain ⟨A, c, rfl⟩ := own_form hown
  have hB2 := below_via hB1 hb2
  have K2 := blk_below HK2.out hb2 (blk_lt HK2.out)
  have r0 := blk_cell K2 0
  have r1 := blk_cell K2 1
  have r2 := blk_cell K2 2
  have r3 := blk_cell K2 3
  have r4 := blk_cell K2 4
  have r5 := blk_cell K2 5
  have f0 := blk_free K2 0
  have f1 := blk_free K2 1
  have f2 := blk_free K2 2
  have f3 := blk_free K2 3
  have f4 := blk_free K2 4
  have f5 := blk_free K2 5
  clear K2 hb2 hB1 hown
  generalize ((1 - sideAt (begS (finG t v) (d % 2)) ([] : List Nat).length : Nat) : Int) = z
  go_wp2
  refine bodyPost_ret (v := .tuple #[zOut, .int .i64 0, .int .i64 0]) ?_ rfl ⟨rfl, six_set hB2 hgw⟩
  simp [results, Tryd.results12, go_sem, zOut, r0, r1, r2, r3, r4, r5]

/-- A whole variable in a region that draws. -/
theorem yieldsIf_load_row {P : Program} {ops : Array Oper} {S : World → Prop} {op : Oper} {a : Act} (hw : Region.wanted op (yielded ops a.tmps) = true) (ty : TypeId) (x : Operand) (ho : op.op = .load ty x)
    (g : Nat) (hx : a.eval x = .pointer (some ⟨g, 0, none⟩)) (t : TypeId) (cs : Array Value) (fr : Nat × Nat) (d : TypeDesc) (hS : ∀ w, S w → w.heap[g]? = some (.cells cs t fr))
    (hu : P.underlying ty = some d) (hd : (match d with | .struct _ | .array _ _ => true | _ => false) = true) (hi : (P.info? ty).map (·.size) = some cs.size) : YieldsIf P ops S op (.agg cs) a :=
  .inl ⟨hw, fun w hw' => by
    unfold execOp
    simp only [ho, hx, Instr.loadAt, Instr.sureAddr, Sem.run_bind, Sem.run_pure, Result.andThen_ok, run_loadVar_row w g t ty cs fr d (hS w hw') hu hd hi]⟩

set_option maxRecDepth 100000 in
set_option maxHeartbeats 2000000 in
theorem ppar_some (C : Array Value) (t : Nat → Nat → Int) (hC : TabC C t) (v d : Nat) (hv : v ≤ 3) (hd : d ≤ 3) (h : rightT t = true) (j : Nat) (hLn : (bidsL (finG t v) (d % 2)).length = j + 1) (x q : Nat) (hx : (bidsL (finG t v) (d % 2)).getD j 0 = x) (hq : sideAt (begS (finG t v) (d % 2)) j = q) (w : World) (hLa : LaidS w) :
    Calls Tryd.prog 12 #[.agg C, .int .u8 (v : Int), .int .u8 (d : Int)] w fun e w' => e = .returned (.tuple #[ocV (lvl x) (dnm x) (rsk t x q) (bstS t (dnm x) q) (bstN t (dnm x) q), .int .i64 (finF t v x q), .int .i64 0]) ∧ Below w.heap.size w w' := by
  have hsp := bids_spec (finG t v) (d % 2) (by omega) j (by omega)
  have hbg := (beg_spec (finG t v) (d % 2) (by omega)).1
  have hsj := sideAt_succ (begS (finG t v) (d % 2)) j hbg
  have hq1 : q ≤ 1 := by rw [← hq]; exact sideAt_le _ _ hbg
  have HV := Lib.hid (fun W hW => bidding_ok C t hC v d hv hd h W hW)
  unfold BidR at HV
  rw [hLn, hsj, hq, sub_sub1 q hq1] at HV
  rw [hx] at hsp
  have HF := Lib.hid (fun W hW => pfinal_ok C t hC v x q hv hsp.1 hsp.2.1 hq1 h W hW)
  have hbc : (bC (bidsL (finG t v) (d % 2)))[j]? = some (.int .u8 (x : Int)) := by
    unfold bC
    rw [List.getElem?_map, List.getElem?_eq_getElem (by omega), ← hx, List.getD_eq_getElem?_getD, List.getElem?_eq_getElem (by omega)]; rfl
  unfold ocV at HF ⊢
  generalize lvl x = z1 at HF ⊢
  generalize rsk t x q = z3 at HF ⊢
  generalize bstN t (dnm x) q = z5 at HF ⊢
  generalize bstS t (dnm x) q = z4 at HF ⊢
  generalize dnm x = z2 at HF ⊢
  generalize finF t v x q = p at HF ⊢
  have HI := Lib.hid hC.info
  have HL := Lib.hid hLa
  have hj38 := bids_len (finG t v) (d % 2)
  rw [hLn] at hj38
  generalize bC (bidsL (finG t v) (d % 2)) = bs at HV hbc
  clear h hC hLa hsp hbg hsj hq hx hLn
  go_enter Tryd.func12, Tryd.ntmps12
  go_upto_region 1 with fail
  obtain ⟨W1, hW1⟩ : ∃ W1, (w.alloc (.cells C 25)).alloc (.cells #[.int .u8 0, .int .u8 0, .int .u8 0, .int .u8 0, .int .i64 0, .int .i64 0] 30) = W1 := ⟨_, rfl⟩
  obtain ⟨g, hg⟩ : ∃ g, w.heap.size = g := ⟨_, rfl⟩
  have HK := Lib.hid (show W1.heap[g]? = some (.cells C 25) by rw [← hW1]; exact blk_alloc (blk_new _ hg.symm) _)
  have HK2 := Lib.hid (show W1.heap[g + 1]? = some (.cells #[.int .u8 0, .int .u8 0, .int .u8 0, .int .u8 0, .int .i64 0, .int .i64 0] 30) by rw [← hW1]; exact blk_new _ (by simp [hg]))
  have hB1 : Below w.heap.size w W1 := by rw [← hW1]; exact (by repeat (first | exact Below.refl _ _ | assumption | refine Below.drew ?_ | refine below_drewN ?_ _ | refine Below.alloc ?_ (by first | omega | (simp; done) | (simp; omega)) _ | refine Below.setCell ?_ (by first | omega | (simp; done) | (simp; omega)) _))
  have hgw : w.heap.size ≤ g + 1 := by omega
  rw [hW1, hg]
  clear hW1 hg
  go_wp2_with (refine wpList_load_row rfl 25 (.tmp 3) rfl g rfl 25 C _ _ HK.out Tryd.underlying25 rfl HI.out ?_)
  refine (HV.out _ (HL.out.go hB1)).mono ?_
  rintro ee w2 ⟨sv, rfl, hown, hb2⟩
  have hB2 := below_via hB1 hb2
  have HK3 := Lib.hid (blk_below HK.out hb2 (blk_lt HK.out))
  have HO3 := Lib.hid (blk_below HK2.out hb2 (blk_lt HK2.out))
  obtain ⟨A, c, rfl⟩ := own_form hown
  obtain ⟨b, off, rfl, hbw, hcell⟩ := (Rd.of_own hown).pos (by omega)
  have e0 := (hcell j (by have := hown.1; omega)).trans hbc
  obtain ⟨n, hn⟩ : ∃ n, j + 1 = n := ⟨_, rfl⟩
  rw [hn] at hown ⊢
  have nz : ((n : Int) == 0) = false := beq_eq_false_iff_ne.2 (by omega)
  have hwn : IntKind.i64.wrap ((n : Int) - 1) = (j : Int) := by rw [← hn]; exact (IntWalk.i64_in _ (by omega)).trans (by omega)
  have hjn : (j : Int) < (n : Int) := by omega
  have hj0 : (0 : Int) ≤ (j : Int) := by omega
  have Hn := Lib.hid hn
  have HL3 := Lib.hid (HL.out.go hB2)
  have hd3 : Below w2.heap.size w2 w2.drew := (Below.refl _ _).drew
  have hbg1 : g + 1 < b := by have h1 := (hown.lt b rfl).1; have h2 := blk_lt HK2.out; omega
  clear hown hcell hb2 hB1 hbc hn
  go_upto_region 4 with fail
  refine wp_region_held_drew (S := (fun w1 => w1.heap[g]? = some (.cells C 25 (0, 0)) ∧ w1.cell? ⟨b, off + j, none⟩ = some (.int .u8 (x : Int)))) (by kernel_rfl) ⟨HK3.out, e0⟩ (fun hHeld => ?_)
  refine take_named (i := 0) (d := 29) (v := .agg C) rfl (by kernel_rfl) (by kernel_rfl) (by kernel_rfl) (by kernel_rfl) (fun _ _ _ h => h) (yieldsIf_load_row (by kernel_rfl) 25 (.tmp 3) rfl g rfl 25 C (0, 0) _ (fun w h => h.1) Tryd.underlying25 rfl HI.out) (by assumption) ?_
  (try simp only [Act.put, List.setIfInBounds_toArray, List.set_cons_zero, List.set_cons_succ])
  refine take_named (i := 1) (d := 30) (v := ?v1) rfl (by kernel_rfl) (by kernel_rfl) (by kernel_rfl) (by kernel_rfl) (fun _ _ _ h => h) (Or.inl ⟨by kernel_rfl, ?y1⟩) (by assumption) ?_
  case y1 => intro wq hSw; (try dsimp only at hSw); go_simp; (try with_reducible rfl)
  (try simp only [Act.put, List.setIfInBounds_toArray, List.set_cons_zero, List.set_cons_succ])
  refine take_named (i := 2) (d := 31) (v := ?v2) rfl (by kernel_rfl) (by kernel_rfl) (by kernel_rfl) (by kernel_rfl) (fun _ _ _ h => h) (Or.inl ⟨by kernel_rfl, ?y2⟩) (by assumption) ?_
  case y2 => intro wq hSw; (try dsimp only at hSw); go_simp; (try with_reducible rfl)
  (try simp only [Act.put, List.setIfInBounds_toArray, List.set_cons_zero, List.set_cons_succ])
  refine take_named (i := 3) (d := 32) (v := ?v3) rfl (by kernel_rfl) (by kernel_rfl) (by kernel_rfl) (by kernel_rfl) (fun _ _ _ h => h) (Or.inl ⟨by kernel_rfl, ?y3⟩) (by assumption) ?_
  case y3 => intro wq hSw; (try dsimp only at hSw); go_simp; (try with_reducible rfl)
  (try simp only [Act.put, List.setIfInBounds_toArray, List.set_cons_zero, List.set_cons_succ])
  refine take_named (i := 4) (d := 33) (v := ?v4) rfl (by kernel_rfl) (by kernel_rfl) (by kernel_rfl) (by kernel_rfl) (fun _ _ _ h => h) (Or.inl ⟨by kernel_rfl, ?y4⟩) (by assumption) ?_
  case y4 => intro wq hSw; (try dsimp only at hSw); go_simp; (try with_reducible rfl)
  (try simp only [Act.put, List.setIfInBounds_toArray, List.set_cons_zero, List.set_cons_succ])
  refine take_named (i := 5) (d := 34) (v := ?v5) rfl (by kernel_rfl) (by kernel_rfl) (by kernel_rfl) (by kernel_rfl) (fun _ _ _ h => h) (Or.inl ⟨by kernel_rfl, ?y5⟩) (by assumption) ?_
  case y5 => intro wq hSw; (try dsimp only at hSw); go_simp; (try with_reducible rfl)
  (try simp only [Act.put, List.setIfInBounds_toArray, List.set_cons_zero, List.set_cons_succ])
  refine take_named (i := 6) (d := 35) (v := ?v6) rfl (by kernel_rfl) (by kernel_rfl) (by kernel_rfl) (by kernel_rfl) (fun _ _ _ h => h) (Or.inl ⟨by kernel_rfl, ?y6⟩) (by assumption) ?_
  case y6 => intro wq hSw; (try dsimp only at hSw); go_simp; (try with_reducible rfl)
  (try simp only [Act.put, List.setIfInBounds_toArray, List.set_cons_zero, List.set_cons_succ])
  refine take_named (i := 7) (d := 36) (v := ?v7) rfl (by kernel_rfl) (by kernel_rfl) (by kernel_rfl) (by kernel_rfl) (fun _ _ _ h => h) (Or.inl ⟨by kernel_rfl, ?y7⟩) (by assumption) ?_
  case y7 => intro wq hSw; (try dsimp only at hSw); go_simp; (try with_reducible rfl)
  (try simp only [Act.put, List.setIfInBounds_toArray, List.set_cons_zero, List.set_cons_succ])
  refine take_named (i := 8) (d := 37) (v := ?v8) rfl (by kernel_rfl) (by kernel_rfl) (by kernel_rfl) (by kernel_rfl) (fun _ _ _ h => h) (Or.inl ⟨by kernel_rfl, ?y8⟩) (by assumption) ?_
  case y8 => intro wq hSw; (try dsimp only at hSw); go_simp; (try with_reducible rfl)
  (try simp only [Act.put, List.setIfInBounds_toArray, List.set_cons_zero, List.set_cons_succ])
  refine wpAnyH_ready (rs := [9]) (by kernel_rfl) (by simp) ?_
  refine AllReadyH.cons rfl (fun K hK => ?_) AllReadyH.nil
  go_simp
  refine (HF.out _ (HL3.out.go hd3)).mono ?_
  rintro ee w5 ⟨rfl, hb5⟩
  have hbx := hd3.trans (hb5.mono hd3.size)
  refine hK.out _ _ ⟨blk_below HK3.out hbx (blk_lt HK3.out), keepB0 hbx hbw e0⟩ (fun hHeld1 => ?_)
  clear hK K hHeld
  (try simp only [Act.put, List.setIfInBounds_toArray, List.set_cons_zero, List.set_cons_succ])
  refine take_named (i := 10) (d := 39) (v := ?u10) rfl (by kernel_rfl) (by kernel_rfl) (by kernel_rfl) (by kernel_rfl) (fun _ _ _ h => h) (Or.inl ⟨by kernel_rfl, ?z10⟩) (by assumption) ?_
  case z10 => intro wq hSw; (try dsimp only at hSw); go_simp; (try with_reducible rfl)
  (try simp only [Act.put, List.setIfInBounds_toArray, List.set_cons_zero, List.set_cons_succ])
  refine take_named (i := 11) (d := 40) (v := ?u11) rfl (by kernel_rfl) (by kernel_rfl) (by kernel_rfl) (by kernel_rfl) (fun _ _ _ h => h) (Or.inl ⟨by kernel_rfl, ?z11⟩) (by assumption) ?_
  case z11 => intro wq hSw; (try dsimp only at hSw); go_simp; (try with_reducible rfl)
  (try simp only [Act.put, List.setIfInBounds_toArray, List.set_cons_zero, List.set_cons_succ])
  refine take_named (i := 12) (d := 41) (v := ?u12) rfl (by kernel_rfl) (by kernel_rfl) (by kernel_rfl) (by kernel_rfl) (fun _ _ _ h => h) (Or.inl ⟨by kernel_rfl, ?z12⟩) (by assumption) ?_
  case z12 => intro wq hSw; (try dsimp only at hSw); go_simp; (try with_reducible rfl)
  (try simp only [Act.put, List.setIfInBounds_toArray, List.set_cons_zero, List.set_cons_succ])
  have K2 := blk_below HO3.out hbx (blk_lt HO3.out)
  have r0 := blk_cell K2 0
  have r1 := blk_cell K2 1
  have r2 := blk_cell K2 2
  have r3 := blk_cell K2 3
  have r4 := blk_cell K2 4
  have r5 := blk_cell K2 5
  have f0 := blk_free K2 0
  have f1 := blk_free K2 1
  have f2 := blk_free K2 2
  have f3 := blk_free K2 3
  have f4 := blk_free K2 4
  have f5 := blk_free K2 5
  have HBz := Lib.hid (below_via hB2 hbx)
  obtain ⟨W6, hW6⟩ : ∃ W6, (((((w5.setCell ⟨g + 1, 0, none⟩ (.int .u8 z1)).setCell ⟨g + 1, 1, none⟩ (.int .u8 (z2 : Int))).setCell ⟨g + 1, 2, none⟩ (.int .u8 z3)).setCell ⟨g + 1, 3, none⟩ (.int .u8 (z4 : Int))).setCell ⟨g + 1, 4, none⟩ (.int .i64 z5)).setCell ⟨g + 1, 5, none⟩ (.int .i64 0) = W6 := ⟨_, rfl⟩
  have hK6 : W6.heap[g + 1]? = some (.cells #[.int .u8 z1, .int .u8 (z2 : Int), .int .u8 z3, .int .u8 (z4 : Int), .int .i64 z5, .int .i64 0] 30 (0, 0)) := by rw [← hW6]; exact blk_set (blk_set (blk_set (blk_set (blk_set (blk_set K2 0 _) 1 _) 2 _) 3 _) 4 _) 5 _
  have hS6 : W6.heap[g]? = some (.cells C 25 (0, 0)) ∧ W6.cell? ⟨b, off + j, none⟩ = some (.int .u8 (x : Int)) := by
    rw [← hW6]
    have ne : ∀ i u (W : World), (W.setCell ⟨g + 1, i, none⟩ u).cell? ⟨b, off + j, none⟩ = W.cell? ⟨b, off + j, none⟩ := fun i u W => World.cell?_setCell_far _ _ _ _ (by show g + 1 ≠ b; omega)
    refine ⟨blk_far (blk_far (blk_far (blk_far (blk_far (blk_far (blk_below HK3.out hbx (blk_lt HK3.out)) ?_ _) ?_ _) ?_ _) ?_ _) ?_ _) ?_ _, ?_⟩
    iterate 6 (show g ≠ g + 1; omega)
    rw [ne, ne, ne, ne, ne, ne]
    exact keepB0 hbx hbw e0
  have HB6 := Lib.hid (show Below w.heap.size w W6 by rw [← hW6]; exact six_set (below_via hB2 hbx) hgw)
  have HK6 := Lib.hid hK6
  have HS6 := Lib.hid hS6
  have HW6 := Lib.hid hW6
  clear hK6 hS6 hW6 K2
  refine wpAnyH_ready (rs := [13]) (by kernel_rfl) (by simp) ?_
  refine AllReadyH.cons rfl (fun K hK => ?_) AllReadyH.nil
  go_simp
  rw [HW6.out]
  refine hK.out _ _ HS6.out (fun hHeld2 => ?_)
  clear hK K hHeld1
  (try simp only [Act.put, List.setIfInBounds_toArray, List.set_cons_zero, List.set_cons_succ])
  refine take_named (i := 14) (d := 7) (v := ?r14) rfl (by kernel_rfl) (by kernel_rfl) (by kernel_rfl) (by kernel_rfl) (fun _ _ _ h => h) (Or.inl ⟨by kernel_rfl, ?s14⟩) (by assumption) ?_
  case s14 => intro wq hSw; (try dsimp only at hSw); go_simp; (try with_reducible rfl)
  (try simp only [Act.put, List.setIfInBounds_toArray, List.set_cons_zero, List.set_cons_succ])
  refine take_named (i := 15) (d := 8) (v := ?r15) rfl (by kernel_rfl) (by kernel_rfl) (by kernel_rfl) (by kernel_rfl) (fun _ _ _ h => h) (Or.inl ⟨by kernel_rfl, ?s15⟩) (by assumption) ?_
  case s15 => intro wq hSw; (try dsimp only at hSw); go_simp; (try with_reducible rfl)
  (try simp only [Act.put, List.setIfInBounds_toArray, List.set_cons_zero, List.set_cons_succ])
  refine wpAnyH_done (by kernel_rfl) ?_ _
  have r0 := blk_cell HK6.out 0
  have r1 := blk_cell HK6.out 1
  have r2 := blk_cell HK6.out 2
  have r3 := blk_cell HK6.out 3
  have r4 := blk_cell HK6.out 4
  have r5 := blk_cell HK6.out 5
  go_wp2
  refine bodyPost_ret (v := .tuple #[.agg #[.int .u8 z1, .int .u8 (z2 : Int), .int .u8 z3, .int .u8 (z4 : Int), .int .i64 z5, .int .i64 0], .int .i64 p, .int .i64 0]) ?_ rfl ⟨rfl, HB6.out⟩
  simp [results, Tryd.results12, go_sem, r0, r1, r2, r3, r4, r5]

end Go.Proofs.YtilekdjjfdehcaaDoor
