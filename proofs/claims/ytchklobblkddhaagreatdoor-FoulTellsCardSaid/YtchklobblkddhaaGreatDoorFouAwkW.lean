/- The examples of the chapter: two boards of five entries. -/
import Derived.Test.YtchklobblkddhaaGreatDoorFouDemW
import Derived.Test.YtchklobblkddhaaGreatDoorAdjMadeW2
import Derived.Test.YtchklobblkddhaaGreatDoorRowMid
namespace Go.Proofs.YtchklobblkddhaaGreatDoor
open Go.RowKit Go.Shelf

/-- An entry of spades. -/
def spE (l t f : Int) : Ent := ⟨enCells 1 f (oo ⟨l, 3, 0, 0, t, 0⟩ zO) 0 0, 1, f, oo ⟨l, 3, 0, 0, t, 0⟩ zO, 0, 0⟩
theorem spE_ok (l t f : Int) (hl : 0 ≤ l ∧ l ≤ 255) (ht : -9223372036854775808 ≤ t ∧ t ≤ 9223372036854775807) (hf : 0 ≤ f ∧ f ≤ 255) : (spE l t f).Ok := by
  refine ⟨enCells_ok _ _ _ _ _, enCells_one _ _ _ _ _, oo_ok ⟨hl, (by decide : (0 : Int) ≤ 3 ∧ (3 : Int) ≤ 255), (by decide : (0 : Int) ≤ 0 ∧ (0 : Int) ≤ 255), (by decide : (0 : Int) ≤ 0 ∧ (0 : Int) ≤ 255), ht, (by decide : (-9223372036854775808 : Int) ≤ 0 ∧ (0 : Int) ≤ 9223372036854775807)⟩ (by unfold OcOk zO; decide), hf, ?_⟩
  show (0 : Int) ≤ 1 ∧ (1 : Int) ≤ 255
  decide

set_option maxRecDepth 100000 in
set_option maxHeartbeats 1000000 in
theorem fspades23 (l t f : Int) (w : World) : Calls Tryz.prog 13 #[.int .u8 l, .int .i64 t, .int .u8 f] w fun e w' => e = .returned (.agg (spE l t f).C) ∧ Below w.heap.size w w' := by
  obtain ⟨o, ho⟩ : ∃ o, oo ⟨l, 3, 0, 0, t, 0⟩ zO = o := ⟨_, rfl⟩
  have HC := Lib.hid (show (spE l t f).C = enCells 1 f (oo ⟨l, 3, 0, 0, t, 0⟩ zO) 0 0 from rfl)
  have HZ := Lib.hid (enC_size 1 f (oo ⟨l, 3, 0, 0, t, 0⟩ zO) 0 0)
  clear ho
  go_enter Tryz.func13, Tryz.ntmps13
  go_wp2_with (first | (refine plain_alloc_to rfl 51 rfl enZ enZ_zero ?_) | (refine wpList_build_to rfl 48 _ rfl (fourA (oo ⟨l, 3, 0, 0, t, 0⟩ zO)) (by kernel_rfl) ?_) | (refine wpList_build_to rfl 51 _ rfl (enCells 1 f (oo ⟨l, 3, 0, 0, t, 0⟩ zO) 0 0) (by kernel_rfl) ?_) | (refine wpList_store_new rfl 51 _ _ rfl (enCells 1 f (oo ⟨l, 3, 0, 0, t, 0⟩ zO) 0 0) _ _ rfl rfl HZ.out rfl (enCells_one _ _ _ _ _) ?_))
  exact bodyPost_ret (v := .agg (enCells 1 f (oo ⟨l, 3, 0, 0, t, 0⟩ zO) 0 0)) (results_cell_row (by rfl) _ _ w.heap.size 51 (enCells 1 f (oo ⟨l, 3, 0, 0, t, 0⟩ zO) 0 0) (0, 0) _ rfl (blk_new _ rfl) Tryz.underlying51 rfl HZ.out) rfl ⟨by rw [HC.out], (Below.refl _ _).alloc (Nat.le_refl _) _⟩

def awE : Ent := ⟨enCells 4 0 ex0 60 40, 4, 0, ex0, 60, 40⟩
def ls1 : List Ent := [spE 4 10 0, spE 4 10 0, spE 4 9 0, spE 2 10 1, spE 1 9 1]
def ls2 : List Ent := [spE 4 10 0, spE 4 10 0, spE 4 9 0, spE 2 10 1, awE]

theorem info_entry23 : (Tryz.prog.info? 51).map (fun i => (i.zero, i.size, i.bytes)) = some (some (.agg enZ), 33, 152) := by kernel_rfl
theorem ls1_ok : ∀ e ∈ ls1, e.Ok := fun e he => by
  rcases List.mem_cons.1 he with rfl | he
  · exact spE_ok _ _ _ (by decide) (by decide) (by decide)
  rcases List.mem_cons.1 he with rfl | he
  · exact spE_ok _ _ _ (by decide) (by decide) (by decide)
  rcases List.mem_cons.1 he with rfl | he
  · exact spE_ok _ _ _ (by decide) (by decide) (by decide)
  rcases List.mem_cons.1 he with rfl | he
  · exact spE_ok _ _ _ (by decide) (by decide) (by decide)
  rw [List.mem_singleton.1 he]
  exact spE_ok _ _ _ (by decide) (by decide) (by decide)
theorem awE_ok : awE.Ok := ⟨enCells_ok _ _ _ _ _, enCells_one _ _ _ _ _, oo_ok (by unfold OcOk zO; decide) (by unfold OcOk zO; decide), (by decide : (0 : Int) ≤ 0 ∧ (0 : Int) ≤ 255), (by decide : (0 : Int) ≤ 4 ∧ (4 : Int) ≤ 255)⟩
theorem ls2_ok : ∀ e ∈ ls2, e.Ok := fun e he => by
  rcases List.mem_cons.1 he with rfl | he
  · exact spE_ok _ _ _ (by decide) (by decide) (by decide)
  rcases List.mem_cons.1 he with rfl | he
  · exact spE_ok _ _ _ (by decide) (by decide) (by decide)
  rcases List.mem_cons.1 he with rfl | he
  · exact spE_ok _ _ _ (by decide) (by decide) (by decide)
  rcases List.mem_cons.1 he with rfl | he
  · exact spE_ok _ _ _ (by decide) (by decide) (by decide)
  rw [List.mem_singleton.1 he]
  exact awE_ok
theorem ls1_right : ∀ e ∈ ls1, e.right = true := by decide
theorem ls2_right : ∀ e ∈ ls2, e.right = true := by decide
theorem ls1_board : boardTo ls1 0 5 = [((17, 3), (7, 3), true), ((17, 3), (7, 3), true), ((2, 3), (22, 3), true), ((13, 2), (3, 2), true), ((3, 2), (13, 2), true)] := by decide
theorem ls2_board : boardTo ls2 0 5 = [((17, 3), (7, 3), true), ((17, 3), (7, 3), true), ((2, 3), (22, 3), true), ((4, 1), (4, 1), true), ((24, 5), (16, 5), true)] := by decide
theorem ls1_dem : demF ls1 0 = (20, 1) ∧ demF ls1 1 = (20, 1) := by decide
theorem ls2_dem : demF ls2 0 = (104, 5) ∧ demF ls2 1 = (96, 5) := by decide
theorem ls1_all : notVoid ls1 = 5 ∧ cntC ls1 = #[.int .i64 3, .int .i64 2, .int .i64 0, .int .i64 0] ∧ chkE ls1 = 0 := ⟨by decide, by kernel_rfl, by decide⟩
theorem ls1_fill : FillsTo 33 5 enZ [(0, .agg (spE 4 10 0).C), (1, .agg (spE 4 10 0).C), (2, .agg (spE 4 9 0).C), (3, .agg (spE 2 10 1).C), (4, .agg (spE 1 9 1).C)] (enL ls1).toArray := by unfold FillsTo; kernel_rfl

theorem q23_any (n d : Int) (w : World) : Calls Tryz.prog 14 #[.int .i64 n, .int .i64 d] w fun e w' => e = .returned (.agg #[.int .i64 n, .int .i64 d]) ∧ Below w.heap.size w w' := by
  go_enter Tryz.func14, Tryz.ntmps14
  go_wp2
  exact bodyPost_ret (v := .agg #[.int .i64 n, .int .i64 d]) (by simp [results, Tryz.results14, go_sem]) rfl ⟨rfl, (by repeat (first | exact Below.refl _ _ | assumption | refine Below.drew ?_ | refine below_drewN ?_ _ | refine Below.alloc ?_ (by first | omega | (simp; done) | (simp; omega)) _ | refine Below.setCell ?_ (by first | omega | (simp; done) | (simp; omega)) _))⟩
theorem eq4 (a b c d a' b' c' d' : Int) (w : World) : (Op.equalIn 10000 32 (.agg #[.int .i64 a, .int .i64 b, .int .i64 c, .int .i64 d]) (.agg #[.int .i64 a', .int .i64 b', .int .i64 c', .int .i64 d'])).run Tryz.prog w = .ok (a == a' && b == b' && c == c' && d == d') w := by
  have u3 := Tryz.underlying3
  have a3 := Tryz.isAgg3
  have z3 := Tryz.sizeOf3
  rw [show (10000 : Nat) = 9999 + 1 from rfl, Op.equalIn]
  simp only [Sem.run_bind, run_underlying Tryz.underlying32, Result.andThen_ok]
  simp only [Std.Legacy.Range.forIn_eq_forIn_range', Std.Legacy.Range.size, Nat.sub_zero, Nat.add_sub_cancel, Nat.div_one, List.range'_succ, List.range'_zero, List.forIn_cons, List.forIn_nil]
  go_simp
  by_cases h1 : a = a' <;> by_cases h2 : b = b' <;> by_cases h3 : c = c' <;> by_cases h4 : d = d' <;> simp [h1, h2, h3, h4]
/-- All, Board and Demand of five entries. -/
theorem all5 (L : List Ent) (hl : L.length = 5) (hO : ∀ e ∈ L, e.Ok) (hR : ∀ e ∈ L, e.right = true) (A : Option Addr) (n : Int) (C : Array Value) (hn : (notVoid L : Int) = n) (hC : cntC L = C) (w : World) (hA : Rd w w.heap.size 33 A 5 (enL L)) (hL : LaidS w) :
    Calls Tryz.prog 8 #[.slice A 5 5] w fun e w' => e = .returned (.tuple #[.int .i64 n, .agg C, .int .i64 0]) ∧ Below w.heap.size w w' := by
  have h := fall_ok L A 5 w hO (by rw [hl]; exact hA) (by omega) hL (by unfold chkE; rw [if_pos (List.all_eq_true.2 hR), if_neg (by omega)])
  rw [hl, hn, hC] at h
  exact h
theorem board5 (L : List Ent) (hl : L.length = 5) (hO : ∀ e ∈ L, e.Ok) (hR : ∀ e ∈ L, e.right = true) (A : Option Addr) (B : List Ln) (hB : boardTo L 0 5 = B) (w : World) (hA : Rd w w.heap.size 33 A 5 (enL L)) (hL : LaidS w) (hLm : Laid w) :
    Calls Tryz.prog 6 #[.slice A 5 5, .int .u8 0] w fun e w' => ∃ g cap, e = .returned (.tuple #[.slice (some ⟨g, 0, none⟩) 5 cap, .int .i64 0]) ∧ w.heap.size ≤ g ∧ g < w'.heap.size ∧ (∀ j v, (lnC B)[j]? = some v → w'.cell? ⟨g, j, none⟩ = some v) ∧ Below w.heap.size w w' := by
  have h := fboard_ok L A 5 0 w hO (by rw [hl]; exact hA) (by omega) hL hLm hR (by decide)
  rw [hl, hB] at h
  refine h.mono ?_
  rintro e w' ⟨v, rfl, ho, hb⟩
  obtain ⟨g, cap, rfl⟩ := own_at' ho (by decide)
  have hlt := ho.lt g rfl
  refine ⟨g, cap, rfl, hlt.1, hlt.2, fun j v hv => ?_, hb⟩
  obtain ⟨b, off, e1, _, e3⟩ := (Rd.of_own ho).pos (by decide)
  injection e1 with e1
  injection e1 with e1 e2
  subst e1 e2
  have := e3 j (List.getElem?_eq_some_iff.1 hv).1
  rw [Nat.zero_add] at this
  rw [this]; exact hv
theorem demand5 (L : List Ent) (hl : L.length = 5) (hO : ∀ e ∈ L, e.Ok) (hR : ∀ e ∈ L, e.right = true) (A : Option Addr) (p q : Pt) (hp : demF L 0 = p ∧ demF L 1 = q) (w : World) (hA : Rd w w.heap.size 33 A 5 (enL L)) (hL : LaidS w) :
    Calls Tryz.prog 10 #[.slice A 5 5] w fun e w' => e = .returned (.tuple #[fV p, fV q, .int .i64 0]) ∧ Below w.heap.size w w' := by
  have h := fdemand_ok L A 5 w hO (by rw [hl]; exact hA) (by omega) hL hR
  rw [hl, hp.1, hp.2] at h
  exact h

set_option maxRecDepth 100000 in
set_option maxHeartbeats 4000000 in
theorem awake23 (w : World) (hL : LaidS w) (hLm : Laid w) : Calls Tryz.prog 4 #[] w fun e w' => e = .returned (.bool true) ∧ Below w.heap.size w w' := by
  have HL := Lib.hid hL
  have HLm := Lib.hid hLm
  have HS := Lib.hid fspades23
  obtain ⟨i0, hi, hz0, hz1, hz2⟩ := info_parts info_entry23
  have hfill := ls1_fill
  have hs0 := HS.out 4 10 0
  have hs1 := HS.out 4 9 0
  have hs2 := HS.out 2 10 1
  have hs3 := HS.out 1 9 1
  generalize hc0 : (spE 4 10 0).C = c0 at hfill hs0
  generalize hc1 : (spE 4 9 0).C = c1 at hfill hs1
  generalize hc2 : (spE 2 10 1).C = c2 at hfill hs2
  generalize hc3 : (spE 1 9 1).C = c3 at hfill hs3
  generalize hD : (enL ls1).toArray = D at hfill
  have HFill := Lib.hid hfill
  have HS0 := Lib.hid hs0
  have HS1 := Lib.hid hs1
  have HS2 := Lib.hid hs2
  have HS3 := Lib.hid hs3
  have HC0 := Lib.hid hc0
  have HC1 := Lib.hid hc1
  have HC2 := Lib.hid hc2
  have HC3 := Lib.hid hc3
  have HD := Lib.hid hD
  clear hL hLm hfill hs0 hs1 hs2 hs3 hc0 hc1 hc2 hc3 hD HS
  go_enter Tryz.func4, Tryz.ntmps4
  go_wp2_with fail
  refine (HS0.out _).mono ?_
  rintro ee w1 ⟨rfl, hb1⟩
  go_wp2_with fail
  refine (HS0.out _).mono ?_
  rintro ee w2 ⟨rfl, hb2⟩
  go_wp2_with fail
  refine (HS1.out _).mono ?_
  rintro ee w3 ⟨rfl, hb3⟩
  go_wp2_with fail
  refine (HS2.out _).mono ?_
  rintro ee w4 ⟨rfl, hb4⟩
  go_wp2_with fail
  refine (HS3.out _).mono ?_
  rintro ee w5 ⟨rfl, hb5⟩
  have hB5 : Below w.heap.size w w5 := below_via (below_via (below_via (below_via hb1 hb2) hb3) hb4) hb5
  clear hb1 hb2 hb3 hb4 hb5
  go_wp2_with (refine wpList_buildSlice_to rfl 22 51 5 _ rfl i0 (.agg enZ) 33 D Tryz.underlying22 hi hz0 hz1 (by decide) (by decide) ?hf ?_)
  case hf =>
    exact HFill.out
  obtain ⟨g, hg⟩ : ∃ g, w5.heap.size = g := ⟨_, rfl⟩
  obtain ⟨W6, hW6⟩ : ∃ V, w5.alloc (.cells D 51) = V := ⟨_, rfl⟩
  have k6 : W6.heap[g]? = some (.cells D 51 (0, 0)) := by rw [← hW6]; exact blk_new _ hg.symm
  have hB6 : Below w.heap.size w W6 := by rw [← hW6]; exact hB5.alloc hB5.size _
  have hgw : w.heap.size ≤ g := by rw [← hg]; exact hB5.size
  have hr6 : Rd W6 W6.heap.size 33 (some ⟨g, 0, none⟩) 5 (enL ls1) := blk_rd_e (L := ls1) (fun e he => (ls1_ok e he).1.1) k6 (by rw [← HD.out]; show ((enL ls1).toArray.toList).take _ = _; rw [List.take_of_length_le (by rw [enL_len ls1 (fun e he => (ls1_ok e he).1.1)]; exact Nat.le_refl _)])
  rw [hW6, hg]
  clear hW6 hg hB5
  have HR6 := Lib.hid hr6
  have HB6 := Lib.hid hB6
  have K6 := Lib.hid k6
  have hg6 := blk_lt k6
  clear hr6 hB6 k6
  refine (all5 ls1 rfl ls1_ok ls1_right _ 5 _ (by rw [ls1_all.1]; rfl) ls1_all.2.1 W6 HR6.out (HL.out.go HB6.out)).mono ?_
  rintro ee w7 ⟨rfl, hb7⟩
  have HB7 := Lib.hid hb7
  clear hb7
  go_wp2_with fail
  obtain ⟨f3, hf3⟩ : ∃ f, w7.heap.size = f := ⟨_, rfl⟩
  obtain ⟨W8, hW8⟩ : ∃ V, w7.alloc (.cells #[.int .i64 3, .int .i64 2, .int .i64 0, .int .i64 0] 32) = V := ⟨_, rfl⟩
  have k8 : W8.heap[f3]? = some (.cells #[.int .i64 3, .int .i64 2, .int .i64 0, .int .i64 0] 32) := by rw [← hW8]; exact blk_new _ hf3.symm
  have hb8 : Below W6.heap.size W6 W8 := by rw [← hW8]; exact HB7.out.alloc HB7.out.size _
  rw [hW8, hf3]
  clear hW8 hf3
  have HB8 := Lib.hid hb8
  have K8 := Lib.hid k8
  clear hb8 k8 HB7
  refine (board5 ls1 rfl ls1_ok ls1_right _ _ ls1_board W8 (HR6.out.go HB8.out) (HL.out.go (below_via HB6.out HB8.out)) (HLm.out.below (below_via HB6.out HB8.out) HLm.out.lt)).mono ?_
  rintro ee w9 ⟨ga, capa, rfl, hga, hga2, hcells, hb9⟩
  have HC9 := Lib.hid hcells
  have HB9 := Lib.hid (HB8.out.trans (hb9.mono HB8.out.size))
  have K9 := Lib.hid (blk_below K8.out hb9 (blk_lt K8.out))
  clear hcells hb9 HB8 K8
  go_wp2_with fail
  refine (demand5 ls1 rfl ls1_ok ls1_right _ _ _ ls1_dem w9 (HR6.out.go HB9.out) (HL.out.go (below_via HB6.out HB9.out))).mono ?_
  unfold fV
  rintro ee w10 ⟨rfl, hb10⟩
  have HB10 := Lib.hid (HB9.out.trans (hb10.mono HB9.out.size))
  have K10 := Lib.hid (blk_below K9.out hb10 (blk_lt K9.out))
  have HC10 := Lib.hid (fun j v h => (hb10.cell (p := ⟨ga, j, none⟩) hga2).trans (HC9.out j v h))
  have hga3 : ga < w10.heap.size := Nat.lt_of_lt_of_le hga2 hb10.size
  clear hb10 HB9 K9 HC9 hga2
  go_upto_region 5 with fail
  obtain ⟨P, hP⟩ : ∃ P, w10.heap.size = P := ⟨_, rfl⟩
  obtain ⟨Wb, hWb⟩ : ∃ V, (w10.alloc (.cells #[.int .i64 20, .int .i64 1] 36)).alloc (.cells #[.int .i64 20, .int .i64 1] 36) = V := ⟨_, rfl⟩
  have hbb : Below w10.heap.size w10 Wb := by rw [← hWb]; exact (by repeat (first | exact Below.refl _ _ | assumption | refine Below.drew ?_ | refine below_drewN ?_ _ | refine Below.alloc ?_ (by first | omega | (simp; done) | (simp; omega)) _ | refine Below.setCell ?_ (by first | omega | (simp; done) | (simp; omega)) _))
  have hwP : w.heap.size ≤ P := by rw [← hP]; exact (below_via HB6.out HB10.out).size
  have KP := Lib.hid (show Wb.heap[P]? = some (.cells #[.int .i64 20, .int .i64 1] 36 (0, 0)) by rw [← hWb]; exact blk_alloc (blk_new _ hP.symm) _)
  have KP1 := Lib.hid (show Wb.heap[P + 1]? = some (.cells #[.int .i64 20, .int .i64 1] 36 (0, 0)) by rw [← hWb]; exact blk_new _ (by simp [hP]))
  have Kf := Lib.hid (blk_below K10.out hbb (blk_lt K10.out))
  have HCb := Lib.hid (fun j v h => (hbb.cell (p := ⟨ga, j, none⟩) hga3).trans (HC10.out j v h))
  have HBb := Lib.hid (HB10.out.trans (hbb.mono HB10.out.size))
  have l3 := blk_lt Kf.out
  have lP := blk_lt KP.out
  have lP1 := blk_lt KP1.out
  have lga : ga < Wb.heap.size := Nat.lt_of_lt_of_le hga3 hbb.size
  rw [hWb, hP]
  clear hWb hP hbb HB10 K10 HC10 hga3
  have heq := eq4 3 2 0 0 3 2 0 0
  have HQ := Lib.hid q23_any
  have hSb : Wb.cell? ⟨f3, 0, none⟩ = some (.int .i64 3) ∧ Wb.cell? ⟨f3, 1, none⟩ = some (.int .i64 2) ∧ Wb.cell? ⟨f3, 2, none⟩ = some (.int .i64 0) ∧ Wb.cell? ⟨f3, 3, none⟩ = some (.int .i64 0) ∧ Wb.cell? ⟨P, 0, none⟩ = some (.int .i64 20) ∧ Wb.cell? ⟨P, 1, none⟩ = some (.int .i64 1) ∧ Wb.cell? ⟨P + 1, 0, none⟩ = some (.int .i64 20) ∧ Wb.cell? ⟨P + 1, 1, none⟩ = some (.int .i64 1) ∧ Wb.cell? ⟨ga, 0, none⟩ = some (.int .i64 17) ∧ Wb.cell? ⟨ga, 1, none⟩ = some (.int .i64 3) ∧ Wb.cell? ⟨ga, 4, none⟩ = some (.bool true) ∧ Wb.cell? ⟨ga, 5, none⟩ = some (.int .i64 17) ∧ Wb.cell? ⟨ga, 6, none⟩ = some (.int .i64 3) ∧ Wb.cell? ⟨ga, 10, none⟩ = some (.int .i64 2) ∧ Wb.cell? ⟨ga, 11, none⟩ = some (.int .i64 3) ∧ Wb.cell? ⟨ga, 15, none⟩ = some (.int .i64 13) ∧ Wb.cell? ⟨ga, 16, none⟩ = some (.int .i64 2) ∧ Wb.cell? ⟨ga, 20, none⟩ = some (.int .i64 3) ∧ Wb.cell? ⟨ga, 21, none⟩ = some (.int .i64 2) ∧ Below Wb.heap.size Wb Wb.drew := ⟨blk_cell Kf.out 0, blk_cell Kf.out 1, blk_cell Kf.out 2, blk_cell Kf.out 3, blk_cell KP.out 0, blk_cell KP.out 1, blk_cell KP1.out 0, blk_cell KP1.out 1, HCb.out 0 _ rfl, HCb.out 1 _ rfl, HCb.out 4 _ rfl, HCb.out 5 _ rfl, HCb.out 6 _ rfl, HCb.out 10 _ rfl, HCb.out 11 _ rfl, HCb.out 15 _ rfl, HCb.out 16 _ rfl, HCb.out 20 _ rfl, HCb.out 21 _ rfl, (Below.refl _ _).drew⟩
  have HKs := Lib.hid (fun (W w' : World) (h : W.cell? ⟨f3, 0, none⟩ = some (.int .i64 3) ∧ W.cell? ⟨f3, 1, none⟩ = some (.int .i64 2) ∧ W.cell? ⟨f3, 2, none⟩ = some (.int .i64 0) ∧ W.cell? ⟨f3, 3, none⟩ = some (.int .i64 0) ∧ W.cell? ⟨P, 0, none⟩ = some (.int .i64 20) ∧ W.cell? ⟨P, 1, none⟩ = some (.int .i64 1) ∧ W.cell? ⟨P + 1, 0, none⟩ = some (.int .i64 20) ∧ W.cell? ⟨P + 1, 1, none⟩ = some (.int .i64 1) ∧ W.cell? ⟨ga, 0, none⟩ = some (.int .i64 17) ∧ W.cell? ⟨ga, 1, none⟩ = some (.int .i64 3) ∧ W.cell? ⟨ga, 4, none⟩ = some (.bool true) ∧ W.cell? ⟨ga, 5, none⟩ = some (.int .i64 17) ∧ W.cell? ⟨ga, 6, none⟩ = some (.int .i64 3) ∧ W.cell? ⟨ga, 10, none⟩ = some (.int .i64 2) ∧ W.cell? ⟨ga, 11, none⟩ = some (.int .i64 3) ∧ W.cell? ⟨ga, 15, none⟩ = some (.int .i64 13) ∧ W.cell? ⟨ga, 16, none⟩ = some (.int .i64 2) ∧ W.cell? ⟨ga, 20, none⟩ = some (.int .i64 3) ∧ W.cell? ⟨ga, 21, none⟩ = some (.int .i64 2) ∧ Below Wb.heap.size Wb W) (hb : Below W.heap.size W w') => (show w'.cell? ⟨f3, 0, none⟩ = some (.int .i64 3) ∧ w'.cell? ⟨f3, 1, none⟩ = some (.int .i64 2) ∧ w'.cell? ⟨f3, 2, none⟩ = some (.int .i64 0) ∧ w'.cell? ⟨f3, 3, none⟩ = some (.int .i64 0) ∧ w'.cell? ⟨P, 0, none⟩ = some (.int .i64 20) ∧ w'.cell? ⟨P, 1, none⟩ = some (.int .i64 1) ∧ w'.cell? ⟨P + 1, 0, none⟩ = some (.int .i64 20) ∧ w'.cell? ⟨P + 1, 1, none⟩ = some (.int .i64 1) ∧ w'.cell? ⟨ga, 0, none⟩ = some (.int .i64 17) ∧ w'.cell? ⟨ga, 1, none⟩ = some (.int .i64 3) ∧ w'.cell? ⟨ga, 4, none⟩ = some (.bool true) ∧ w'.cell? ⟨ga, 5, none⟩ = some (.int .i64 17) ∧ w'.cell? ⟨ga, 6, none⟩ = some (.int .i64 3) ∧ w'.cell? ⟨ga, 10, none⟩ = some (.int .i64 2) ∧ w'.cell? ⟨ga, 11, none⟩ = some (.int .i64 3) ∧ w'.cell? ⟨ga, 15, none⟩ = some (.int .i64 13) ∧ w'.cell? ⟨ga, 16, none⟩ = some (.int .i64 2) ∧ w'.cell? ⟨ga, 20, none⟩ = some (.int .i64 3) ∧ w'.cell? ⟨ga, 21, none⟩ = some (.int .i64 2) ∧ Below Wb.heap.size Wb w' from ⟨(hb.cell (p := ⟨f3, 0, none⟩) (Nat.lt_of_lt_of_le l3 h.2.2.2.2.2.2.2.2.2.2.2.2.2.2.2.2.2.2.2.size)).trans h.1, (hb.cell (p := ⟨f3, 1, none⟩) (Nat.lt_of_lt_of_le l3 h.2.2.2.2.2.2.2.2.2.2.2.2.2.2.2.2.2.2.2.size)).trans h.2.1, (hb.cell (p := ⟨f3, 2, none⟩) (Nat.lt_of_lt_of_le l3 h.2.2.2.2.2.2.2.2.2.2.2.2.2.2.2.2.2.2.2.size)).trans h.2.2.1, (hb.cell (p := ⟨f3, 3, none⟩) (Nat.lt_of_lt_of_le l3 h.2.2.2.2.2.2.2.2.2.2.2.2.2.2.2.2.2.2.2.size)).trans h.2.2.2.1, (hb.cell (p := ⟨P, 0, none⟩) (Nat.lt_of_lt_of_le lP h.2.2.2.2.2.2.2.2.2.2.2.2.2.2.2.2.2.2.2.size)).trans h.2.2.2.2.1, (hb.cell (p := ⟨P, 1, none⟩) (Nat.lt_of_lt_of_le lP h.2.2.2.2.2.2.2.2.2.2.2.2.2.2.2.2.2.2.2.size)).trans h.2.2.2.2.2.1, (hb.cell (p := ⟨P + 1, 0, none⟩) (Nat.lt_of_lt_of_le lP1 h.2.2.2.2.2.2.2.2.2.2.2.2.2.2.2.2.2.2.2.size)).trans h.2.2.2.2.2.2.1, (hb.cell (p := ⟨P + 1, 1, none⟩) (Nat.lt_of_lt_of_le lP1 h.2.2.2.2.2.2.2.2.2.2.2.2.2.2.2.2.2.2.2.size)).trans h.2.2.2.2.2.2.2.1, (hb.cell (p := ⟨ga, 0, none⟩) (Nat.lt_of_lt_of_le lga h.2.2.2.2.2.2.2.2.2.2.2.2.2.2.2.2.2.2.2.size)).trans h.2.2.2.2.2.2.2.2.1, (hb.cell (p := ⟨ga, 1, none⟩) (Nat.lt_of_lt_of_le lga h.2.2.2.2.2.2.2.2.2.2.2.2.2.2.2.2.2.2.2.size)).trans h.2.2.2.2.2.2.2.2.2.1, (hb.cell (p := ⟨ga, 4, none⟩) (Nat.lt_of_lt_of_le lga h.2.2.2.2.2.2.2.2.2.2.2.2.2.2.2.2.2.2.2.size)).trans h.2.2.2.2.2.2.2.2.2.2.1, (hb.cell (p := ⟨ga, 5, none⟩) (Nat.lt_of_lt_of_le lga h.2.2.2.2.2.2.2.2.2.2.2.2.2.2.2.2.2.2.2.size)).trans h.2.2.2.2.2.2.2.2.2.2.2.1, (hb.cell (p := ⟨ga, 6, none⟩) (Nat.lt_of_lt_of_le lga h.2.2.2.2.2.2.2.2.2.2.2.2.2.2.2.2.2.2.2.size)).trans h.2.2.2.2.2.2.2.2.2.2.2.2.1, (hb.cell (p := ⟨ga, 10, none⟩) (Nat.lt_of_lt_of_le lga h.2.2.2.2.2.2.2.2.2.2.2.2.2.2.2.2.2.2.2.size)).trans h.2.2.2.2.2.2.2.2.2.2.2.2.2.1, (hb.cell (p := ⟨ga, 11, none⟩) (Nat.lt_of_lt_of_le lga h.2.2.2.2.2.2.2.2.2.2.2.2.2.2.2.2.2.2.2.size)).trans h.2.2.2.2.2.2.2.2.2.2.2.2.2.2.1, (hb.cell (p := ⟨ga, 15, none⟩) (Nat.lt_of_lt_of_le lga h.2.2.2.2.2.2.2.2.2.2.2.2.2.2.2.2.2.2.2.size)).trans h.2.2.2.2.2.2.2.2.2.2.2.2.2.2.2.1, (hb.cell (p := ⟨ga, 16, none⟩) (Nat.lt_of_lt_of_le lga h.2.2.2.2.2.2.2.2.2.2.2.2.2.2.2.2.2.2.2.size)).trans h.2.2.2.2.2.2.2.2.2.2.2.2.2.2.2.2.1, (hb.cell (p := ⟨ga, 20, none⟩) (Nat.lt_of_lt_of_le lga h.2.2.2.2.2.2.2.2.2.2.2.2.2.2.2.2.2.2.2.size)).trans h.2.2.2.2.2.2.2.2.2.2.2.2.2.2.2.2.2.1, (hb.cell (p := ⟨ga, 21, none⟩) (Nat.lt_of_lt_of_le lga h.2.2.2.2.2.2.2.2.2.2.2.2.2.2.2.2.2.2.2.size)).trans h.2.2.2.2.2.2.2.2.2.2.2.2.2.2.2.2.2.2.1, h.2.2.2.2.2.2.2.2.2.2.2.2.2.2.2.2.2.2.2.trans (hb.mono h.2.2.2.2.2.2.2.2.2.2.2.2.2.2.2.2.2.2.2.size)⟩))
  refine wp_region_held_drew (S := (fun w' => w'.cell? ⟨f3, 0, none⟩ = some (.int .i64 3) ∧ w'.cell? ⟨f3, 1, none⟩ = some (.int .i64 2) ∧ w'.cell? ⟨f3, 2, none⟩ = some (.int .i64 0) ∧ w'.cell? ⟨f3, 3, none⟩ = some (.int .i64 0) ∧ w'.cell? ⟨P, 0, none⟩ = some (.int .i64 20) ∧ w'.cell? ⟨P, 1, none⟩ = some (.int .i64 1) ∧ w'.cell? ⟨P + 1, 0, none⟩ = some (.int .i64 20) ∧ w'.cell? ⟨P + 1, 1, none⟩ = some (.int .i64 1) ∧ w'.cell? ⟨ga, 0, none⟩ = some (.int .i64 17) ∧ w'.cell? ⟨ga, 1, none⟩ = some (.int .i64 3) ∧ w'.cell? ⟨ga, 4, none⟩ = some (.bool true) ∧ w'.cell? ⟨ga, 5, none⟩ = some (.int .i64 17) ∧ w'.cell? ⟨ga, 6, none⟩ = some (.int .i64 3) ∧ w'.cell? ⟨ga, 10, none⟩ = some (.int .i64 2) ∧ w'.cell? ⟨ga, 11, none⟩ = some (.int .i64 3) ∧ w'.cell? ⟨ga, 15, none⟩ = some (.int .i64 13) ∧ w'.cell? ⟨ga, 16, none⟩ = some (.int .i64 2) ∧ w'.cell? ⟨ga, 20, none⟩ = some (.int .i64 3) ∧ w'.cell? ⟨ga, 21, none⟩ = some (.int .i64 2) ∧ Below Wb.heap.size Wb w')) (by kernel_rfl) hSb (fun hHeld => ?_)
  refine take_named23 (i := 0) (d := 34) (v := ?va0) rfl (by kernel_rfl) (by kernel_rfl) (by kernel_rfl) (by kernel_rfl) (fun _ _ _ h => h) (Or.inl ⟨by kernel_rfl, ?ya0⟩) (by assumption) ?_
  case ya0 => intro wq hSw; (try dsimp only at hSw); go_simp; (try with_reducible rfl)
  (try simp only [Act.put, List.setIfInBounds_toArray, List.set_cons_zero, List.set_cons_succ])
  refine take_named23 (i := 1) (d := 35) (v := ?va1) rfl (by kernel_rfl) (by kernel_rfl) (by kernel_rfl) (by kernel_rfl) (fun _ _ _ h => h) (Or.inl ⟨by kernel_rfl, ?ya1⟩) (by assumption) ?_
  case ya1 => intro wq hSw; (try dsimp only at hSw); go_simp; (try with_reducible rfl)
  (try simp only [Act.put, List.setIfInBounds_toArray, List.set_cons_zero, List.set_cons_succ])
  refine take_named23 (i := 2) (d := 36) (v := ?va2) rfl (by kernel_rfl) (by kernel_rfl) (by kernel_rfl) (by kernel_rfl) (fun _ _ _ h => h) (Or.inl ⟨by kernel_rfl, ?ya2⟩) (by assumption) ?_
  case ya2 => intro wq hSw; (try dsimp only at hSw); go_simp; (try with_reducible rfl)
  (try simp only [Act.put, List.setIfInBounds_toArray, List.set_cons_zero, List.set_cons_succ])
  refine take_named23 (i := 3) (d := 37) (v := ?va3) rfl (by kernel_rfl) (by kernel_rfl) (by kernel_rfl) (by kernel_rfl) (fun _ _ _ h => h) (Or.inl ⟨by kernel_rfl, ?ya3⟩) (by assumption) ?_
  case ya3 => intro wq hSw; (try dsimp only at hSw); go_simp; (try with_reducible rfl)
  (try simp only [Act.put, List.setIfInBounds_toArray, List.set_cons_zero, List.set_cons_succ])
  refine take_named23 (i := 4) (d := 38) (v := ?va4) rfl (by kernel_rfl) (by kernel_rfl) (by kernel_rfl) (by kernel_rfl) (fun _ _ _ h => h) (Or.inl ⟨by kernel_rfl, ?ya4⟩) (by assumption) ?_
  case ya4 => intro wq hSw; (try dsimp only at hSw); go_simp; (try with_reducible rfl)
  (try simp only [Act.put, List.setIfInBounds_toArray, List.set_cons_zero, List.set_cons_succ])
  refine take_named23 (i := 5) (d := 39) (v := ?va5) rfl (by kernel_rfl) (by kernel_rfl) (by kernel_rfl) (by kernel_rfl) (fun _ _ _ h => h) (Or.inl ⟨by kernel_rfl, ?ya5⟩) (by assumption) ?_
  case ya5 => intro wq hSw; (try dsimp only at hSw); go_simp; (try with_reducible rfl)
  (try simp only [Act.put, List.setIfInBounds_toArray, List.set_cons_zero, List.set_cons_succ])
  refine take_named23 (i := 6) (d := 40) (v := ?va6) rfl (by kernel_rfl) (by kernel_rfl) (by kernel_rfl) (by kernel_rfl) (fun _ _ _ h => h) (Or.inl ⟨by kernel_rfl, ?ya6⟩) (by assumption) ?_
  case ya6 => intro wq hSw; (try dsimp only at hSw); go_simp; (try with_reducible rfl)
  (try simp only [Act.put, List.setIfInBounds_toArray, List.set_cons_zero, List.set_cons_succ])
  refine take_named23 (i := 7) (d := 41) (v := ?va7) rfl (by kernel_rfl) (by kernel_rfl) (by kernel_rfl) (by kernel_rfl) (fun _ _ _ h => h) (Or.inl ⟨by kernel_rfl, ?ya7⟩) (by assumption) ?_
  case ya7 => intro wq hSw; (try dsimp only at hSw); go_simp; (try with_reducible rfl)
  (try simp only [Act.put, List.setIfInBounds_toArray, List.set_cons_zero, List.set_cons_succ])
  refine take_named23 (i := 8) (d := 42) (v := ?va8) rfl (by kernel_rfl) (by kernel_rfl) (by kernel_rfl) (by kernel_rfl) (fun _ _ _ h => h) (Or.inl ⟨by kernel_rfl, ?ya8⟩) (by assumption) ?_
  case ya8 => intro wq hSw; (try dsimp only at hSw); go_simp; (try with_reducible rfl)
  (try simp only [Act.put, List.setIfInBounds_toArray, List.set_cons_zero, List.set_cons_succ])
  refine take_named23 (i := 9) (d := 43) (v := ?va9) rfl (by kernel_rfl) (by kernel_rfl) (by kernel_rfl) (by kernel_rfl) (fun _ _ _ h => h) (Or.inl ⟨by kernel_rfl, ?ya9⟩) (by assumption) ?_
  case ya9 => intro wq hSw; (try dsimp only at hSw); go_simp; (try with_reducible rfl)
  (try simp only [Act.put, List.setIfInBounds_toArray, List.set_cons_zero, List.set_cons_succ])
  refine take_named23 (i := 10) (d := 44) (v := ?va10) rfl (by kernel_rfl) (by kernel_rfl) (by kernel_rfl) (by kernel_rfl) (fun _ _ _ h => h) (Or.inl ⟨by kernel_rfl, ?ya10⟩) (by assumption) ?_
  case ya10 => intro wq hSw; (try dsimp only at hSw); go_simp; (try with_reducible rfl)
  (try simp only [Act.put, List.setIfInBounds_toArray, List.set_cons_zero, List.set_cons_succ])
  refine take_named23 (i := 11) (d := 45) (v := ?va11) rfl (by kernel_rfl) (by kernel_rfl) (by kernel_rfl) (by kernel_rfl) (fun _ _ _ h => h) (Or.inl ⟨by kernel_rfl, ?ya11⟩) (by assumption) ?_
  case ya11 => intro wq hSw; (try dsimp only at hSw); go_simp; (try with_reducible rfl)
  (try simp only [Act.put, List.setIfInBounds_toArray, List.set_cons_zero, List.set_cons_succ])
  refine take_named23 (i := 12) (d := 46) (v := ?va12) rfl (by kernel_rfl) (by kernel_rfl) (by kernel_rfl) (by kernel_rfl) (fun _ _ _ h => h) (Or.inl ⟨by kernel_rfl, ?ya12⟩) (by assumption) ?_
  case ya12 => intro wq hSw; (try dsimp only at hSw); go_simp; (try with_reducible rfl)
  (try simp only [Act.put, List.setIfInBounds_toArray, List.set_cons_zero, List.set_cons_succ])
  refine take_named23 (i := 13) (d := 47) (v := ?va13) rfl (by kernel_rfl) (by kernel_rfl) (by kernel_rfl) (by kernel_rfl) (fun _ _ _ h => h) (Or.inl ⟨by kernel_rfl, ?ya13⟩) (by assumption) ?_
  case ya13 => intro wq hSw; (try dsimp only at hSw); go_simp; (try with_reducible rfl)
  (try simp only [Act.put, List.setIfInBounds_toArray, List.set_cons_zero, List.set_cons_succ])
  refine take_named23 (i := 14) (d := 48) (v := ?va14) rfl (by kernel_rfl) (by kernel_rfl) (by kernel_rfl) (by kernel_rfl) (fun _ _ _ h => h) (Or.inl ⟨by kernel_rfl, ?ya14⟩) (by assumption) ?_
  case ya14 => intro wq hSw; (try dsimp only at hSw); go_simp; (try with_reducible rfl)
  (try simp only [Act.put, List.setIfInBounds_toArray, List.set_cons_zero, List.set_cons_succ])
  refine take_named23 (i := 15) (d := 49) (v := ?va15) rfl (by kernel_rfl) (by kernel_rfl) (by kernel_rfl) (by kernel_rfl) (fun _ _ _ h => h) (Or.inl ⟨by kernel_rfl, ?ya15⟩) (by assumption) ?_
  case ya15 => intro wq hSw; (try dsimp only at hSw); go_simp; (try with_reducible rfl)
  (try simp only [Act.put, List.setIfInBounds_toArray, List.set_cons_zero, List.set_cons_succ])
  refine take_named23 (i := 16) (d := 50) (v := ?va16) rfl (by kernel_rfl) (by kernel_rfl) (by kernel_rfl) (by kernel_rfl) (fun _ _ _ h => h) (Or.inl ⟨by kernel_rfl, ?ya16⟩) (by assumption) ?_
  case ya16 => intro wq hSw; (try dsimp only at hSw); go_simp; (try with_reducible rfl)
  (try simp only [Act.put, List.setIfInBounds_toArray, List.set_cons_zero, List.set_cons_succ])
  refine take_named23 (i := 17) (d := 51) (v := ?va17) rfl (by kernel_rfl) (by kernel_rfl) (by kernel_rfl) (by kernel_rfl) (fun _ _ _ h => h) (Or.inl ⟨by kernel_rfl, ?ya17⟩) (by assumption) ?_
  case ya17 => intro wq hSw; (try dsimp only at hSw); go_simp; (try with_reducible rfl)
  (try simp only [Act.put, List.setIfInBounds_toArray, List.set_cons_zero, List.set_cons_succ])
  refine take_named23 (i := 18) (d := 52) (v := ?va18) rfl (by kernel_rfl) (by kernel_rfl) (by kernel_rfl) (by kernel_rfl) (fun _ _ _ h => h) (Or.inl ⟨by kernel_rfl, ?ya18⟩) (by assumption) ?_
  case ya18 => intro wq hSw; (try dsimp only at hSw); go_simp; (try with_reducible rfl)
  (try simp only [Act.put, List.setIfInBounds_toArray, List.set_cons_zero, List.set_cons_succ])
  refine take_named23 (i := 19) (d := 53) (v := ?va19) rfl (by kernel_rfl) (by kernel_rfl) (by kernel_rfl) (by kernel_rfl) (fun _ _ _ h => h) (Or.inl ⟨by kernel_rfl, ?ya19⟩) (by assumption) ?_
  case ya19 => intro wq hSw; (try dsimp only at hSw); go_simp; (try with_reducible rfl)
  (try simp only [Act.put, List.setIfInBounds_toArray, List.set_cons_zero, List.set_cons_succ])
  refine take_named23 (i := 20) (d := 54) (v := ?va20) rfl (by kernel_rfl) (by kernel_rfl) (by kernel_rfl) (by kernel_rfl) (fun _ _ _ h => h) (Or.inl ⟨by kernel_rfl, ?ya20⟩) (by assumption) ?_
  case ya20 => intro wq hSw; (try dsimp only at hSw); go_simp; (try with_reducible rfl)
  (try simp only [Act.put, List.setIfInBounds_toArray, List.set_cons_zero, List.set_cons_succ])
  refine take_named23 (i := 21) (d := 55) (v := ?va21) rfl (by kernel_rfl) (by kernel_rfl) (by kernel_rfl) (by kernel_rfl) (fun _ _ _ h => h) (Or.inl ⟨by kernel_rfl, ?ya21⟩) (by assumption) ?_
  case ya21 => intro wq hSw; (try dsimp only at hSw); go_simp; (try with_reducible rfl)
  (try simp only [Act.put, List.setIfInBounds_toArray, List.set_cons_zero, List.set_cons_succ])
  refine wpAnyH_ready (rs := [22]) (by kernel_rfl) (by simp) ?_
  refine AllReadyH.cons rfl (fun K hK => ?_) AllReadyH.nil
  go_simp
  refine (HQ.out 20 1 _).mono ?_
  rintro ee wqa22 ⟨rfl, hbq⟩
  refine hK.out _ _ (HKs.out _ _ hHeld hbq) (fun hHeld22 => ?_)
  clear hK K hHeld hbq
  (try simp only [Act.put, List.setIfInBounds_toArray, List.set_cons_zero, List.set_cons_succ])
  refine take_named23 (i := 23) (d := 57) (v := ?va23) rfl (by kernel_rfl) (by kernel_rfl) (by kernel_rfl) (by kernel_rfl) (fun _ _ _ h => h) (Or.inl ⟨by kernel_rfl, ?ya23⟩) (by assumption) ?_
  case ya23 => intro wq hSw; (try dsimp only at hSw); go_simp; (try with_reducible rfl)
  (try simp only [Act.put, List.setIfInBounds_toArray, List.set_cons_zero, List.set_cons_succ])
  refine take_named23 (i := 24) (d := 58) (v := ?va24) rfl (by kernel_rfl) (by kernel_rfl) (by kernel_rfl) (by kernel_rfl) (fun _ _ _ h => h) (Or.inl ⟨by kernel_rfl, ?ya24⟩) (by assumption) ?_
  case ya24 => intro wq hSw; (try dsimp only at hSw); go_simp; (try with_reducible rfl)
  (try simp only [Act.put, List.setIfInBounds_toArray, List.set_cons_zero, List.set_cons_succ])
  refine take_named23 (i := 25) (d := 59) (v := ?va25) rfl (by kernel_rfl) (by kernel_rfl) (by kernel_rfl) (by kernel_rfl) (fun _ _ _ h => h) (Or.inl ⟨by kernel_rfl, ?ya25⟩) (by assumption) ?_
  case ya25 => intro wq hSw; (try dsimp only at hSw); go_simp; (try with_reducible rfl)
  (try simp only [Act.put, List.setIfInBounds_toArray, List.set_cons_zero, List.set_cons_succ])
  refine take_named23 (i := 26) (d := 60) (v := ?va26) rfl (by kernel_rfl) (by kernel_rfl) (by kernel_rfl) (by kernel_rfl) (fun _ _ _ h => h) (Or.inl ⟨by kernel_rfl, ?ya26⟩) (by assumption) ?_
  case ya26 => intro wq hSw; (try dsimp only at hSw); go_simp; (try with_reducible rfl)
  (try simp only [Act.put, List.setIfInBounds_toArray, List.set_cons_zero, List.set_cons_succ])
  refine take_named23 (i := 27) (d := 61) (v := ?va27) rfl (by kernel_rfl) (by kernel_rfl) (by kernel_rfl) (by kernel_rfl) (fun _ _ _ h => h) (Or.inl ⟨by kernel_rfl, ?ya27⟩) (by assumption) ?_
  case ya27 => intro wq hSw; (try dsimp only at hSw); go_simp; (try with_reducible rfl)
  (try simp only [Act.put, List.setIfInBounds_toArray, List.set_cons_zero, List.set_cons_succ])
  refine take_named23 (i := 28) (d := 62) (v := ?va28) rfl (by kernel_rfl) (by kernel_rfl) (by kernel_rfl) (by kernel_rfl) (fun _ _ _ h => h) (Or.inl ⟨by kernel_rfl, ?ya28⟩) (by assumption) ?_
  case ya28 => intro wq hSw; (try dsimp only at hSw); go_simp; (try with_reducible rfl)
  (try simp only [Act.put, List.setIfInBounds_toArray, List.set_cons_zero, List.set_cons_succ])
  refine take_named23 (i := 29) (d := 63) (v := ?va29) rfl (by kernel_rfl) (by kernel_rfl) (by kernel_rfl) (by kernel_rfl) (fun _ _ _ h => h) (Or.inl ⟨by kernel_rfl, ?ya29⟩) (by assumption) ?_
  case ya29 => intro wq hSw; (try dsimp only at hSw); go_simp; (try with_reducible rfl)
  (try simp only [Act.put, List.setIfInBounds_toArray, List.set_cons_zero, List.set_cons_succ])
  refine take_named23 (i := 30) (d := 64) (v := ?va30) rfl (by kernel_rfl) (by kernel_rfl) (by kernel_rfl) (by kernel_rfl) (fun _ _ _ h => h) (Or.inl ⟨by kernel_rfl, ?ya30⟩) (by assumption) ?_
  case ya30 => intro wq hSw; (try dsimp only at hSw); go_simp; (try with_reducible rfl)
  (try simp only [Act.put, List.setIfInBounds_toArray, List.set_cons_zero, List.set_cons_succ])
  refine take_named23 (i := 31) (d := 65) (v := ?va31) rfl (by kernel_rfl) (by kernel_rfl) (by kernel_rfl) (by kernel_rfl) (fun _ _ _ h => h) (Or.inl ⟨by kernel_rfl, ?ya31⟩) (by assumption) ?_
  case ya31 => intro wq hSw; (try dsimp only at hSw); go_simp; (try with_reducible rfl)
  (try simp only [Act.put, List.setIfInBounds_toArray, List.set_cons_zero, List.set_cons_succ])
  refine take_named23 (i := 32) (d := 66) (v := ?va32) rfl (by kernel_rfl) (by kernel_rfl) (by kernel_rfl) (by kernel_rfl) (fun _ _ _ h => h) (Or.inl ⟨by kernel_rfl, ?ya32⟩) (by assumption) ?_
  case ya32 => intro wq hSw; (try dsimp only at hSw); go_simp; (try with_reducible rfl)
  (try simp only [Act.put, List.setIfInBounds_toArray, List.set_cons_zero, List.set_cons_succ])
  refine take_named23 (i := 33) (d := 67) (v := ?va33) rfl (by kernel_rfl) (by kernel_rfl) (by kernel_rfl) (by kernel_rfl) (fun _ _ _ h => h) (Or.inl ⟨by kernel_rfl, ?ya33⟩) (by assumption) ?_
  case ya33 => intro wq hSw; (try dsimp only at hSw); go_simp; (try with_reducible rfl)
  (try simp only [Act.put, List.setIfInBounds_toArray, List.set_cons_zero, List.set_cons_succ])
  refine take_named23 (i := 34) (d := 68) (v := ?va34) rfl (by kernel_rfl) (by kernel_rfl) (by kernel_rfl) (by kernel_rfl) (fun _ _ _ h => h) (Or.inl ⟨by kernel_rfl, ?ya34⟩) (by assumption) ?_
  case ya34 => intro wq hSw; (try dsimp only at hSw); go_simp; (try with_reducible rfl)
  (try simp only [Act.put, List.setIfInBounds_toArray, List.set_cons_zero, List.set_cons_succ])
  refine wpAnyH_ready (rs := [35]) (by kernel_rfl) (by simp) ?_
  refine AllReadyH.cons rfl (fun K hK => ?_) AllReadyH.nil
  go_simp
  refine (HQ.out 17 3 _).mono ?_
  rintro ee wqa35 ⟨rfl, hbq⟩
  refine hK.out _ _ (HKs.out _ _ hHeld22 hbq) (fun hHeld35 => ?_)
  clear hK K hHeld22 hbq
  (try simp only [Act.put, List.setIfInBounds_toArray, List.set_cons_zero, List.set_cons_succ])
  refine take_named23 (i := 36) (d := 70) (v := ?va36) rfl (by kernel_rfl) (by kernel_rfl) (by kernel_rfl) (by kernel_rfl) (fun _ _ _ h => h) (Or.inl ⟨by kernel_rfl, ?ya36⟩) (by assumption) ?_
  case ya36 => intro wq hSw; (try dsimp only at hSw); go_simp; (try with_reducible rfl)
  (try simp only [Act.put, List.setIfInBounds_toArray, List.set_cons_zero, List.set_cons_succ])
  refine take_named23 (i := 37) (d := 71) (v := ?va37) rfl (by kernel_rfl) (by kernel_rfl) (by kernel_rfl) (by kernel_rfl) (fun _ _ _ h => h) (Or.inl ⟨by kernel_rfl, ?ya37⟩) (by assumption) ?_
  case ya37 => intro wq hSw; (try dsimp only at hSw); go_simp; (try with_reducible rfl)
  (try simp only [Act.put, List.setIfInBounds_toArray, List.set_cons_zero, List.set_cons_succ])
  refine take_named23 (i := 38) (d := 72) (v := ?va38) rfl (by kernel_rfl) (by kernel_rfl) (by kernel_rfl) (by kernel_rfl) (fun _ _ _ h => h) (Or.inl ⟨by kernel_rfl, ?ya38⟩) (by assumption) ?_
  case ya38 => intro wq hSw; (try dsimp only at hSw); go_simp; (try with_reducible rfl)
  (try simp only [Act.put, List.setIfInBounds_toArray, List.set_cons_zero, List.set_cons_succ])
  refine take_named23 (i := 39) (d := 73) (v := ?va39) rfl (by kernel_rfl) (by kernel_rfl) (by kernel_rfl) (by kernel_rfl) (fun _ _ _ h => h) (Or.inl ⟨by kernel_rfl, ?ya39⟩) (by assumption) ?_
  case ya39 => intro wq hSw; (try dsimp only at hSw); go_simp; (try with_reducible rfl)
  (try simp only [Act.put, List.setIfInBounds_toArray, List.set_cons_zero, List.set_cons_succ])
  refine take_named23 (i := 40) (d := 74) (v := ?va40) rfl (by kernel_rfl) (by kernel_rfl) (by kernel_rfl) (by kernel_rfl) (fun _ _ _ h => h) (Or.inl ⟨by kernel_rfl, ?ya40⟩) (by assumption) ?_
  case ya40 => intro wq hSw; (try dsimp only at hSw); go_simp; (try with_reducible rfl)
  (try simp only [Act.put, List.setIfInBounds_toArray, List.set_cons_zero, List.set_cons_succ])
  refine take_named23 (i := 41) (d := 75) (v := ?va41) rfl (by kernel_rfl) (by kernel_rfl) (by kernel_rfl) (by kernel_rfl) (fun _ _ _ h => h) (Or.inl ⟨by kernel_rfl, ?ya41⟩) (by assumption) ?_
  case ya41 => intro wq hSw; (try dsimp only at hSw); go_simp; (try with_reducible rfl)
  (try simp only [Act.put, List.setIfInBounds_toArray, List.set_cons_zero, List.set_cons_succ])
  refine take_named23 (i := 42) (d := 76) (v := ?va42) rfl (by kernel_rfl) (by kernel_rfl) (by kernel_rfl) (by kernel_rfl) (fun _ _ _ h => h) (Or.inl ⟨by kernel_rfl, ?ya42⟩) (by assumption) ?_
  case ya42 => intro wq hSw; (try dsimp only at hSw); go_simp; (try with_reducible rfl)
  (try simp only [Act.put, List.setIfInBounds_toArray, List.set_cons_zero, List.set_cons_succ])
  refine wpAnyH_ready (rs := [43]) (by kernel_rfl) (by simp) ?_
  refine AllReadyH.cons rfl (fun K hK => ?_) AllReadyH.nil
  go_simp
  refine (HQ.out 17 3 _).mono ?_
  rintro ee wqa43 ⟨rfl, hbq⟩
  refine hK.out _ _ (HKs.out _ _ hHeld35 hbq) (fun hHeld43 => ?_)
  clear hK K hHeld35 hbq
  (try simp only [Act.put, List.setIfInBounds_toArray, List.set_cons_zero, List.set_cons_succ])
  refine take_named23 (i := 44) (d := 78) (v := ?va44) rfl (by kernel_rfl) (by kernel_rfl) (by kernel_rfl) (by kernel_rfl) (fun _ _ _ h => h) (Or.inl ⟨by kernel_rfl, ?ya44⟩) (by assumption) ?_
  case ya44 => intro wq hSw; (try dsimp only at hSw); go_simp; (try with_reducible rfl)
  (try simp only [Act.put, List.setIfInBounds_toArray, List.set_cons_zero, List.set_cons_succ])
  refine take_named23 (i := 45) (d := 79) (v := ?va45) rfl (by kernel_rfl) (by kernel_rfl) (by kernel_rfl) (by kernel_rfl) (fun _ _ _ h => h) (Or.inl ⟨by kernel_rfl, ?ya45⟩) (by assumption) ?_
  case ya45 => intro wq hSw; (try dsimp only at hSw); go_simp; (try with_reducible rfl)
  (try simp only [Act.put, List.setIfInBounds_toArray, List.set_cons_zero, List.set_cons_succ])
  refine take_named23 (i := 46) (d := 80) (v := ?va46) rfl (by kernel_rfl) (by kernel_rfl) (by kernel_rfl) (by kernel_rfl) (fun _ _ _ h => h) (Or.inl ⟨by kernel_rfl, ?ya46⟩) (by assumption) ?_
  case ya46 => intro wq hSw; (try dsimp only at hSw); go_simp; (try with_reducible rfl)
  (try simp only [Act.put, List.setIfInBounds_toArray, List.set_cons_zero, List.set_cons_succ])
  refine take_named23 (i := 47) (d := 81) (v := ?va47) rfl (by kernel_rfl) (by kernel_rfl) (by kernel_rfl) (by kernel_rfl) (fun _ _ _ h => h) (Or.inl ⟨by kernel_rfl, ?ya47⟩) (by assumption) ?_
  case ya47 => intro wq hSw; (try dsimp only at hSw); go_simp; (try with_reducible rfl)
  (try simp only [Act.put, List.setIfInBounds_toArray, List.set_cons_zero, List.set_cons_succ])
  refine take_named23 (i := 48) (d := 82) (v := ?va48) rfl (by kernel_rfl) (by kernel_rfl) (by kernel_rfl) (by kernel_rfl) (fun _ _ _ h => h) (Or.inl ⟨by kernel_rfl, ?ya48⟩) (by assumption) ?_
  case ya48 => intro wq hSw; (try dsimp only at hSw); go_simp; (try with_reducible rfl)
  (try simp only [Act.put, List.setIfInBounds_toArray, List.set_cons_zero, List.set_cons_succ])
  refine take_named23 (i := 49) (d := 83) (v := ?va49) rfl (by kernel_rfl) (by kernel_rfl) (by kernel_rfl) (by kernel_rfl) (fun _ _ _ h => h) (Or.inl ⟨by kernel_rfl, ?ya49⟩) (by assumption) ?_
  case ya49 => intro wq hSw; (try dsimp only at hSw); go_simp; (try with_reducible rfl)
  (try simp only [Act.put, List.setIfInBounds_toArray, List.set_cons_zero, List.set_cons_succ])
  refine take_named23 (i := 50) (d := 84) (v := ?va50) rfl (by kernel_rfl) (by kernel_rfl) (by kernel_rfl) (by kernel_rfl) (fun _ _ _ h => h) (Or.inl ⟨by kernel_rfl, ?ya50⟩) (by assumption) ?_
  case ya50 => intro wq hSw; (try dsimp only at hSw); go_simp; (try with_reducible rfl)
  (try simp only [Act.put, List.setIfInBounds_toArray, List.set_cons_zero, List.set_cons_succ])
  refine wpAnyH_ready (rs := [51]) (by kernel_rfl) (by simp) ?_
  refine AllReadyH.cons rfl (fun K hK => ?_) AllReadyH.nil
  go_simp
  refine (HQ.out 2 3 _).mono ?_
  rintro ee wqa51 ⟨rfl, hbq⟩
  refine hK.out _ _ (HKs.out _ _ hHeld43 hbq) (fun hHeld51 => ?_)
  clear hK K hHeld43 hbq
  (try simp only [Act.put, List.setIfInBounds_toArray, List.set_cons_zero, List.set_cons_succ])
  refine take_named23 (i := 52) (d := 86) (v := ?va52) rfl (by kernel_rfl) (by kernel_rfl) (by kernel_rfl) (by kernel_rfl) (fun _ _ _ h => h) (Or.inl ⟨by kernel_rfl, ?ya52⟩) (by assumption) ?_
  case ya52 => intro wq hSw; (try dsimp only at hSw); go_simp; (try with_reducible rfl)
  (try simp only [Act.put, List.setIfInBounds_toArray, List.set_cons_zero, List.set_cons_succ])
  refine take_named23 (i := 53) (d := 87) (v := ?va53) rfl (by kernel_rfl) (by kernel_rfl) (by kernel_rfl) (by kernel_rfl) (fun _ _ _ h => h) (Or.inl ⟨by kernel_rfl, ?ya53⟩) (by assumption) ?_
  case ya53 => intro wq hSw; (try dsimp only at hSw); go_simp; (try with_reducible rfl)
  (try simp only [Act.put, List.setIfInBounds_toArray, List.set_cons_zero, List.set_cons_succ])
  refine take_named23 (i := 54) (d := 88) (v := ?va54) rfl (by kernel_rfl) (by kernel_rfl) (by kernel_rfl) (by kernel_rfl) (fun _ _ _ h => h) (Or.inl ⟨by kernel_rfl, ?ya54⟩) (by assumption) ?_
  case ya54 => intro wq hSw; (try dsimp only at hSw); go_simp; (try with_reducible rfl)
  (try simp only [Act.put, List.setIfInBounds_toArray, List.set_cons_zero, List.set_cons_succ])
  refine take_named23 (i := 55) (d := 89) (v := ?va55) rfl (by kernel_rfl) (by kernel_rfl) (by kernel_rfl) (by kernel_rfl) (fun _ _ _ h => h) (Or.inl ⟨by kernel_rfl, ?ya55⟩) (by assumption) ?_
  case ya55 => intro wq hSw; (try dsimp only at hSw); go_simp; (try with_reducible rfl)
  (try simp only [Act.put, List.setIfInBounds_toArray, List.set_cons_zero, List.set_cons_succ])
  refine take_named23 (i := 56) (d := 90) (v := ?va56) rfl (by kernel_rfl) (by kernel_rfl) (by kernel_rfl) (by kernel_rfl) (fun _ _ _ h => h) (Or.inl ⟨by kernel_rfl, ?ya56⟩) (by assumption) ?_
  case ya56 => intro wq hSw; (try dsimp only at hSw); go_simp; (try with_reducible rfl)
  (try simp only [Act.put, List.setIfInBounds_toArray, List.set_cons_zero, List.set_cons_succ])
  refine take_named23 (i := 57) (d := 91) (v := ?va57) rfl (by kernel_rfl) (by kernel_rfl) (by kernel_rfl) (by kernel_rfl) (fun _ _ _ h => h) (Or.inl ⟨by kernel_rfl, ?ya57⟩) (by assumption) ?_
  case ya57 => intro wq hSw; (try dsimp only at hSw); go_simp; (try with_reducible rfl)
  (try simp only [Act.put, List.setIfInBounds_toArray, List.set_cons_zero, List.set_cons_succ])
  refine take_named23 (i := 58) (d := 92) (v := ?va58) rfl (by kernel_rfl) (by kernel_rfl) (by kernel_rfl) (by kernel_rfl) (fun _ _ _ h => h) (Or.inl ⟨by kernel_rfl, ?ya58⟩) (by assumption) ?_
  case ya58 => intro wq hSw; (try dsimp only at hSw); go_simp; (try with_reducible rfl)
  (try simp only [Act.put, List.setIfInBounds_toArray, List.set_cons_zero, List.set_cons_succ])
  refine wpAnyH_ready (rs := [59]) (by kernel_rfl) (by simp) ?_
  refine AllReadyH.cons rfl (fun K hK => ?_) AllReadyH.nil
  go_simp
  refine (HQ.out 13 2 _).mono ?_
  rintro ee wqa59 ⟨rfl, hbq⟩
  refine hK.out _ _ (HKs.out _ _ hHeld51 hbq) (fun hHeld59 => ?_)
  clear hK K hHeld51 hbq
  (try simp only [Act.put, List.setIfInBounds_toArray, List.set_cons_zero, List.set_cons_succ])
  refine take_named23 (i := 60) (d := 94) (v := ?va60) rfl (by kernel_rfl) (by kernel_rfl) (by kernel_rfl) (by kernel_rfl) (fun _ _ _ h => h) (Or.inl ⟨by kernel_rfl, ?ya60⟩) (by assumption) ?_
  case ya60 => intro wq hSw; (try dsimp only at hSw); go_simp; (try with_reducible rfl)
  (try simp only [Act.put, List.setIfInBounds_toArray, List.set_cons_zero, List.set_cons_succ])
  refine take_named23 (i := 61) (d := 95) (v := ?va61) rfl (by kernel_rfl) (by kernel_rfl) (by kernel_rfl) (by kernel_rfl) (fun _ _ _ h => h) (Or.inl ⟨by kernel_rfl, ?ya61⟩) (by assumption) ?_
  case ya61 => intro wq hSw; (try dsimp only at hSw); go_simp; (try with_reducible rfl)
  (try simp only [Act.put, List.setIfInBounds_toArray, List.set_cons_zero, List.set_cons_succ])
  refine take_named23 (i := 62) (d := 96) (v := ?va62) rfl (by kernel_rfl) (by kernel_rfl) (by kernel_rfl) (by kernel_rfl) (fun _ _ _ h => h) (Or.inl ⟨by kernel_rfl, ?ya62⟩) (by assumption) ?_
  case ya62 => intro wq hSw; (try dsimp only at hSw); go_simp; (try with_reducible rfl)
  (try simp only [Act.put, List.setIfInBounds_toArray, List.set_cons_zero, List.set_cons_succ])
  refine take_named23 (i := 63) (d := 97) (v := ?va63) rfl (by kernel_rfl) (by kernel_rfl) (by kernel_rfl) (by kernel_rfl) (fun _ _ _ h => h) (Or.inl ⟨by kernel_rfl, ?ya63⟩) (by assumption) ?_
  case ya63 => intro wq hSw; (try dsimp only at hSw); go_simp; (try with_reducible rfl)
  (try simp only [Act.put, List.setIfInBounds_toArray, List.set_cons_zero, List.set_cons_succ])
  refine take_named23 (i := 64) (d := 98) (v := ?va64) rfl (by kernel_rfl) (by kernel_rfl) (by kernel_rfl) (by kernel_rfl) (fun _ _ _ h => h) (Or.inl ⟨by kernel_rfl, ?ya64⟩) (by assumption) ?_
  case ya64 => intro wq hSw; (try dsimp only at hSw); go_simp; (try with_reducible rfl)
  (try simp only [Act.put, List.setIfInBounds_toArray, List.set_cons_zero, List.set_cons_succ])
  refine take_named23 (i := 65) (d := 99) (v := ?va65) rfl (by kernel_rfl) (by kernel_rfl) (by kernel_rfl) (by kernel_rfl) (fun _ _ _ h => h) (Or.inl ⟨by kernel_rfl, ?ya65⟩) (by assumption) ?_
  case ya65 => intro wq hSw; (try dsimp only at hSw); go_simp; (try with_reducible rfl)
  (try simp only [Act.put, List.setIfInBounds_toArray, List.set_cons_zero, List.set_cons_succ])
  refine take_named23 (i := 66) (d := 100) (v := ?va66) rfl (by kernel_rfl) (by kernel_rfl) (by kernel_rfl) (by kernel_rfl) (fun _ _ _ h => h) (Or.inl ⟨by kernel_rfl, ?ya66⟩) (by assumption) ?_
  case ya66 => intro wq hSw; (try dsimp only at hSw); go_simp; (try with_reducible rfl)
  (try simp only [Act.put, List.setIfInBounds_toArray, List.set_cons_zero, List.set_cons_succ])
  refine wpAnyH_ready (rs := [67]) (by kernel_rfl) (by simp) ?_
  refine AllReadyH.cons rfl (fun K hK => ?_) AllReadyH.nil
  go_simp
  refine (HQ.out 3 2 _).mono ?_
  rintro ee wqa67 ⟨rfl, hbq⟩
  refine hK.out _ _ (HKs.out _ _ hHeld59 hbq) (fun hHeld67 => ?_)
  clear hK K hHeld59 hbq
  (try simp only [Act.put, List.setIfInBounds_toArray, List.set_cons_zero, List.set_cons_succ])
  refine take_named23 (i := 68) (d := 102) (v := ?va68) rfl (by kernel_rfl) (by kernel_rfl) (by kernel_rfl) (by kernel_rfl) (fun _ _ _ h => h) (Or.inl ⟨by kernel_rfl, ?ya68⟩) (by assumption) ?_
  case ya68 => intro wq hSw; (try dsimp only at hSw); go_simp; (try with_reducible rfl)
  (try simp only [Act.put, List.setIfInBounds_toArray, List.set_cons_zero, List.set_cons_succ])
  refine take_named23 (i := 69) (d := 103) (v := ?va69) rfl (by kernel_rfl) (by kernel_rfl) (by kernel_rfl) (by kernel_rfl) (fun _ _ _ h => h) (Or.inl ⟨by kernel_rfl, ?ya69⟩) (by assumption) ?_
  case ya69 => intro wq hSw; (try dsimp only at hSw); go_simp; (try with_reducible rfl)
  (try simp only [Act.put, List.setIfInBounds_toArray, List.set_cons_zero, List.set_cons_succ])
  refine take_named23 (i := 70) (d := 104) (v := ?va70) rfl (by kernel_rfl) (by kernel_rfl) (by kernel_rfl) (by kernel_rfl) (fun _ _ _ h => h) (Or.inl ⟨by kernel_rfl, ?ya70⟩) (by assumption) ?_
  case ya70 => intro wq hSw; (try dsimp only at hSw); go_simp; (try with_reducible rfl)
  (try simp only [Act.put, List.setIfInBounds_toArray, List.set_cons_zero, List.set_cons_succ])
  refine take_named23 (i := 71) (d := 105) (v := ?va71) rfl (by kernel_rfl) (by kernel_rfl) (by kernel_rfl) (by kernel_rfl) (fun _ _ _ h => h) (Or.inl ⟨by kernel_rfl, ?ya71⟩) (by assumption) ?_
  case ya71 => intro wq hSw; (try dsimp only at hSw); go_simp; (try with_reducible rfl)
  (try simp only [Act.put, List.setIfInBounds_toArray, List.set_cons_zero, List.set_cons_succ])
  refine take_named23 (i := 72) (d := 106) (v := ?va72) rfl (by kernel_rfl) (by kernel_rfl) (by kernel_rfl) (by kernel_rfl) (fun _ _ _ h => h) (Or.inl ⟨by kernel_rfl, ?ya72⟩) (by assumption) ?_
  case ya72 => intro wq hSw; (try dsimp only at hSw); go_simp; (try with_reducible rfl)
  (try simp only [Act.put, List.setIfInBounds_toArray, List.set_cons_zero, List.set_cons_succ])
  refine take_named23 (i := 73) (d := 107) (v := ?va73) rfl (by kernel_rfl) (by kernel_rfl) (by kernel_rfl) (by kernel_rfl) (fun _ _ _ h => h) (Or.inl ⟨by kernel_rfl, ?ya73⟩) (by assumption) ?_
  case ya73 => intro wq hSw; (try dsimp only at hSw); go_simp; (try with_reducible rfl)
  (try simp only [Act.put, List.setIfInBounds_toArray, List.set_cons_zero, List.set_cons_succ])
  refine take_named23 (i := 74) (d := 108) (v := ?va74) rfl (by kernel_rfl) (by kernel_rfl) (by kernel_rfl) (by kernel_rfl) (fun _ _ _ h => h) (Or.inl ⟨by kernel_rfl, ?ya74⟩) (by assumption) ?_
  case ya74 => intro wq hSw; (try dsimp only at hSw); go_simp; (try with_reducible rfl)
  (try simp only [Act.put, List.setIfInBounds_toArray, List.set_cons_zero, List.set_cons_succ])
  refine take_named23 (i := 75) (d := 109) (v := ?va75) rfl (by kernel_rfl) (by kernel_rfl) (by kernel_rfl) (by kernel_rfl) (fun _ _ _ h => h) (Or.inl ⟨by kernel_rfl, ?ya75⟩) (by assumption) ?_
  case ya75 => intro wq hSw; (try dsimp only at hSw); go_simp; (try with_reducible rfl)
  (try simp only [Act.put, List.setIfInBounds_toArray, List.set_cons_zero, List.set_cons_succ])
  refine take_named23 (i := 76) (d := 110) (v := ?va76) rfl (by kernel_rfl) (by kernel_rfl) (by kernel_rfl) (by kernel_rfl) (fun _ _ _ h => h) (Or.inl ⟨by kernel_rfl, ?ya76⟩) (by assumption) ?_
  case ya76 => intro wq hSw; (try dsimp only at hSw); go_simp; (try with_reducible rfl)
  (try simp only [Act.put, List.setIfInBounds_toArray, List.set_cons_zero, List.set_cons_succ])
  refine wpAnyH_done (by kernel_rfl) ?_ _
  have hbz : Below Wb.heap.size Wb wqa67 := hHeld67.2.2.2.2.2.2.2.2.2.2.2.2.2.2.2.2.2.2.2
  have HBz := Lib.hid (HBb.out.trans (hbz.mono HBb.out.size))
  have Kz := Lib.hid (blk_below K6.out HBz.out hg6)
  have hth := Lib.hid (there_of_blk Kz.out (4 * 33) 33 (by rw [← HD.out]; show _ ≤ (enL ls1).toArray.size; rw [List.size_toArray, enL_len ls1 (fun e he => (ls1_ok e he).1.1)]; decide))
  have hr7 := Lib.hid (rd_store (e := awE) (fun e he => (ls1_ok e he).1.1) rfl (HR6.out.go HBz.out) (show 4 < ls1.length by decide) hth.out)
  have Kp := Lib.hid (blk_below KP.out hbz lP)
  have Kp1 := Lib.hid (blk_below KP1.out hbz lP1)
  have hgP : g ≠ P := fun e => by
    have h1 := Kz.out
    rw [e, Kp.out] at h1
    injection h1 with h1; injection h1 with _ h2; cases h2
  clear hHeld67 hbz HKs hSb l3 lP lP1 lga HCb HBb Kf
  have hI := Lib.hid (awE_ok.1.size)
  have hone := Lib.hid (awE_ok.2.1)
  go_upto_region 8 with (first | (refine wpList_build_to rfl 51 _ rfl (enCells 4 0 ex0 60 40) (by kernel_rfl) ?_) | (refine wpList_store_mid rfl 51 _ _ rfl g (4 * 33) (enCells 4 0 ex0 60 40) rfl rfl hth.out hI.out hone.out ?_))
  obtain ⟨W11, hW11⟩ : ∃ V, wqa67.setCells g (4 * 33) (enCells 4 0 ex0 60 40).toList = V := ⟨_, rfl⟩
  have hs11 : W11.heap.size = wqa67.heap.size := by rw [← hW11]; exact size_setCells23 _ _ _ _
  have hr11 : Rd W11 W11.heap.size 33 (some ⟨g, 0, none⟩) 5 (enL ls2) := by
    rw [hs11, ← hW11]; exact hr7.out
  have hB11 : Below w.heap.size w W11 := by rw [← hW11]; exact below_setCells23 hgw _ _ _ (below_via HB6.out HBz.out)
  have k11 : W11.heap[P]? = some (.cells #[.int .i64 20, .int .i64 1] 36 (0, 0)) := by
    rw [← hW11, heap_setCells_other23 (fun e => hgP e.symm)]; exact Kp.out
  have hgP1 : P + 1 ≠ g := fun e => by
    have h1 := Kp1.out
    rw [e, Kz.out] at h1
    injection h1 with h1; injection h1 with _ h2; cases h2
  have k11' : W11.heap[P + 1]? = some (.cells #[.int .i64 20, .int .i64 1] 36 (0, 0)) := by
    rw [← hW11, heap_setCells_other23 hgP1]; exact Kp1.out
  have HR11 := Lib.hid hr11
  have HB11 := Lib.hid hB11
  have K11 := Lib.hid k11
  have K11' := Lib.hid k11'
  rw [hW11]
  clear hW11 hr7 hth Kp Kp1 Kz HBz hr11 hB11 k11 k11' hs11 hgP hgP1 HR6 HB6 K6
  go_wp2_with fail
  refine (board5 ls2 rfl ls2_ok ls2_right _ _ ls2_board W11 HR11.out (HL.out.go HB11.out) (HLm.out.below HB11.out HLm.out.lt)).mono ?_
  rintro ee w12 ⟨gb, capb, rfl, hgb, hgb2, hcells, hb12⟩
  have HC12 := Lib.hid hcells
  have HB12 := Lib.hid hb12
  have K12 := Lib.hid (blk_below K11.out hb12 (blk_lt K11.out))
  have K12' := Lib.hid (blk_below K11'.out hb12 (blk_lt K11'.out))
  have lP11 := blk_lt K11.out
  have lP11' := blk_lt K11'.out
  clear hcells hb12 K11 K11'
  go_wp2_with fail
  refine (demand5 ls2 rfl ls2_ok ls2_right _ _ _ ls2_dem w12 (HR11.out.go HB12.out) (HL.out.go (below_via HB11.out HB12.out))).mono ?_
  unfold fV
  rintro ee w13 ⟨rfl, hb13⟩
  have k13 := blk_below K12.out hb13 (blk_lt K12.out)
  have k13' := blk_below K12'.out hb13 (blk_lt K12'.out)
  have HC13 := Lib.hid (fun j v h => (hb13.cell (p := ⟨gb, j, none⟩) hgb2).trans (HC12.out j v h))
  have HB13 := Lib.hid (below_via (below_via HB11.out HB12.out) hb13)
  have hgb3 : gb < w13.heap.size := Nat.lt_of_lt_of_le hgb2 hb13.size
  have K13 := Lib.hid k13
  have K13' := Lib.hid k13'
  have p0 := blk_cell k13 0
  have p1 := blk_cell k13 1
  have p2 := blk_cell k13' 0
  have p3 := blk_cell k13' 1
  have f0 := blk_free k13 0
  have f1 := blk_free k13 1
  have f2 := blk_free k13' 0
  have f3' := blk_free k13' 1
  clear hb13 k13 k13' HB11 HB12 K12 K12' HC12
  go_upto_region 10 with fail
  obtain ⟨Wd, hWd⟩ : ∃ V, (((w13.setCell ⟨P, 0, none⟩ (.int .i64 104)).setCell ⟨P, 1, none⟩ (.int .i64 5)).setCell ⟨P + 1, 0, none⟩ (.int .i64 96)).setCell ⟨P + 1, 1, none⟩ (.int .i64 5) = V := ⟨_, rfl⟩
  have Kd := Lib.hid (show Wd.heap[P]? = some (.cells #[.int .i64 104, .int .i64 5] 36 (0, 0)) by
    rw [← hWd]; exact blk_far (blk_far (blk_set (blk_set K13.out 0 _) 1 _) (by show P ≠ P + 1; omega) _) (by show P ≠ P + 1; omega) _)
  have Kd1 := Lib.hid (show Wd.heap[P + 1]? = some (.cells #[.int .i64 96, .int .i64 5] 36 (0, 0)) by
    rw [← hWd]; exact blk_set (blk_set (blk_far (blk_far K13'.out (by show P + 1 ≠ P; omega) _) (by show P + 1 ≠ P; omega) _) 0 _) 1 _)
  have HCd := Lib.hid (fun j v h => (show Wd.cell? ⟨gb, j, none⟩ = some v by
    rw [← hWd]
    exact (World.cell?_of_block (blk_far (blk_far (blk_far (blk_far rfl (by show gb ≠ P; omega) _) (by show gb ≠ P; omega) _) (by show gb ≠ P + 1; omega) _) (by show gb ≠ P + 1; omega) _)).trans (HC13.out j v h)))
  have HBd := Lib.hid (show Below w.heap.size w Wd by
    rw [← hWd]
    exact (((HB13.out.setCell (p := ⟨P, 0, none⟩) hwP _).setCell (p := ⟨P, 1, none⟩) hwP _).setCell (p := ⟨P + 1, 0, none⟩) (Nat.le_succ_of_le hwP) _).setCell (p := ⟨P + 1, 1, none⟩) (Nat.le_succ_of_le hwP) _)
  have lP := blk_lt Kd.out
  have lP1 := blk_lt Kd1.out
  have lgb : gb < Wd.heap.size := by rw [← hWd]; simpa using hgb3
  rw [hWd]
  clear hWd p0 p1 p2 p3 f0 f1 f2 f3' K13 K13' HC13 HB13
  have hSd : Wd.cell? ⟨P, 0, none⟩ = some (.int .i64 104) ∧ Wd.cell? ⟨P, 1, none⟩ = some (.int .i64 5) ∧ Wd.cell? ⟨P + 1, 0, none⟩ = some (.int .i64 96) ∧ Wd.cell? ⟨P + 1, 1, none⟩ = some (.int .i64 5) ∧ Wd.cell? ⟨gb, 15, none⟩ = some (.int .i64 4) ∧ Wd.cell? ⟨gb, 16, none⟩ = some (.int .i64 1) ∧ Wd.cell? ⟨gb, 20, none⟩ = some (.int .i64 24) ∧ Wd.cell? ⟨gb, 21, none⟩ = some (.int .i64 5) ∧ Wd.cell? ⟨gb, 22, none⟩ = some (.int .i64 16) ∧ Wd.cell? ⟨gb, 23, none⟩ = some (.int .i64 5) ∧ Below Wd.heap.size Wd Wd.drew := ⟨blk_cell Kd.out 0, blk_cell Kd.out 1, blk_cell Kd1.out 0, blk_cell Kd1.out 1, HCd.out 15 _ rfl, HCd.out 16 _ rfl, HCd.out 20 _ rfl, HCd.out 21 _ rfl, HCd.out 22 _ rfl, HCd.out 23 _ rfl, (Below.refl _ _).drew⟩
  have HKs := Lib.hid (fun (W w' : World) (h : W.cell? ⟨P, 0, none⟩ = some (.int .i64 104) ∧ W.cell? ⟨P, 1, none⟩ = some (.int .i64 5) ∧ W.cell? ⟨P + 1, 0, none⟩ = some (.int .i64 96) ∧ W.cell? ⟨P + 1, 1, none⟩ = some (.int .i64 5) ∧ W.cell? ⟨gb, 15, none⟩ = some (.int .i64 4) ∧ W.cell? ⟨gb, 16, none⟩ = some (.int .i64 1) ∧ W.cell? ⟨gb, 20, none⟩ = some (.int .i64 24) ∧ W.cell? ⟨gb, 21, none⟩ = some (.int .i64 5) ∧ W.cell? ⟨gb, 22, none⟩ = some (.int .i64 16) ∧ W.cell? ⟨gb, 23, none⟩ = some (.int .i64 5) ∧ Below Wd.heap.size Wd W) (hb : Below W.heap.size W w') => (show w'.cell? ⟨P, 0, none⟩ = some (.int .i64 104) ∧ w'.cell? ⟨P, 1, none⟩ = some (.int .i64 5) ∧ w'.cell? ⟨P + 1, 0, none⟩ = some (.int .i64 96) ∧ w'.cell? ⟨P + 1, 1, none⟩ = some (.int .i64 5) ∧ w'.cell? ⟨gb, 15, none⟩ = some (.int .i64 4) ∧ w'.cell? ⟨gb, 16, none⟩ = some (.int .i64 1) ∧ w'.cell? ⟨gb, 20, none⟩ = some (.int .i64 24) ∧ w'.cell? ⟨gb, 21, none⟩ = some (.int .i64 5) ∧ w'.cell? ⟨gb, 22, none⟩ = some (.int .i64 16) ∧ w'.cell? ⟨gb, 23, none⟩ = some (.int .i64 5) ∧ Below Wd.heap.size Wd w' from ⟨(hb.cell (p := ⟨P, 0, none⟩) (Nat.lt_of_lt_of_le lP h.2.2.2.2.2.2.2.2.2.2.size)).trans h.1, (hb.cell (p := ⟨P, 1, none⟩) (Nat.lt_of_lt_of_le lP h.2.2.2.2.2.2.2.2.2.2.size)).trans h.2.1, (hb.cell (p := ⟨P + 1, 0, none⟩) (Nat.lt_of_lt_of_le lP1 h.2.2.2.2.2.2.2.2.2.2.size)).trans h.2.2.1, (hb.cell (p := ⟨P + 1, 1, none⟩) (Nat.lt_of_lt_of_le lP1 h.2.2.2.2.2.2.2.2.2.2.size)).trans h.2.2.2.1, (hb.cell (p := ⟨gb, 15, none⟩) (Nat.lt_of_lt_of_le lgb h.2.2.2.2.2.2.2.2.2.2.size)).trans h.2.2.2.2.1, (hb.cell (p := ⟨gb, 16, none⟩) (Nat.lt_of_lt_of_le lgb h.2.2.2.2.2.2.2.2.2.2.size)).trans h.2.2.2.2.2.1, (hb.cell (p := ⟨gb, 20, none⟩) (Nat.lt_of_lt_of_le lgb h.2.2.2.2.2.2.2.2.2.2.size)).trans h.2.2.2.2.2.2.1, (hb.cell (p := ⟨gb, 21, none⟩) (Nat.lt_of_lt_of_le lgb h.2.2.2.2.2.2.2.2.2.2.size)).trans h.2.2.2.2.2.2.2.1, (hb.cell (p := ⟨gb, 22, none⟩) (Nat.lt_of_lt_of_le lgb h.2.2.2.2.2.2.2.2.2.2.size)).trans h.2.2.2.2.2.2.2.2.1, (hb.cell (p := ⟨gb, 23, none⟩) (Nat.lt_of_lt_of_le lgb h.2.2.2.2.2.2.2.2.2.2.size)).trans h.2.2.2.2.2.2.2.2.2.1, h.2.2.2.2.2.2.2.2.2.2.trans (hb.mono h.2.2.2.2.2.2.2.2.2.2.size)⟩))
  refine wp_region_held_drew (S := (fun w' => w'.cell? ⟨P, 0, none⟩ = some (.int .i64 104) ∧ w'.cell? ⟨P, 1, none⟩ = some (.int .i64 5) ∧ w'.cell? ⟨P + 1, 0, none⟩ = some (.int .i64 96) ∧ w'.cell? ⟨P + 1, 1, none⟩ = some (.int .i64 5) ∧ w'.cell? ⟨gb, 15, none⟩ = some (.int .i64 4) ∧ w'.cell? ⟨gb, 16, none⟩ = some (.int .i64 1) ∧ w'.cell? ⟨gb, 20, none⟩ = some (.int .i64 24) ∧ w'.cell? ⟨gb, 21, none⟩ = some (.int .i64 5) ∧ w'.cell? ⟨gb, 22, none⟩ = some (.int .i64 16) ∧ w'.cell? ⟨gb, 23, none⟩ = some (.int .i64 5) ∧ Below Wd.heap.size Wd w')) (by kernel_rfl) hSd (fun hHeldZ => ?_)
  refine take_named23 (i := 0) (d := 126) (v := ?vb0) rfl (by kernel_rfl) (by kernel_rfl) (by kernel_rfl) (by kernel_rfl) (fun _ _ _ h => h) (Or.inl ⟨by kernel_rfl, ?yb0⟩) (by assumption) ?_
  case yb0 => intro wq hSw; (try dsimp only at hSw); go_simp; (try with_reducible rfl)
  (try simp only [Act.put, List.setIfInBounds_toArray, List.set_cons_zero, List.set_cons_succ])
  refine take_named23 (i := 1) (d := 127) (v := ?vb1) rfl (by kernel_rfl) (by kernel_rfl) (by kernel_rfl) (by kernel_rfl) (fun _ _ _ h => h) (Or.inl ⟨by kernel_rfl, ?yb1⟩) (by assumption) ?_
  case yb1 => intro wq hSw; (try dsimp only at hSw); go_simp; (try with_reducible rfl)
  (try simp only [Act.put, List.setIfInBounds_toArray, List.set_cons_zero, List.set_cons_succ])
  refine take_named23 (i := 2) (d := 128) (v := ?vb2) rfl (by kernel_rfl) (by kernel_rfl) (by kernel_rfl) (by kernel_rfl) (fun _ _ _ h => h) (Or.inl ⟨by kernel_rfl, ?yb2⟩) (by assumption) ?_
  case yb2 => intro wq hSw; (try dsimp only at hSw); go_simp; (try with_reducible rfl)
  (try simp only [Act.put, List.setIfInBounds_toArray, List.set_cons_zero, List.set_cons_succ])
  refine take_named23 (i := 3) (d := 129) (v := ?vb3) rfl (by kernel_rfl) (by kernel_rfl) (by kernel_rfl) (by kernel_rfl) (fun _ _ _ h => h) (Or.inl ⟨by kernel_rfl, ?yb3⟩) (by assumption) ?_
  case yb3 => intro wq hSw; (try dsimp only at hSw); go_simp; (try with_reducible rfl)
  (try simp only [Act.put, List.setIfInBounds_toArray, List.set_cons_zero, List.set_cons_succ])
  refine take_named23 (i := 4) (d := 130) (v := ?vb4) rfl (by kernel_rfl) (by kernel_rfl) (by kernel_rfl) (by kernel_rfl) (fun _ _ _ h => h) (Or.inl ⟨by kernel_rfl, ?yb4⟩) (by assumption) ?_
  case yb4 => intro wq hSw; (try dsimp only at hSw); go_simp; (try with_reducible rfl)
  (try simp only [Act.put, List.setIfInBounds_toArray, List.set_cons_zero, List.set_cons_succ])
  refine take_named23 (i := 5) (d := 131) (v := ?vb5) rfl (by kernel_rfl) (by kernel_rfl) (by kernel_rfl) (by kernel_rfl) (fun _ _ _ h => h) (Or.inl ⟨by kernel_rfl, ?yb5⟩) (by assumption) ?_
  case yb5 => intro wq hSw; (try dsimp only at hSw); go_simp; (try with_reducible rfl)
  (try simp only [Act.put, List.setIfInBounds_toArray, List.set_cons_zero, List.set_cons_succ])
  refine take_named23 (i := 6) (d := 132) (v := ?vb6) rfl (by kernel_rfl) (by kernel_rfl) (by kernel_rfl) (by kernel_rfl) (fun _ _ _ h => h) (Or.inl ⟨by kernel_rfl, ?yb6⟩) (by assumption) ?_
  case yb6 => intro wq hSw; (try dsimp only at hSw); go_simp; (try with_reducible rfl)
  (try simp only [Act.put, List.setIfInBounds_toArray, List.set_cons_zero, List.set_cons_succ])
  refine take_named23 (i := 7) (d := 133) (v := ?vb7) rfl (by kernel_rfl) (by kernel_rfl) (by kernel_rfl) (by kernel_rfl) (fun _ _ _ h => h) (Or.inl ⟨by kernel_rfl, ?yb7⟩) (by assumption) ?_
  case yb7 => intro wq hSw; (try dsimp only at hSw); go_simp; (try with_reducible rfl)
  (try simp only [Act.put, List.setIfInBounds_toArray, List.set_cons_zero, List.set_cons_succ])
  refine take_named23 (i := 8) (d := 134) (v := ?vb8) rfl (by kernel_rfl) (by kernel_rfl) (by kernel_rfl) (by kernel_rfl) (fun _ _ _ h => h) (Or.inl ⟨by kernel_rfl, ?yb8⟩) (by assumption) ?_
  case yb8 => intro wq hSw; (try dsimp only at hSw); go_simp; (try with_reducible rfl)
  (try simp only [Act.put, List.setIfInBounds_toArray, List.set_cons_zero, List.set_cons_succ])
  refine take_named23 (i := 9) (d := 135) (v := ?vb9) rfl (by kernel_rfl) (by kernel_rfl) (by kernel_rfl) (by kernel_rfl) (fun _ _ _ h => h) (Or.inl ⟨by kernel_rfl, ?yb9⟩) (by assumption) ?_
  case yb9 => intro wq hSw; (try dsimp only at hSw); go_simp; (try with_reducible rfl)
  (try simp only [Act.put, List.setIfInBounds_toArray, List.set_cons_zero, List.set_cons_succ])
  refine take_named23 (i := 10) (d := 136) (v := ?vb10) rfl (by kernel_rfl) (by kernel_rfl) (by kernel_rfl) (by kernel_rfl) (fun _ _ _ h => h) (Or.inl ⟨by kernel_rfl, ?yb10⟩) (by assumption) ?_
  case yb10 => intro wq hSw; (try dsimp only at hSw); go_simp; (try with_reducible rfl)
  (try simp only [Act.put, List.setIfInBounds_toArray, List.set_cons_zero, List.set_cons_succ])
  refine take_named23 (i := 11) (d := 137) (v := ?vb11) rfl (by kernel_rfl) (by kernel_rfl) (by kernel_rfl) (by kernel_rfl) (fun _ _ _ h => h) (Or.inl ⟨by kernel_rfl, ?yb11⟩) (by assumption) ?_
  case yb11 => intro wq hSw; (try dsimp only at hSw); go_simp; (try with_reducible rfl)
  (try simp only [Act.put, List.setIfInBounds_toArray, List.set_cons_zero, List.set_cons_succ])
  refine take_named23 (i := 12) (d := 138) (v := ?vb12) rfl (by kernel_rfl) (by kernel_rfl) (by kernel_rfl) (by kernel_rfl) (fun _ _ _ h => h) (Or.inl ⟨by kernel_rfl, ?yb12⟩) (by assumption) ?_
  case yb12 => intro wq hSw; (try dsimp only at hSw); go_simp; (try with_reducible rfl)
  (try simp only [Act.put, List.setIfInBounds_toArray, List.set_cons_zero, List.set_cons_succ])
  refine take_named23 (i := 13) (d := 139) (v := ?vb13) rfl (by kernel_rfl) (by kernel_rfl) (by kernel_rfl) (by kernel_rfl) (fun _ _ _ h => h) (Or.inl ⟨by kernel_rfl, ?yb13⟩) (by assumption) ?_
  case yb13 => intro wq hSw; (try dsimp only at hSw); go_simp; (try with_reducible rfl)
  (try simp only [Act.put, List.setIfInBounds_toArray, List.set_cons_zero, List.set_cons_succ])
  refine wpAnyH_ready (rs := [14]) (by kernel_rfl) (by simp) ?_
  refine AllReadyH.cons rfl (fun K hK => ?_) AllReadyH.nil
  go_simp
  refine (HQ.out 4 1 _).mono ?_
  rintro ee wqb14 ⟨rfl, hbq⟩
  refine hK.out _ _ (HKs.out _ _ hHeldZ hbq) (fun hHeld14 => ?_)
  clear hK K hHeldZ hbq
  (try simp only [Act.put, List.setIfInBounds_toArray, List.set_cons_zero, List.set_cons_succ])
  refine take_named23 (i := 15) (d := 141) (v := ?vb15) rfl (by kernel_rfl) (by kernel_rfl) (by kernel_rfl) (by kernel_rfl) (fun _ _ _ h => h) (Or.inl ⟨by kernel_rfl, ?yb15⟩) (by assumption) ?_
  case yb15 => intro wq hSw; (try dsimp only at hSw); go_simp; (try with_reducible rfl)
  (try simp only [Act.put, List.setIfInBounds_toArray, List.set_cons_zero, List.set_cons_succ])
  refine take_named23 (i := 16) (d := 142) (v := ?vb16) rfl (by kernel_rfl) (by kernel_rfl) (by kernel_rfl) (by kernel_rfl) (fun _ _ _ h => h) (Or.inl ⟨by kernel_rfl, ?yb16⟩) (by assumption) ?_
  case yb16 => intro wq hSw; (try dsimp only at hSw); go_simp; (try with_reducible rfl)
  (try simp only [Act.put, List.setIfInBounds_toArray, List.set_cons_zero, List.set_cons_succ])
  refine take_named23 (i := 17) (d := 143) (v := ?vb17) rfl (by kernel_rfl) (by kernel_rfl) (by kernel_rfl) (by kernel_rfl) (fun _ _ _ h => h) (Or.inl ⟨by kernel_rfl, ?yb17⟩) (by assumption) ?_
  case yb17 => intro wq hSw; (try dsimp only at hSw); go_simp; (try with_reducible rfl)
  (try simp only [Act.put, List.setIfInBounds_toArray, List.set_cons_zero, List.set_cons_succ])
  refine take_named23 (i := 18) (d := 144) (v := ?vb18) rfl (by kernel_rfl) (by kernel_rfl) (by kernel_rfl) (by kernel_rfl) (fun _ _ _ h => h) (Or.inl ⟨by kernel_rfl, ?yb18⟩) (by assumption) ?_
  case yb18 => intro wq hSw; (try dsimp only at hSw); go_simp; (try with_reducible rfl)
  (try simp only [Act.put, List.setIfInBounds_toArray, List.set_cons_zero, List.set_cons_succ])
  refine take_named23 (i := 19) (d := 145) (v := ?vb19) rfl (by kernel_rfl) (by kernel_rfl) (by kernel_rfl) (by kernel_rfl) (fun _ _ _ h => h) (Or.inl ⟨by kernel_rfl, ?yb19⟩) (by assumption) ?_
  case yb19 => intro wq hSw; (try dsimp only at hSw); go_simp; (try with_reducible rfl)
  (try simp only [Act.put, List.setIfInBounds_toArray, List.set_cons_zero, List.set_cons_succ])
  refine take_named23 (i := 20) (d := 146) (v := ?vb20) rfl (by kernel_rfl) (by kernel_rfl) (by kernel_rfl) (by kernel_rfl) (fun _ _ _ h => h) (Or.inl ⟨by kernel_rfl, ?yb20⟩) (by assumption) ?_
  case yb20 => intro wq hSw; (try dsimp only at hSw); go_simp; (try with_reducible rfl)
  (try simp only [Act.put, List.setIfInBounds_toArray, List.set_cons_zero, List.set_cons_succ])
  refine take_named23 (i := 21) (d := 147) (v := ?vb21) rfl (by kernel_rfl) (by kernel_rfl) (by kernel_rfl) (by kernel_rfl) (fun _ _ _ h => h) (Or.inl ⟨by kernel_rfl, ?yb21⟩) (by assumption) ?_
  case yb21 => intro wq hSw; (try dsimp only at hSw); go_simp; (try with_reducible rfl)
  (try simp only [Act.put, List.setIfInBounds_toArray, List.set_cons_zero, List.set_cons_succ])
  refine wpAnyH_ready (rs := [22]) (by kernel_rfl) (by simp) ?_
  refine AllReadyH.cons rfl (fun K hK => ?_) AllReadyH.nil
  go_simp
  refine (HQ.out 24 5 _).mono ?_
  rintro ee wqb22 ⟨rfl, hbq⟩
  refine hK.out _ _ (HKs.out _ _ hHeld14 hbq) (fun hHeld22 => ?_)
  clear hK K hHeld14 hbq
  (try simp only [Act.put, List.setIfInBounds_toArray, List.set_cons_zero, List.set_cons_succ])
  refine take_named23 (i := 23) (d := 149) (v := ?vb23) rfl (by kernel_rfl) (by kernel_rfl) (by kernel_rfl) (by kernel_rfl) (fun _ _ _ h => h) (Or.inl ⟨by kernel_rfl, ?yb23⟩) (by assumption) ?_
  case yb23 => intro wq hSw; (try dsimp only at hSw); go_simp; (try with_reducible rfl)
  (try simp only [Act.put, List.setIfInBounds_toArray, List.set_cons_zero, List.set_cons_succ])
  refine take_named23 (i := 24) (d := 150) (v := ?vb24) rfl (by kernel_rfl) (by kernel_rfl) (by kernel_rfl) (by kernel_rfl) (fun _ _ _ h => h) (Or.inl ⟨by kernel_rfl, ?yb24⟩) (by assumption) ?_
  case yb24 => intro wq hSw; (try dsimp only at hSw); go_simp; (try with_reducible rfl)
  (try simp only [Act.put, List.setIfInBounds_toArray, List.set_cons_zero, List.set_cons_succ])
  refine take_named23 (i := 25) (d := 151) (v := ?vb25) rfl (by kernel_rfl) (by kernel_rfl) (by kernel_rfl) (by kernel_rfl) (fun _ _ _ h => h) (Or.inl ⟨by kernel_rfl, ?yb25⟩) (by assumption) ?_
  case yb25 => intro wq hSw; (try dsimp only at hSw); go_simp; (try with_reducible rfl)
  (try simp only [Act.put, List.setIfInBounds_toArray, List.set_cons_zero, List.set_cons_succ])
  refine take_named23 (i := 26) (d := 152) (v := ?vb26) rfl (by kernel_rfl) (by kernel_rfl) (by kernel_rfl) (by kernel_rfl) (fun _ _ _ h => h) (Or.inl ⟨by kernel_rfl, ?yb26⟩) (by assumption) ?_
  case yb26 => intro wq hSw; (try dsimp only at hSw); go_simp; (try with_reducible rfl)
  (try simp only [Act.put, List.setIfInBounds_toArray, List.set_cons_zero, List.set_cons_succ])
  refine take_named23 (i := 27) (d := 153) (v := ?vb27) rfl (by kernel_rfl) (by kernel_rfl) (by kernel_rfl) (by kernel_rfl) (fun _ _ _ h => h) (Or.inl ⟨by kernel_rfl, ?yb27⟩) (by assumption) ?_
  case yb27 => intro wq hSw; (try dsimp only at hSw); go_simp; (try with_reducible rfl)
  (try simp only [Act.put, List.setIfInBounds_toArray, List.set_cons_zero, List.set_cons_succ])
  refine take_named23 (i := 28) (d := 154) (v := ?vb28) rfl (by kernel_rfl) (by kernel_rfl) (by kernel_rfl) (by kernel_rfl) (fun _ _ _ h => h) (Or.inl ⟨by kernel_rfl, ?yb28⟩) (by assumption) ?_
  case yb28 => intro wq hSw; (try dsimp only at hSw); go_simp; (try with_reducible rfl)
  (try simp only [Act.put, List.setIfInBounds_toArray, List.set_cons_zero, List.set_cons_succ])
  refine take_named23 (i := 29) (d := 155) (v := ?vb29) rfl (by kernel_rfl) (by kernel_rfl) (by kernel_rfl) (by kernel_rfl) (fun _ _ _ h => h) (Or.inl ⟨by kernel_rfl, ?yb29⟩) (by assumption) ?_
  case yb29 => intro wq hSw; (try dsimp only at hSw); go_simp; (try with_reducible rfl)
  (try simp only [Act.put, List.setIfInBounds_toArray, List.set_cons_zero, List.set_cons_succ])
  refine wpAnyH_ready (rs := [30]) (by kernel_rfl) (by simp) ?_
  refine AllReadyH.cons rfl (fun K hK => ?_) AllReadyH.nil
  go_simp
  refine (HQ.out 16 5 _).mono ?_
  rintro ee wqb30 ⟨rfl, hbq⟩
  refine hK.out _ _ (HKs.out _ _ hHeld22 hbq) (fun hHeld30 => ?_)
  clear hK K hHeld22 hbq
  (try simp only [Act.put, List.setIfInBounds_toArray, List.set_cons_zero, List.set_cons_succ])
  refine take_named23 (i := 31) (d := 157) (v := ?vb31) rfl (by kernel_rfl) (by kernel_rfl) (by kernel_rfl) (by kernel_rfl) (fun _ _ _ h => h) (Or.inl ⟨by kernel_rfl, ?yb31⟩) (by assumption) ?_
  case yb31 => intro wq hSw; (try dsimp only at hSw); go_simp; (try with_reducible rfl)
  (try simp only [Act.put, List.setIfInBounds_toArray, List.set_cons_zero, List.set_cons_succ])
  refine take_named23 (i := 32) (d := 158) (v := ?vb32) rfl (by kernel_rfl) (by kernel_rfl) (by kernel_rfl) (by kernel_rfl) (fun _ _ _ h => h) (Or.inl ⟨by kernel_rfl, ?yb32⟩) (by assumption) ?_
  case yb32 => intro wq hSw; (try dsimp only at hSw); go_simp; (try with_reducible rfl)
  (try simp only [Act.put, List.setIfInBounds_toArray, List.set_cons_zero, List.set_cons_succ])
  refine take_named23 (i := 33) (d := 159) (v := ?vb33) rfl (by kernel_rfl) (by kernel_rfl) (by kernel_rfl) (by kernel_rfl) (fun _ _ _ h => h) (Or.inl ⟨by kernel_rfl, ?yb33⟩) (by assumption) ?_
  case yb33 => intro wq hSw; (try dsimp only at hSw); go_simp; (try with_reducible rfl)
  (try simp only [Act.put, List.setIfInBounds_toArray, List.set_cons_zero, List.set_cons_succ])
  refine take_named23 (i := 34) (d := 160) (v := ?vb34) rfl (by kernel_rfl) (by kernel_rfl) (by kernel_rfl) (by kernel_rfl) (fun _ _ _ h => h) (Or.inl ⟨by kernel_rfl, ?yb34⟩) (by assumption) ?_
  case yb34 => intro wq hSw; (try dsimp only at hSw); go_simp; (try with_reducible rfl)
  (try simp only [Act.put, List.setIfInBounds_toArray, List.set_cons_zero, List.set_cons_succ])
  refine wpAnyH_ready (rs := [35]) (by kernel_rfl) (by simp) ?_
  refine AllReadyH.cons rfl (fun K hK => ?_) AllReadyH.nil
  go_simp
  refine (HQ.out 104 5 _).mono ?_
  rintro ee wqb35 ⟨rfl, hbq⟩
  refine hK.out _ _ (HKs.out _ _ hHeld30 hbq) (fun hHeld35 => ?_)
  clear hK K hHeld30 hbq
  (try simp only [Act.put, List.setIfInBounds_toArray, List.set_cons_zero, List.set_cons_succ])
  refine take_named23 (i := 36) (d := 162) (v := ?vb36) rfl (by kernel_rfl) (by kernel_rfl) (by kernel_rfl) (by kernel_rfl) (fun _ _ _ h => h) (Or.inl ⟨by kernel_rfl, ?yb36⟩) (by assumption) ?_
  case yb36 => intro wq hSw; (try dsimp only at hSw); go_simp; (try with_reducible rfl)
  (try simp only [Act.put, List.setIfInBounds_toArray, List.set_cons_zero, List.set_cons_succ])
  refine take_named23 (i := 37) (d := 163) (v := ?vb37) rfl (by kernel_rfl) (by kernel_rfl) (by kernel_rfl) (by kernel_rfl) (fun _ _ _ h => h) (Or.inl ⟨by kernel_rfl, ?yb37⟩) (by assumption) ?_
  case yb37 => intro wq hSw; (try dsimp only at hSw); go_simp; (try with_reducible rfl)
  (try simp only [Act.put, List.setIfInBounds_toArray, List.set_cons_zero, List.set_cons_succ])
  refine take_named23 (i := 38) (d := 164) (v := ?vb38) rfl (by kernel_rfl) (by kernel_rfl) (by kernel_rfl) (by kernel_rfl) (fun _ _ _ h => h) (Or.inl ⟨by kernel_rfl, ?yb38⟩) (by assumption) ?_
  case yb38 => intro wq hSw; (try dsimp only at hSw); go_simp; (try with_reducible rfl)
  (try simp only [Act.put, List.setIfInBounds_toArray, List.set_cons_zero, List.set_cons_succ])
  refine take_named23 (i := 39) (d := 165) (v := ?vb39) rfl (by kernel_rfl) (by kernel_rfl) (by kernel_rfl) (by kernel_rfl) (fun _ _ _ h => h) (Or.inl ⟨by kernel_rfl, ?yb39⟩) (by assumption) ?_
  case yb39 => intro wq hSw; (try dsimp only at hSw); go_simp; (try with_reducible rfl)
  (try simp only [Act.put, List.setIfInBounds_toArray, List.set_cons_zero, List.set_cons_succ])
  refine wpAnyH_ready (rs := [40]) (by kernel_rfl) (by simp) ?_
  refine AllReadyH.cons rfl (fun K hK => ?_) AllReadyH.nil
  go_simp
  refine (HQ.out 96 5 _).mono ?_
  rintro ee wqb40 ⟨rfl, hbq⟩
  refine hK.out _ _ (HKs.out _ _ hHeld35 hbq) (fun hHeld40 => ?_)
  clear hK K hHeld35 hbq
  (try simp only [Act.put, List.setIfInBounds_toArray, List.set_cons_zero, List.set_cons_succ])
  refine take_named23 (i := 41) (d := 167) (v := ?vb41) rfl (by kernel_rfl) (by kernel_rfl) (by kernel_rfl) (by kernel_rfl) (fun _ _ _ h => h) (Or.inl ⟨by kernel_rfl, ?yb41⟩) (by assumption) ?_
  case yb41 => intro wq hSw; (try dsimp only at hSw); go_simp; (try with_reducible rfl)
  (try simp only [Act.put, List.setIfInBounds_toArray, List.set_cons_zero, List.set_cons_succ])
  refine take_named23 (i := 42) (d := 168) (v := ?vb42) rfl (by kernel_rfl) (by kernel_rfl) (by kernel_rfl) (by kernel_rfl) (fun _ _ _ h => h) (Or.inl ⟨by kernel_rfl, ?yb42⟩) (by assumption) ?_
  case yb42 => intro wq hSw; (try dsimp only at hSw); go_simp; (try with_reducible rfl)
  (try simp only [Act.put, List.setIfInBounds_toArray, List.set_cons_zero, List.set_cons_succ])
  refine take_named23 (i := 43) (d := 0) (v := ?vb43) rfl (by kernel_rfl) (by kernel_rfl) (by kernel_rfl) (by kernel_rfl) (fun _ _ _ h => h) (Or.inl ⟨by kernel_rfl, ?yb43⟩) (by assumption) ?_
  case yb43 => intro wq hSw; (try dsimp only at hSw); go_simp; (try with_reducible rfl)
  (try simp only [Act.put, List.setIfInBounds_toArray, List.set_cons_zero])
  refine wpAnyH_done (by kernel_rfl) ?_ _
  have hbz2 : Below Wd.heap.size Wd wqb40 := hHeld40.2.2.2.2.2.2.2.2.2.2
  have hwr0 : (IntKind.i64.wrap 0 == 0) = true := by decide
  have HBe := Lib.hid (below_via HBd.out hbz2)
  rw [hwr0]
  clear hHeld40 hbz2 HKs hSd lP lP1 lgb
  go_wp2
  go_ret
  exact ⟨rfl, HBe.out⟩

end Go.Proofs.YtchklobblkddhaaGreatDoor
