/- The reference finesseref22: Weighted. The reference finesseref22: Sides. -/
import Derived.Test.YtchklobblkddhaaGreatDoorRef17S
import Derived.Test.YtchklobblkddhaaGreatDoorMatRefW
import Derived.Test.YtchklobblkddhaaGreatDoorAdjSideW
import Derived.Test.YtchklobblkddhaaGreatDoorRef22C
import Derived.Test.YtchklobblkddhaaGreatDoorAdjSideW2
namespace Go.Proofs.YtchklobblkddhaaGreatDoor
open Go.RowKit

/-! ### The reference finesseref22: Weighted. -/
theorem info_partR : (Tryz.prog.info? 106).map (fun i => (i.zero, i.size, i.bytes)) = some (some (.agg #[.int .i64 0, .int .i64 0]), 2, 16) := by kernel_rfl
/-- What the reference's Weighted returns. -/
def WResR (L : List Oc) (vul : Int) (w : World) (e : Ending) (w' : World) : Prop :=
  (wOk L vul = false ∧ e = .returned (.tuple #[.slice none 0 0, .int .i64 2]) ∧ Below w.heap.size w w') ∨
  (wOk L vul = true ∧ ∃ v, e = .returned (.tuple #[v, .int .i64 0]) ∧ w'.ownsRow w.heap.size 106 2 v L.length (pC (wPts L vul)) ∧ Below w.heap.size w w')

/-! ### The reference finesseref22: Sides. -/
/-- Points and weights, by their numbers. -/
def lisP (a b : Nat → Int) (n : Nat) : List Pt := (List.range n).map fun i => (a i, b i)
theorem lisP_len (a b : Nat → Int) (n : Nat) : (lisP a b n).length = n := by simp [lisP]
theorem lisP_succ (a b : Nat → Int) (n : Nat) : pC (lisP a b (n + 1)) = pC (lisP a b n) ++ [.int .i64 (a n), .int .i64 (b n)] := by
  unfold lisP; rw [List.range_succ, List.map_append, List.map_singleton, pC_snoc]
/-- The points of an outcome for North and South. -/
def scO (vul : Int) (x : Oc) : Int := scoreI x.l x.d x.r x.s x.t vul
theorem first_lis (o : Nat → Oc) (n : Nat) (vul : Int) : wPts (firstO o n) vul = lisP (fun i => scO vul (o i)) (fun i => (o i).w) n := by
  unfold wPts firstO lisP; rw [List.map_map]; rfl
theorem first_neg (o : Nat → Oc) (n : Nat) (vul : Int) : negP (wPts (firstO o n) vul) = lisP (fun i => - scO vul (o i)) (fun i => (o i).w) n := by
  unfold negP wPts firstO lisP; rw [List.map_map, List.map_map]; rfl

theorem blk_grown22 {w w' : World} {row : Option Nat} {g : Nat} {x : Obj} (h : w.heap[g]? = some x) (hg : w.grownBy w' row) (hne : some g ≠ row) : w'.heap[g]? = some x := (hg.block g (Array.getElem?_eq_some_iff.1 h).1 hne).trans h

set_option maxRecDepth 100000 in
set_option maxHeartbeats 1000000 in
theorem r22sides_wrong (C : Array Value) (k f a0 a1 vul : Int) (o : Nat → Oc) (hC : EnC C k f o a0 a1) (ho : ∀ i, i < 4 → OcOk (o i)) (hf : 0 ≤ f ∧ f ≤ 255) (hk : 0 ≤ k ∧ k ≤ 255) (h : rightE k f o a0 a1 = false ∨ 3 < vul) (w : World) :
    Calls Tryz.prog 33 #[.agg C, .int .u8 vul] w fun e w' => e = .returned (.tuple #[.slice none 0 0, .slice none 0 0, .int .i64 2]) ∧ Below w.heap.size w w' := by
  obtain ⟨R, hR⟩ : ∃ R, rightE k f o a0 a1 = R := ⟨_, rfl⟩
  have HRg := Lib.hid (fun W => r22right C k f a0 a1 o hC ho hf hk W)
  rw [hR] at HRg h
  have HI := Lib.hid hC.size
  have hcs : R = false ∨ (R = true ∧ 3 < vul) := by
    cases R
    · exact .inl rfl
    · rcases h with h | h
      · cases h
      · exact .inr ⟨rfl, h⟩
  clear hR h ho hC
  go_enter Tryz.func33, Tryz.ntmps33
  go_upto_region 1 with fail
  obtain ⟨W1, hW1⟩ : ∃ W1, w.alloc (.cells C 51) = W1 := ⟨_, rfl⟩
  obtain ⟨g, hg⟩ : ∃ g, w.heap.size = g := ⟨_, rfl⟩
  have HK := Lib.hid (show W1.heap[g]? = some (.cells C 51 (0, 0)) by rw [← hW1]; exact blk_new _ hg.symm)
  have hB : Below w.heap.size w W1 := by rw [← hW1]; exact (by repeat (first | exact Below.refl _ _ | assumption | refine Below.drew ?_ | refine below_drewN ?_ _ | refine Below.alloc ?_ (by first | omega | (simp; done) | (simp; omega)) _ | refine Below.setCell ?_ (by first | omega | (simp; done) | (simp; omega)) _))
  rw [hW1, hg]
  clear hW1 hg
  go_wp2_with (refine wpList_load_row rfl 51 (.tmp 2) rfl g rfl 51 C _ _ HK.out Tryz.underlying51 rfl HI.out ?_)
  refine (HRg.out _).mono ?_
  rintro ee w2 ⟨rfl, hb⟩
  replace hB := below_via hB hb
  clear hb HK
  rcases hcs with rfl | ⟨rfl, h3⟩
  all_goals
    go_wp2
    go_ret3
    exact ⟨rfl, hB⟩

set_option maxRecDepth 100000 in
set_option maxHeartbeats 1000000 in
theorem r22sides_none (C : Array Value) (k f a0 a1 vul : Int) (o : Nat → Oc) (hC : EnC C k f o a0 a1) (ho : ∀ i, i < 4 → OcOk (o i)) (hf : 0 ≤ f ∧ f ≤ 255) (hk : 0 ≤ k ∧ k ≤ 255) (hv : 0 ≤ vul ∧ vul ≤ 3) (h : rightE k f o a0 a1 = true) (h04 : k = 0 ∨ k = 4) (w : World) :
    Calls Tryz.prog 33 #[.agg C, .int .u8 vul] w fun e w' => e = .returned (.tuple #[.slice none 0 0, .slice none 0 0, .int .i64 6]) ∧ Below w.heap.size w w' := by
  have HRg := Lib.hid (fun W => r22right C k f a0 a1 o hC ho hf hk W)
  rw [h] at HRg
  have HI := Lib.hid hC.size
  have c4 := hC.2.1
  have h3 : ¬ 3 < vul := by omega
  clear h ho hC
  go_enter Tryz.func33, Tryz.ntmps33
  go_upto_region 1 with fail
  obtain ⟨W1, hW1⟩ : ∃ W1, w.alloc (.cells C 51) = W1 := ⟨_, rfl⟩
  obtain ⟨g, hg⟩ : ∃ g, w.heap.size = g := ⟨_, rfl⟩
  have HK := Lib.hid (show W1.heap[g]? = some (.cells C 51 (0, 0)) by rw [← hW1]; exact blk_new _ hg.symm)
  have hB : Below w.heap.size w W1 := by rw [← hW1]; exact (by repeat (first | exact Below.refl _ _ | assumption | refine Below.drew ?_ | refine below_drewN ?_ _ | refine Below.alloc ?_ (by first | omega | (simp; done) | (simp; omega)) _ | refine Below.setCell ?_ (by first | omega | (simp; done) | (simp; omega)) _))
  rw [hW1, hg]
  clear hW1 hg
  go_wp2_with (refine wpList_load_row rfl 51 (.tmp 2) rfl g rfl 51 C _ _ HK.out Tryz.underlying51 rfl HI.out ?_)
  refine (HRg.out _).mono ?_
  rintro ee w2 ⟨rfl, hb⟩
  replace hB := below_via hB hb
  have q4 := (blk_cell (blk_below HK.out hb (blk_lt HK.out)) 4).trans c4
  clear hb HK c4
  rcases h04 with rfl | rfl
  all_goals
    go_wp2
    go_ret3
    exact ⟨rfl, hB⟩

set_option maxRecDepth 100000 in
set_option maxHeartbeats 4000000 in
theorem r22sides_k1 (C : Array Value) (f a0 a1 vul : Int) (o : Nat → Oc) (hC : EnC C 1 f o a0 a1) (ho : ∀ i, i < 4 → OcOk (o i)) (hf : 0 ≤ f ∧ f ≤ 255) (hv : 0 ≤ vul ∧ vul ≤ 3) (h : rightE 1 f o a0 a1 = true) (hout : ∀ i, i < 1 → outB (o i) = true) (w : World) :
    Calls Tryz.prog 33 #[.agg C, .int .u8 vul] w fun e w' => ∃ v1 v2, e = .returned (.tuple #[v1, v2, .int .i64 0]) ∧ w'.ownsRow w.heap.size 106 2 v1 1 (pC (lisP (fun i => scO vul (o i)) (fun _ => 100) 1)) ∧ w'.ownsRow w.heap.size 106 2 v2 1 (pC (lisP (fun i => - scO vul (o i)) (fun _ => 100) 1)) ∧ apart2 v1 v2 ∧ Below w.heap.size w w' := by
  have HRg := Lib.hid (fun W => r22right C 1 f a0 a1 o hC ho hf (by omega) W)
  rw [h] at HRg
  have HI := Lib.hid hC.size
  have c4 := hC.2.1
  have HC := Lib.hid hC.2.2.2.2.2
  have h3 : ¬ 3 < vul := by omega
  have HSc := Lib.hid (fun i (hi : i < 4) (hb : outB (o i) = true) W => (show Calls Tryz.prog 56 #[.agg #[.int .u8 (o i).l, .int .u8 (o i).d, .int .u8 (o i).r, .int .u8 (o i).s], .int .i64 (o i).t, .int .u8 vul] W fun e w' => e = .returned (.tuple #[.int .i64 (scO vul (o i)), .int .i64 0]) ∧ Below W.heap.size W w' from by
    have hx := ho i hi
    have hs := r17score_any (o i).l (o i).d (o i).r (o i).s (o i).t vul hx.1 hx.2.1 hx.2.2.1 hx.2.2.2.1 (by omega) W
    have hsc : scB (o i).l (o i).d (o i).r (o i).s (o i).t vul = true := by unfold scB; rw [show resultC (o i).l (o i).d (o i).r (o i).s (o i).t = true from hb, decide_eq_true hv.2]; rfl
    rw [hsc, if_pos rfl, if_pos rfl] at hs
    exact hs))
  have HBd := Lib.hid (fun i (hi : i < 4) (hb : outB (o i) = true) => (show -7800 ≤ scO vul (o i) ∧ scO vul (o i) ≤ 7800 from scoreI_small _ _ _ _ _ vul hb ⟨(ho i hi).1.1, (ho i hi).2.2.1.1⟩))
  have HOu := Lib.hid hout
  clear h ho hC hout
  obtain ⟨i0, hi, hz0, hz1, hz2⟩ := info_parts info_partR
  go_enter Tryz.func33, Tryz.ntmps33
  go_upto_region 1 with fail
  obtain ⟨W1, hW1⟩ : ∃ W1, w.alloc (.cells C 51) = W1 := ⟨_, rfl⟩
  obtain ⟨g, hg⟩ : ∃ g, w.heap.size = g := ⟨_, rfl⟩
  have HK := Lib.hid (show W1.heap[g]? = some (.cells C 51 (0, 0)) by rw [← hW1]; exact blk_new _ hg.symm)
  have hB : Below w.heap.size w W1 := by rw [← hW1]; exact (by repeat (first | exact Below.refl _ _ | assumption | refine Below.drew ?_ | refine below_drewN ?_ _ | refine Below.alloc ?_ (by first | omega | (simp; done) | (simp; omega)) _ | refine Below.setCell ?_ (by first | omega | (simp; done) | (simp; omega)) _))
  rw [hW1, hg]
  clear hW1 hg
  go_wp2_with (refine wpList_load_row rfl 51 (.tmp 2) rfl g rfl 51 C _ _ HK.out Tryz.underlying51 rfl HI.out ?_)
  refine (HRg.out _).mono ?_
  rintro ee w2 ⟨rfl, hb⟩
  replace hB := below_via hB hb
  replace HK := Lib.hid (blk_below HK.out hb (blk_lt HK.out))
  have q4 := (blk_cell HK.out 4).trans c4
  clear hb HRg
  go_wp2
  go_loopw [8, 9, 10] (fun va vb i wr => ∃ (j : Nat) (xs ys : List Value), j ≤ 1 ∧ i = .int .i64 (j : Int) ∧ Hid (xs = pC (lisP (fun i => scO vul (o i)) (fun _ => 100) j)) ∧ Hid (ys = pC (lisP (fun i => - scO vul (o i)) (fun _ => 100) j)) ∧ wr.ownsRow w2.heap.size 106 2 va j xs ∧ wr.ownsRow w2.heap.size 106 2 vb j ys ∧ apart2 va vb ∧ Hid (wr.heap[g]? = some (.cells C 51 (0, 0))) ∧ Below w.heap.size w wr ∧ w2.heap.size ≤ wr.heap.size) (fun _ _ i _ => 1 - (intOf i).toNat)
  case atStart => exact ⟨0, [], [], by omega, rfl, rfl, rfl, own_nil, own_nil, apart2.nil_, HK.out, hB, Nat.le_refl _⟩
  case round =>
    have hgB : g < w2.heap.size := blk_lt HK.out
    have hBw : w.heap.size ≤ w2.heap.size := hB.size
    clear HK hB q4
    obtain ⟨j, xs, ys, hj, rfl, hxs, hys, hq1, hq2, hap, HK, hB, hsz⟩ := hrel
    rename World => wx
    have q4 := (blk_cell HK.out 4).trans c4
    by_cases hlt : j < 1
    · obtain ⟨d0, d1, d2, d3, d4, d5⟩ := HC.out j (by omega)
      have e0 := (blk_cell HK.out (7 + j * 6)).trans d0
      have e1 := (blk_cell HK.out (7 + j * 6 + 1)).trans d1
      have e2 := (blk_cell HK.out (7 + j * 6 + 2)).trans d2
      have e3 := (blk_cell HK.out (7 + j * 6 + 3)).trans d3
      have e4 := (blk_cell HK.out (7 + j * 6 + 4)).trans d4
      have HS := Lib.hid (HSc.out j (by omega) (HOu.out j hlt))
      have hbd := HBd.out j (by omega) (HOu.out j hlt)
      have Hx := Lib.hid (lisP_succ (fun i => scO vul (o i)) (fun _ => 100) j)
      have Hy := Lib.hid (lisP_succ (fun i => - scO vul (o i)) (fun _ => 100) j)
      try dsimp only at Hx
      try dsimp only at Hy
      have c0 : (0 : Int) ≤ (j : Int) := by omega
      have c1 : (j : Int) < 4 := by omega
      have hgx := blk_lt HK.out
      have hd : Below wx.heap.size wx wx.drew := (Below.refl _ _).drew
      have Hd5 := Lib.hid d5
      generalize scO vul (o j) = pts at *
      clear d0 d1 d2 d3 d4 d5
      go_upto_region 12 with fail
      go_region_held3 (fun w' => w'.cell? ⟨g, 7 + j * 6, none⟩ = some (.int .u8 (o j).l) ∧ w'.cell? ⟨g, 7 + j * 6 + 1, none⟩ = some (.int .u8 (o j).d) ∧ w'.cell? ⟨g, 7 + j * 6 + 2, none⟩ = some (.int .u8 (o j).r) ∧ w'.cell? ⟨g, 7 + j * 6 + 3, none⟩ = some (.int .u8 (o j).s) ∧ w'.cell? ⟨g, 7 + j * 6 + 4, none⟩ = some (.int .i64 (o j).t)) (first | exact ⟨e0, e1, e2, e3, e4⟩ | exact ⟨keepB0 hbm hgx e0, keepB0 hbm hgx e1, keepB0 hbm hgx e2, keepB0 hbm hgx e3, keepB0 hbm hgx e4⟩)
        ((go_at_call 56; (with_reducible refine (HS.out _).mono ?_); rintro ee wm ⟨rfl, hbm0⟩; have hbm := hd.trans (hbm0.mono hd.size)))
      replace hB := below_via hB hbm
      replace HK := Lib.hid (blk_below HK.out hbm hgx)
      replace hq1 := own_below hq1 hbm (Nat.le_refl _)
      replace hq2 := own_below hq2 hbm (Nat.le_refl _)
      replace hsz : w2.heap.size ≤ wm.heap.size := by have := hbm.size; omega
      have e5 := (blk_cell HK.out (7 + j * 6 + 5)).trans Hd5.out
      replace q4 := (blk_cell HK.out 4).trans c4
      clear e0 e1 e2 e3 e4 hbm hbm0 hd HS hgx Hd5
      have Hq2 := Lib.hid hq2
      have Hap := Lib.hid hap
      clear hq2 hap
      go_wp2_with (at_builtin; refine wpList_append_own_at _ rfl _ _ 81 rfl w2.heap.size 106 i0 (.agg #[.int .i64 0, .int .i64 0]) 2 16 Tryz.underlying81 hi hz0 hz1 hz2 rfl (by decide) _ _ _ rfl (hq1.alloc _) _ 1 1 [.int .i64 pts, .int .i64 100] rfl rfl ?k1 ?k2 ?k3 ?k4 ?k5 ?_)
      case k1 => exact cells_new_at _ #[.int .i64 pts, .int .i64 100] _ _ (by simp)
      case k2 => simp [Value.oneCell']
      case k3 => unfold maxLen; omega
      case k4 => omega
      case k5 => first | omega | (simp; omega)
      intro va w5 ho1 hgr _ hat
      have hne : ∀ g', g' < w2.heap.size → some g' ≠ Value.ownBlock u8 := fun g' hg' e => by have := (hq1.lt g' e.symm).1; omega
      obtain ⟨hq2, hap⟩ := own_two (Hq2.out.alloc _) hgr Hap.out (by simpa using hat)
      replace HK := Lib.hid (blk_grown22 (blk_alloc HK.out _) hgr (hne g hgB))
      replace hB : Below w.heap.size w w5 := (hB.alloc hB.size _).grown hgr (by have := hB.size; simp; omega) (fun g' hg' => by have := (hq1.lt g' hg').1; omega)
      replace hsz : w2.heap.size ≤ w5.heap.size := by have := hgr.size; simp at this; omega
      replace q4 := (blk_cell HK.out 4).trans c4
      have Hq1 := Lib.hid ho1
      have Hap2 := Lib.hid hap.symm_
      clear hgr hat hne ho1 Hq2 Hap hq1 e5 hap
      go_upto_region 19 with fail
      have hw1 : IntKind.i64.wrap (0 - pts) = -pts := (IntWalk.i64_in _ (by omega)).trans (by omega)
      have hw2 : IntKind.i64.wrap (-pts) = -pts := IntWalk.i64_in _ (by omega)
      go_wp2_with (at_builtin; refine wpList_append_own_at _ rfl _ _ 81 rfl w2.heap.size 106 i0 (.agg #[.int .i64 0, .int .i64 0]) 2 16 Tryz.underlying81 hi hz0 hz1 hz2 rfl (by decide) _ _ _ rfl (hq2.alloc _) _ 1 1 [.int .i64 (-pts), .int .i64 100] rfl rfl ?m1 ?m2 ?m3 ?m4 ?m5 ?_)
      case m1 => exact cells_new_at _ #[.int .i64 (-pts), .int .i64 100] _ _ (by simp)
      case m2 => simp [Value.oneCell']
      case m3 => unfold maxLen; omega
      case m4 => omega
      case m5 => first | omega | (simp; omega)
      intro vb w7 ho2 hgr2 _ hat2
      have hne2 : ∀ g', g' < w2.heap.size → some g' ≠ Value.ownBlock u9 := fun g' hg' e => by have := (hq2.lt g' e.symm).1; omega
      obtain ⟨hq1', hap'⟩ := own_two (Hq1.out.alloc _) hgr2 Hap2.out (by simpa using hat2)
      replace HK := Lib.hid (blk_grown22 (blk_alloc HK.out _) hgr2 (hne2 g hgB))
      have hsw := hB.size
      replace hB : Below w.heap.size w w7 := (hB.alloc hB.size _).grown hgr2 (by simp; omega) (fun g' hg' => by have := (hq2.lt g' hg').1; omega)
      replace hsz : w2.heap.size ≤ w7.heap.size := by have := hgr2.size; simp at this; omega
      have Hq1' := Lib.hid hq1'
      have Ho2 := Lib.hid ho2
      have Hap' := Lib.hid hap'.symm_
      clear hgr2 hat2 hne2 hq1' ho2 hap' hq2 hw1 hw2 q4 Hq1 Hap2
      go_wp2
      go_roundw
      case rel => exact ⟨j + 1, _, _, by omega, by go_num, (by show _ = _; rw [Hx.out, hxs.out]), (by show _ = _; rw [Hy.out, hys.out]), Hq1'.out, Ho2.out, Hap'.out, HK.out, hB, hsz⟩
      case measure => simp [intOf]; omega
    · obtain rfl : j = 1 := by omega
      have Hq1 := Lib.hid (own_mono hq1 hBw)
      have Hq2 := Lib.hid (own_mono hq2 hBw)
      have Hap := Lib.hid hap
      clear hq1 hq2 hap
      go_wp2
      go_ret3
      exact ⟨_, _, rfl, by rw [← hxs.out]; exact Hq1.out, by rw [← hys.out]; exact Hq2.out, Hap.out, hB⟩

set_option maxRecDepth 100000 in
set_option maxHeartbeats 4000000 in
theorem r22sides_k2 (C : Array Value) (f a0 a1 vul : Int) (o : Nat → Oc) (n : Nat) (hC : EnC C 2 f o a0 a1) (ho : ∀ i, i < 4 → OcOk (o i)) (hf : 0 ≤ f ∧ f ≤ 255) (hv : 0 ≤ vul ∧ vul ≤ 3) (h : rightE 2 f o a0 a1 = true) (hn : outcN o = n ∧ n ≤ 4) (hout : ∀ i, i < n → outB (o i) = true) (w : World) :
    Calls Tryz.prog 33 #[.agg C, .int .u8 vul] w fun e w' => ∃ v1 v2, e = .returned (.tuple #[v1, v2, .int .i64 0]) ∧ w'.ownsRow w.heap.size 106 2 v1 n (pC (lisP (fun i => scO vul (o i)) (fun i => (o i).w) n)) ∧ w'.ownsRow w.heap.size 106 2 v2 n (pC (lisP (fun i => - scO vul (o i)) (fun i => (o i).w) n)) ∧ apart2 v1 v2 ∧ Below w.heap.size w w' := by
  have HRg := Lib.hid (fun W => r22right C 2 f a0 a1 o hC ho hf (by omega) W)
  rw [h] at HRg
  have HI := Lib.hid hC.size
  have HOc := Lib.hid (fun W => r22outcomes C 2 f a0 a1 o hC ho W)
  have hn4 := hn.2
  rw [hn.1] at HOc
  have c4 := hC.2.1
  have HC := Lib.hid hC.2.2.2.2.2
  have h3 : ¬ 3 < vul := by omega
  have HSc := Lib.hid (fun i (hi : i < 4) (hb : outB (o i) = true) W => (show Calls Tryz.prog 56 #[.agg #[.int .u8 (o i).l, .int .u8 (o i).d, .int .u8 (o i).r, .int .u8 (o i).s], .int .i64 (o i).t, .int .u8 vul] W fun e w' => e = .returned (.tuple #[.int .i64 (scO vul (o i)), .int .i64 0]) ∧ Below W.heap.size W w' from by
    have hx := ho i hi
    have hs := r17score_any (o i).l (o i).d (o i).r (o i).s (o i).t vul hx.1 hx.2.1 hx.2.2.1 hx.2.2.2.1 (by omega) W
    have hsc : scB (o i).l (o i).d (o i).r (o i).s (o i).t vul = true := by unfold scB; rw [show resultC (o i).l (o i).d (o i).r (o i).s (o i).t = true from hb, decide_eq_true hv.2]; rfl
    rw [hsc, if_pos rfl, if_pos rfl] at hs
    exact hs))
  have HBd := Lib.hid (fun i (hi : i < 4) (hb : outB (o i) = true) => (show -7800 ≤ scO vul (o i) ∧ scO vul (o i) ≤ 7800 from scoreI_small _ _ _ _ _ vul hb ⟨(ho i hi).1.1, (ho i hi).2.2.1.1⟩))
  have HOu := Lib.hid hout
  clear h ho hC hout
  obtain ⟨i0, hi, hz0, hz1, hz2⟩ := info_parts info_partR
  go_enter Tryz.func33, Tryz.ntmps33
  go_upto_region 1 with fail
  obtain ⟨W1, hW1⟩ : ∃ W1, w.alloc (.cells C 51) = W1 := ⟨_, rfl⟩
  obtain ⟨g, hg⟩ : ∃ g, w.heap.size = g := ⟨_, rfl⟩
  have HK := Lib.hid (show W1.heap[g]? = some (.cells C 51 (0, 0)) by rw [← hW1]; exact blk_new _ hg.symm)
  have hB : Below w.heap.size w W1 := by rw [← hW1]; exact (by repeat (first | exact Below.refl _ _ | assumption | refine Below.drew ?_ | refine below_drewN ?_ _ | refine Below.alloc ?_ (by first | omega | (simp; done) | (simp; omega)) _ | refine Below.setCell ?_ (by first | omega | (simp; done) | (simp; omega)) _))
  rw [hW1, hg]
  clear hW1 hg
  go_wp2_with (refine wpList_load_row rfl 51 (.tmp 2) rfl g rfl 51 C _ _ HK.out Tryz.underlying51 rfl HI.out ?_)
  refine (HRg.out _).mono ?_
  rintro ee w2 ⟨rfl, hb⟩
  replace hB := below_via hB hb
  replace HK := Lib.hid (blk_below HK.out hb (blk_lt HK.out))
  have q4 := (blk_cell HK.out 4).trans c4
  clear hb HRg
  go_wp2_with (refine wpList_load_row rfl 51 (.tmp 2) rfl g rfl 51 C _ _ HK.out Tryz.underlying51 rfl HI.out ?_)
  refine (HOc.out _).mono ?_
  rintro ee w3 ⟨rfl, hb⟩
  replace hB := below_via hB hb
  replace HK := Lib.hid (blk_below HK.out hb (blk_lt HK.out))
  replace q4 := (blk_cell HK.out 4).trans c4
  clear hb
  go_wp2
  go_loopw [8, 9, 10] (fun va vb i wr => ∃ (j : Nat) (xs ys : List Value), j ≤ n ∧ i = .int .i64 (j : Int) ∧ Hid (xs = pC (lisP (fun i => scO vul (o i)) (fun i => (o i).w) j)) ∧ Hid (ys = pC (lisP (fun i => - scO vul (o i)) (fun i => (o i).w) j)) ∧ wr.ownsRow w3.heap.size 106 2 va j xs ∧ wr.ownsRow w3.heap.size 106 2 vb j ys ∧ apart2 va vb ∧ Hid (wr.heap[g]? = some (.cells C 51 (0, 0))) ∧ Below w.heap.size w wr ∧ w3.heap.size ≤ wr.heap.size) (fun _ _ i _ => n - (intOf i).toNat)
  case atStart => exact ⟨0, [], [], by omega, rfl, rfl, rfl, own_nil, own_nil, apart2.nil_, HK.out, hB, Nat.le_refl _⟩
  case round =>
    have hgB : g < w3.heap.size := blk_lt HK.out
    have hBw : w.heap.size ≤ w3.heap.size := hB.size
    clear HK hB q4
    obtain ⟨j, xs, ys, hj, rfl, hxs, hys, hq1, hq2, hap, HK, hB, hsz⟩ := hrel
    rename World => wx
    have q4 := (blk_cell HK.out 4).trans c4
    by_cases hlt : j < n
    · obtain ⟨d0, d1, d2, d3, d4, d5⟩ := HC.out j (by omega)
      have e0 := (blk_cell HK.out (7 + j * 6)).trans d0
      have e1 := (blk_cell HK.out (7 + j * 6 + 1)).trans d1
      have e2 := (blk_cell HK.out (7 + j * 6 + 2)).trans d2
      have e3 := (blk_cell HK.out (7 + j * 6 + 3)).trans d3
      have e4 := (blk_cell HK.out (7 + j * 6 + 4)).trans d4
      have HS := Lib.hid (HSc.out j (by omega) (HOu.out j hlt))
      have hbd := HBd.out j (by omega) (HOu.out j hlt)
      have Hx := Lib.hid (lisP_succ (fun i => scO vul (o i)) (fun i => (o i).w) j)
      have Hy := Lib.hid (lisP_succ (fun i => - scO vul (o i)) (fun i => (o i).w) j)
      try dsimp only at Hx
      try dsimp only at Hy
      have c0 : (0 : Int) ≤ (j : Int) := by omega
      have c1 : (j : Int) < 4 := by omega
      have hgx := blk_lt HK.out
      have hd : Below wx.heap.size wx wx.drew := (Below.refl _ _).drew
      have Hd5 := Lib.hid d5
      generalize scO vul (o j) = pts at *
      clear d0 d1 d2 d3 d4 d5
      go_upto_region 12 with fail
      go_region_held3 (fun w' => w'.cell? ⟨g, 7 + j * 6, none⟩ = some (.int .u8 (o j).l) ∧ w'.cell? ⟨g, 7 + j * 6 + 1, none⟩ = some (.int .u8 (o j).d) ∧ w'.cell? ⟨g, 7 + j * 6 + 2, none⟩ = some (.int .u8 (o j).r) ∧ w'.cell? ⟨g, 7 + j * 6 + 3, none⟩ = some (.int .u8 (o j).s) ∧ w'.cell? ⟨g, 7 + j * 6 + 4, none⟩ = some (.int .i64 (o j).t)) (first | exact ⟨e0, e1, e2, e3, e4⟩ | exact ⟨keepB0 hbm hgx e0, keepB0 hbm hgx e1, keepB0 hbm hgx e2, keepB0 hbm hgx e3, keepB0 hbm hgx e4⟩)
        ((go_at_call 56; (with_reducible refine (HS.out _).mono ?_); rintro ee wm ⟨rfl, hbm0⟩; have hbm := hd.trans (hbm0.mono hd.size)))
      replace hB := below_via hB hbm
      replace HK := Lib.hid (blk_below HK.out hbm hgx)
      replace hq1 := own_below hq1 hbm (Nat.le_refl _)
      replace hq2 := own_below hq2 hbm (Nat.le_refl _)
      replace hsz : w3.heap.size ≤ wm.heap.size := by have := hbm.size; omega
      have e5 := (blk_cell HK.out (7 + j * 6 + 5)).trans Hd5.out
      replace q4 := (blk_cell HK.out 4).trans c4
      clear e0 e1 e2 e3 e4 hbm hbm0 hd HS hgx Hd5
      have Hq2 := Lib.hid hq2
      have Hap := Lib.hid hap
      clear hq2 hap
      generalize (o j).w = ww at e5 Hx Hy
      go_wp2_with (at_builtin; refine wpList_append_own_at _ rfl _ _ 81 rfl w3.heap.size 106 i0 (.agg #[.int .i64 0, .int .i64 0]) 2 16 Tryz.underlying81 hi hz0 hz1 hz2 rfl (by decide) _ _ _ rfl (hq1.alloc _) _ 1 1 [.int .i64 pts, .int .i64 ww] rfl rfl ?k1 ?k2 ?k3 ?k4 ?k5 ?_)
      case k1 => exact cells_new_at _ #[.int .i64 pts, .int .i64 ww] _ _ (by simp)
      case k2 => simp [Value.oneCell']
      case k3 => unfold maxLen; omega
      case k4 => omega
      case k5 => first | omega | (simp; omega)
      intro va w5 ho1 hgr _ hat
      have hne : ∀ g', g' < w3.heap.size → some g' ≠ Value.ownBlock u8 := fun g' hg' e => by have := (hq1.lt g' e.symm).1; omega
      obtain ⟨hq2, hap⟩ := own_two (Hq2.out.alloc _) hgr Hap.out (by simpa using hat)
      replace HK := Lib.hid (blk_grown22 (blk_alloc HK.out _) hgr (hne g hgB))
      replace hB : Below w.heap.size w w5 := (hB.alloc hB.size _).grown hgr (by have := hB.size; simp; omega) (fun g' hg' => by have := (hq1.lt g' hg').1; omega)
      replace hsz : w3.heap.size ≤ w5.heap.size := by have := hgr.size; simp at this; omega
      replace q4 := (blk_cell HK.out 4).trans c4
      have Hq1 := Lib.hid ho1
      have Hap2 := Lib.hid hap.symm_
      clear hgr hat hne ho1 Hq2 Hap hq1 e5 hap
      go_upto_region 19 with fail
      have hw1 : IntKind.i64.wrap (0 - pts) = -pts := (IntWalk.i64_in _ (by omega)).trans (by omega)
      have hw2 : IntKind.i64.wrap (-pts) = -pts := IntWalk.i64_in _ (by omega)
      go_wp2_with (at_builtin; refine wpList_append_own_at _ rfl _ _ 81 rfl w3.heap.size 106 i0 (.agg #[.int .i64 0, .int .i64 0]) 2 16 Tryz.underlying81 hi hz0 hz1 hz2 rfl (by decide) _ _ _ rfl (hq2.alloc _) _ 1 1 [.int .i64 (-pts), .int .i64 ww] rfl rfl ?m1 ?m2 ?m3 ?m4 ?m5 ?_)
      case m1 => exact cells_new_at _ #[.int .i64 (-pts), .int .i64 ww] _ _ (by simp)
      case m2 => simp [Value.oneCell']
      case m3 => unfold maxLen; omega
      case m4 => omega
      case m5 => first | omega | (simp; omega)
      intro vb w7 ho2 hgr2 _ hat2
      have hne2 : ∀ g', g' < w3.heap.size → some g' ≠ Value.ownBlock u9 := fun g' hg' e => by have := (hq2.lt g' e.symm).1; omega
      obtain ⟨hq1', hap'⟩ := own_two (Hq1.out.alloc _) hgr2 Hap2.out (by simpa using hat2)
      replace HK := Lib.hid (blk_grown22 (blk_alloc HK.out _) hgr2 (hne2 g hgB))
      have hsw := hB.size
      replace hB : Below w.heap.size w w7 := (hB.alloc hB.size _).grown hgr2 (by simp; omega) (fun g' hg' => by have := (hq2.lt g' hg').1; omega)
      replace hsz : w3.heap.size ≤ w7.heap.size := by have := hgr2.size; simp at this; omega
      have Hq1' := Lib.hid hq1'
      have Ho2 := Lib.hid ho2
      have Hap' := Lib.hid hap'.symm_
      clear hgr2 hat2 hne2 hq1' ho2 hap' hq2 hw1 hw2 q4 Hq1 Hap2
      go_wp2
      go_roundw
      case rel => exact ⟨j + 1, _, _, by omega, by go_num, (by show _ = _; rw [Hx.out, hxs.out]), (by show _ = _; rw [Hy.out, hys.out]), Hq1'.out, Ho2.out, Hap'.out, HK.out, hB, hsz⟩
      case measure => simp [intOf]; omega
    · obtain rfl : j = n := by omega
      have Hq1 := Lib.hid (own_mono hq1 hBw)
      have Hq2 := Lib.hid (own_mono hq2 hBw)
      have Hap := Lib.hid hap
      clear hq1 hq2 hap
      go_wp2
      go_ret3
      exact ⟨_, _, rfl, by rw [← hxs.out]; exact Hq1.out, by rw [← hys.out]; exact Hq2.out, Hap.out, hB⟩

set_option maxRecDepth 100000 in
set_option maxHeartbeats 4000000 in
theorem r22sides_k3 (C : Array Value) (f a0 a1 vul : Int) (o : Nat → Oc) (hC : EnC C 3 f o a0 a1) (ho : ∀ i, i < 4 → OcOk (o i)) (hf : 0 ≤ f ∧ f ≤ 255) (hv : 0 ≤ vul ∧ vul ≤ 3) (h : rightE 3 f o a0 a1 = true) (hout : ∀ i, i < 1 → outB (o i) = true) (h1 : outB (o 1) = true) (w : World) :
    Calls Tryz.prog 33 #[.agg C, .int .u8 vul] w fun e w' => ∃ v1 v2, e = .returned (.tuple #[v1, v2, .int .i64 0]) ∧ w'.ownsRow w.heap.size 106 2 v1 1 (pC (lisP (fun i => scO vul (o i)) (fun _ => 100) 1)) ∧ w'.ownsRow w.heap.size 106 2 v2 1 (pC (lisP (fun _ => - scO vul (o 1)) (fun _ => 100) 1)) ∧ apart2 v1 v2 ∧ Below w.heap.size w w' := by
  have HRg := Lib.hid (fun W => r22right C 3 f a0 a1 o hC ho hf (by omega) W)
  rw [h] at HRg
  have HI := Lib.hid hC.size
  have c4 := hC.2.1
  have HC := Lib.hid hC.2.2.2.2.2
  have h3 : ¬ 3 < vul := by omega
  have HSc := Lib.hid (fun i (hi : i < 4) (hb : outB (o i) = true) W => (show Calls Tryz.prog 56 #[.agg #[.int .u8 (o i).l, .int .u8 (o i).d, .int .u8 (o i).r, .int .u8 (o i).s], .int .i64 (o i).t, .int .u8 vul] W fun e w' => e = .returned (.tuple #[.int .i64 (scO vul (o i)), .int .i64 0]) ∧ Below W.heap.size W w' from by
    have hx := ho i hi
    have hs := r17score_any (o i).l (o i).d (o i).r (o i).s (o i).t vul hx.1 hx.2.1 hx.2.2.1 hx.2.2.2.1 (by omega) W
    have hsc : scB (o i).l (o i).d (o i).r (o i).s (o i).t vul = true := by unfold scB; rw [show resultC (o i).l (o i).d (o i).r (o i).s (o i).t = true from hb, decide_eq_true hv.2]; rfl
    rw [hsc, if_pos rfl, if_pos rfl] at hs
    exact hs))
  have HBd := Lib.hid (fun i (hi : i < 4) (hb : outB (o i) = true) => (show -7800 ≤ scO vul (o i) ∧ scO vul (o i) ≤ 7800 from scoreI_small _ _ _ _ _ vul hb ⟨(ho i hi).1.1, (ho i hi).2.2.1.1⟩))
  have HOu := Lib.hid hout
  have HO1 := Lib.hid h1
  have HS1 := Lib.hid (HSc.out 1 (by omega) h1)
  clear h ho hC hout
  obtain ⟨i0, hi, hz0, hz1, hz2⟩ := info_parts info_partR
  go_enter Tryz.func33, Tryz.ntmps33
  go_upto_region 1 with fail
  obtain ⟨W1, hW1⟩ : ∃ W1, w.alloc (.cells C 51) = W1 := ⟨_, rfl⟩
  obtain ⟨g, hg⟩ : ∃ g, w.heap.size = g := ⟨_, rfl⟩
  have HK := Lib.hid (show W1.heap[g]? = some (.cells C 51 (0, 0)) by rw [← hW1]; exact blk_new _ hg.symm)
  have hB : Below w.heap.size w W1 := by rw [← hW1]; exact (by repeat (first | exact Below.refl _ _ | assumption | refine Below.drew ?_ | refine below_drewN ?_ _ | refine Below.alloc ?_ (by first | omega | (simp; done) | (simp; omega)) _ | refine Below.setCell ?_ (by first | omega | (simp; done) | (simp; omega)) _))
  rw [hW1, hg]
  clear hW1 hg
  go_wp2_with (refine wpList_load_row rfl 51 (.tmp 2) rfl g rfl 51 C _ _ HK.out Tryz.underlying51 rfl HI.out ?_)
  refine (HRg.out _).mono ?_
  rintro ee w2 ⟨rfl, hb⟩
  replace hB := below_via hB hb
  replace HK := Lib.hid (blk_below HK.out hb (blk_lt HK.out))
  have q4 := (blk_cell HK.out 4).trans c4
  clear hb HRg
  go_wp2
  go_loopw [8, 9, 10] (fun va vb i wr => ∃ (j : Nat) (xs ys : List Value), j ≤ 1 ∧ i = .int .i64 (j : Int) ∧ Hid (xs = pC (lisP (fun i => scO vul (o i)) (fun _ => 100) j)) ∧ Hid (ys = pC (lisP (fun _ => - scO vul (o 1)) (fun _ => 100) j)) ∧ wr.ownsRow w2.heap.size 106 2 va j xs ∧ wr.ownsRow w2.heap.size 106 2 vb j ys ∧ apart2 va vb ∧ Hid (wr.heap[g]? = some (.cells C 51 (0, 0))) ∧ Below w.heap.size w wr ∧ w2.heap.size ≤ wr.heap.size) (fun _ _ i _ => 1 - (intOf i).toNat)
  case atStart => exact ⟨0, [], [], by omega, rfl, rfl, rfl, own_nil, own_nil, apart2.nil_, HK.out, hB, Nat.le_refl _⟩
  case round =>
    have hgB : g < w2.heap.size := blk_lt HK.out
    have hBw : w.heap.size ≤ w2.heap.size := hB.size
    clear HK hB q4
    obtain ⟨j, xs, ys, hj, rfl, hxs, hys, hq1, hq2, hap, HK, hB, hsz⟩ := hrel
    rename World => wx
    have q4 := (blk_cell HK.out 4).trans c4
    by_cases hlt : j < 1
    · obtain ⟨d0, d1, d2, d3, d4, d5⟩ := HC.out j (by omega)
      have e0 := (blk_cell HK.out (7 + j * 6)).trans d0
      have e1 := (blk_cell HK.out (7 + j * 6 + 1)).trans d1
      have e2 := (blk_cell HK.out (7 + j * 6 + 2)).trans d2
      have e3 := (blk_cell HK.out (7 + j * 6 + 3)).trans d3
      have e4 := (blk_cell HK.out (7 + j * 6 + 4)).trans d4
      have HS := Lib.hid (HSc.out j (by omega) (HOu.out j hlt))
      have hbd := HBd.out j (by omega) (HOu.out j hlt)
      have Hx := Lib.hid (lisP_succ (fun i => scO vul (o i)) (fun _ => 100) j)
      have Hy := Lib.hid (lisP_succ (fun _ => - scO vul (o 1)) (fun _ => 100) j)
      try dsimp only at Hx
      try dsimp only at Hy
      have c0 : (0 : Int) ≤ (j : Int) := by omega
      have c1 : (j : Int) < 4 := by omega
      have hgx := blk_lt HK.out
      have hd : Below wx.heap.size wx wx.drew := (Below.refl _ _).drew
      have Hd5 := Lib.hid d5
      generalize scO vul (o j) = pts at *
      clear d0 d1 d2 d3 d4 d5
      go_upto_region 12 with fail
      go_region_held3 (fun w' => w'.cell? ⟨g, 7 + j * 6, none⟩ = some (.int .u8 (o j).l) ∧ w'.cell? ⟨g, 7 + j * 6 + 1, none⟩ = some (.int .u8 (o j).d) ∧ w'.cell? ⟨g, 7 + j * 6 + 2, none⟩ = some (.int .u8 (o j).r) ∧ w'.cell? ⟨g, 7 + j * 6 + 3, none⟩ = some (.int .u8 (o j).s) ∧ w'.cell? ⟨g, 7 + j * 6 + 4, none⟩ = some (.int .i64 (o j).t)) (first | exact ⟨e0, e1, e2, e3, e4⟩ | exact ⟨keepB0 hbm hgx e0, keepB0 hbm hgx e1, keepB0 hbm hgx e2, keepB0 hbm hgx e3, keepB0 hbm hgx e4⟩)
        ((go_at_call 56; (with_reducible refine (HS.out _).mono ?_); rintro ee wm ⟨rfl, hbm0⟩; have hbm := hd.trans (hbm0.mono hd.size)))
      replace hB := below_via hB hbm
      replace HK := Lib.hid (blk_below HK.out hbm hgx)
      replace hq1 := own_below hq1 hbm (Nat.le_refl _)
      replace hq2 := own_below hq2 hbm (Nat.le_refl _)
      replace hsz : w2.heap.size ≤ wm.heap.size := by have := hbm.size; omega
      have e5 := (blk_cell HK.out (7 + j * 6 + 5)).trans Hd5.out
      replace q4 := (blk_cell HK.out 4).trans c4
      clear e0 e1 e2 e3 e4 hbm hbm0 hd HS hgx Hd5
      have Hq2 := Lib.hid hq2
      have Hap := Lib.hid hap
      clear hq2 hap
      go_wp2_with (at_builtin; refine wpList_append_own_at _ rfl _ _ 81 rfl w2.heap.size 106 i0 (.agg #[.int .i64 0, .int .i64 0]) 2 16 Tryz.underlying81 hi hz0 hz1 hz2 rfl (by decide) _ _ _ rfl (hq1.alloc _) _ 1 1 [.int .i64 pts, .int .i64 100] rfl rfl ?k1 ?k2 ?k3 ?k4 ?k5 ?_)
      case k1 => exact cells_new_at _ #[.int .i64 pts, .int .i64 100] _ _ (by simp)
      case k2 => simp [Value.oneCell']
      case k3 => unfold maxLen; omega
      case k4 => omega
      case k5 => first | omega | (simp; omega)
      intro va w5 ho1 hgr _ hat
      have hne : ∀ g', g' < w2.heap.size → some g' ≠ Value.ownBlock u8 := fun g' hg' e => by have := (hq1.lt g' e.symm).1; omega
      obtain ⟨hq2, hap⟩ := own_two (Hq2.out.alloc _) hgr Hap.out (by simpa using hat)
      replace HK := Lib.hid (blk_grown22 (blk_alloc HK.out _) hgr (hne g hgB))
      replace hB : Below w.heap.size w w5 := (hB.alloc hB.size _).grown hgr (by have := hB.size; simp; omega) (fun g' hg' => by have := (hq1.lt g' hg').1; omega)
      replace hsz : w2.heap.size ≤ w5.heap.size := by have := hgr.size; simp at this; omega
      replace q4 := (blk_cell HK.out 4).trans c4
      have Hq1 := Lib.hid ho1
      have Hap2 := Lib.hid hap.symm_
      clear hgr hat hne ho1 Hq2 Hap hq1 e5 hap
      obtain ⟨d0, d1, d2, d3, d4, d5⟩ := HC.out 1 (by omega)
      have e0 := (blk_cell HK.out 13).trans d0
      have e1 := (blk_cell HK.out 14).trans d1
      have e2 := (blk_cell HK.out 15).trans d2
      have e3 := (blk_cell HK.out 16).trans d3
      have e4 := (blk_cell HK.out 17).trans d4
      have hbd1 := HBd.out 1 (by omega) HO1.out
      obtain ⟨pt1, hpt1⟩ : ∃ z, scO vul (o 1) = z := ⟨_, rfl⟩
      have HS1 := Lib.hid HS1.out
      rw [hpt1] at HS1 hbd1
      have Hp1 := Lib.hid hpt1
      clear hpt1
      clear d0 d1 d2 d3 d4 d5
      go_wp2_with fail
      refine (HS1.out _).mono ?_
      rintro ee w6 ⟨rfl, hb⟩
      replace hq2 := own_below hq2 hb (Nat.le_refl _)
      replace Hq1 := Lib.hid (own_below Hq1.out hb (Nat.le_refl _))
      replace hB := below_via hB hb
      replace HK := Lib.hid (blk_below HK.out hb (blk_lt HK.out))
      replace hsz : w2.heap.size ≤ w6.heap.size := by have := hb.size; omega
      replace q4 := (blk_cell HK.out 4).trans c4
      clear hb e0 e1 e2 e3 e4
      go_upto_region 19 with fail
      have hw1 : IntKind.i64.wrap (0 - pt1) = -pt1 := (IntWalk.i64_in _ (by omega)).trans (by omega)
      have hw2 : IntKind.i64.wrap (-pt1) = -pt1 := IntWalk.i64_in _ (by omega)
      go_wp2_with (at_builtin; refine wpList_append_own_at _ rfl _ _ 81 rfl w2.heap.size 106 i0 (.agg #[.int .i64 0, .int .i64 0]) 2 16 Tryz.underlying81 hi hz0 hz1 hz2 rfl (by decide) _ _ _ rfl (hq2.alloc _) _ 1 1 [.int .i64 (-pt1), .int .i64 100] rfl rfl ?m1 ?m2 ?m3 ?m4 ?m5 ?_)
      case m1 => exact cells_new_at _ #[.int .i64 (-pt1), .int .i64 100] _ _ (by simp)
      case m2 => simp [Value.oneCell']
      case m3 => unfold maxLen; omega
      case m4 => omega
      case m5 => first | omega | (simp; omega)
      intro vb w7 ho2 hgr2 _ hat2
      have hne2 : ∀ g', g' < w2.heap.size → some g' ≠ Value.ownBlock u9 := fun g' hg' e => by have := (hq2.lt g' e.symm).1; omega
      obtain ⟨hq1', hap'⟩ := own_two (Hq1.out.alloc _) hgr2 Hap2.out (by simpa using hat2)
      replace HK := Lib.hid (blk_grown22 (blk_alloc HK.out _) hgr2 (hne2 g hgB))
      have hsw := hB.size
      replace hB : Below w.heap.size w w7 := (hB.alloc hB.size _).grown hgr2 (by simp; omega) (fun g' hg' => by have := (hq2.lt g' hg').1; omega)
      replace hsz : w2.heap.size ≤ w7.heap.size := by have := hgr2.size; simp at this; omega
      have Hq1' := Lib.hid hq1'
      have Ho2 := Lib.hid ho2
      have Hap' := Lib.hid hap'.symm_
      clear hgr2 hat2 hne2 hq1' ho2 hap' hq2 hw1 hw2 q4 Hq1 Hap2
      go_wp2
      go_roundw
      case rel => exact ⟨j + 1, _, _, by omega, by go_num, (by show _ = _; rw [Hx.out, hxs.out]), (by show _ = _; rw [Hy.out, hys.out, Hp1.out]), Hq1'.out, Ho2.out, Hap'.out, HK.out, hB, hsz⟩
      case measure => simp [intOf]; omega
    · obtain rfl : j = 1 := by omega
      have Hq1 := Lib.hid (own_mono hq1 hBw)
      have Hq2 := Lib.hid (own_mono hq2 hBw)
      have Hap := Lib.hid hap
      clear hq1 hq2 hap
      go_wp2
      go_ret3
      exact ⟨_, _, rfl, by rw [← hxs.out]; exact Hq1.out, by rw [← hys.out]; exact Hq2.out, Hap.out, hB⟩

/-- What the reference's Sides returns. -/
def SResR (k vul : Int) (o : Nat → Oc) (w : World) (e : Ending) (w' : World) : Prop :=
  ∃ v1 v2, e = .returned (.tuple #[v1, v2, .int .i64 0]) ∧ w'.ownsRow w.heap.size 106 2 v1 (sideA k o).length (pC (wPts (sideA k o) vul)) ∧ w'.ownsRow w.heap.size 106 2 v2 (sideB k o).length (pC (negP (wPts (sideB k o) vul))) ∧ apart2 v1 v2 ∧ Below w.heap.size w w'
theorem r22sides_some (C : Array Value) (k f a0 a1 vul : Int) (o : Nat → Oc) (hC : EnC C k f o a0 a1) (ho : ∀ i, i < 4 → OcOk (o i)) (hf : 0 ≤ f ∧ f ≤ 255) (hv : 0 ≤ vul ∧ vul ≤ 3) (h : rightE k f o a0 a1 = true) (hkk : k = 1 ∨ k = 2 ∨ k = 3) (w : World) :
    Calls Tryz.prog 33 #[.agg C, .int .u8 vul] w (SResR k vul o w) := by
  have hoks := sides_okB k f o a0 a1 h ho hkk vul hv.2
  have hA := ((wOk_iff _ _).1 hoks.1).2.2.1
  have hB := ((wOk_iff _ _).1 hoks.2).2.2.1
  unfold SResR
  rcases hkk with rfl | rfl | rfl
  · have h0 : outB (o 0) = true := hA (fullO (o 0)) (List.mem_singleton.2 rfl)
    exact r22sides_k1 C f a0 a1 vul o hC ho hf hv h (fun i hi => by rw [show i = 0 by omega]; exact h0) w
  · have hr := h
    rw [← rightR_eq] at hr
    have hd : decide (0 < outcN o) = true := (Bool.and_eq_true_iff.1 (Bool.and_eq_true_iff.1 hr).2).2
    have hn := (outc_parts o (of_decide_eq_true hd)).1
    have e1 : sideA 2 o = firstO o (partsN o) := rfl
    have e2 : sideB 2 o = firstO o (partsN o) := rfl
    rw [e1] at hA
    rw [e1, e2, firstO_len, first_neg, first_lis]
    exact r22sides_k2 C f a0 a1 vul o (partsN o) hC ho hf hv h ⟨hn, parts_le o 4⟩ (fun i hi => hA _ (by unfold firstO; exact List.mem_map.2 ⟨i, List.mem_range.2 hi, rfl⟩)) w
  · have h0 : outB (o 0) = true := hA (fullO (o 0)) (List.mem_singleton.2 rfl)
    have h1 : outB (o 1) = true := hB (fullO (o 1)) (List.mem_singleton.2 rfl)
    exact r22sides_k3 C f a0 a1 vul o hC ho hf hv h (fun i hi => by rw [show i = 0 by omega]; exact h0) h1 w

end Go.Proofs.YtchklobblkddhaaGreatDoor
