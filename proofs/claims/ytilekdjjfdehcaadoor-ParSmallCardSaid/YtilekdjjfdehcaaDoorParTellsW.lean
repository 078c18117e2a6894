/- The walk of tells of layer 18: the program's par and the reference's agree. -/
import Derived.Test.YtilekdjjfdehcaaDoorRef18T
import Derived.Test.YtilekdjjfdehcaaDoorParAwakeW
import Derived.Test.YtilekdjjfdehcaaDoorParPts
namespace Go.Proofs.YtilekdjjfdehcaaDoor
open Go.RowKit

theorem tab18_zero : (Tryd.prog.info? 58).map (·.zero) = some (some (.agg tabZ)) := by kernel_rfl

set_option maxRecDepth 100000 in
set_option maxHeartbeats 4000000 in
theorem tells18 (C : Array Value) (t : Nat → Nat → Int) (hC : TabC C t) (hO : C.all (·.oneCell') = true) (v b s d : Nat) (hv : v ≤ 255) (hb : b ≤ 255) (hs : s ≤ 255) (hd : d ≤ 255) (w : World) (hLa : LaidS w) :
    Calls Tryd.prog 17 #[.agg C, .int .u8 (v : Int), .int .u8 (b : Int), .int .u8 (s : Int), .int .u8 (d : Int)] w fun e w' => e = .returned (.bool true) ∧ Below w.heap.size w w' := by
  have HL := Lib.hid hLa
  have HI := Lib.hid hC.info
  have HI2 := Lib.hid (tab18_info hC)
  have HO := Lib.hid hO
  have HsC := Lib.hid hC.1
  have HR1 := Lib.hid (fun W => pright_any C t hC W)
  have HR2 := Lib.hid (fun W => r18right C t hC W)
  obtain ⟨bn, be, bq, hbq, hBa, hBb⟩ := best_pair C t hC b s hb hs
  have HBa := Lib.hid hBa
  have HBb := Lib.hid hBb
  obtain ⟨f1, f2, f3, f4, f5, fp, fe, hFa, hFb⟩ := final_pair C t hC v b s hv hb hs
  unfold outV at hFa hFb
  have HFa := Lib.hid hFa
  have HFb := Lib.hid hFb
  obtain ⟨vx, ve, hVa, hVb⟩ := value_pair C t hC v b s hv hb hs
  have HVa := Lib.hid hVa
  have HVb := Lib.hid hVb
  obtain ⟨l, lq, le, hLa, hLb⟩ := bids_pair C t hC v d hv hd
  have HLa := Lib.hid hLa
  have HLb := Lib.hid hLb
  obtain ⟨p1, p2, p3, p4, p5, pp, pe, hPa, hPb⟩ := par_pair C t hC v d hv hd
  unfold outV at hPa hPb
  have HPa := Lib.hid hPa
  have HPb := Lib.hid hPb
  obtain ⟨N, hN⟩ : ∃ N, rightT t = N := ⟨_, rfl⟩
  rw [hN] at HR1 HR2
  have hwv : IntKind.i64.wrap (v : Int) = (v : Int) := IntWalk.i64_in _ (by omega)
  have hwb : IntKind.i64.wrap (b : Int) = (b : Int) := IntWalk.i64_in _ (by omega)
  have hws : IntKind.i64.wrap (s : Int) = (s : Int) := IntWalk.i64_in _ (by omega)
  have hwd : IntKind.i64.wrap (d : Int) = (d : Int) := IntWalk.i64_in _ (by omega)
  have hwq : IntKind.i64.wrap (bq : Int) = (bq : Int) := IntWalk.i64_in _ (by omega)
  clear hC hO hBa hBb hFa hFb hVa hVb hLa hLb hPa hPb hN
  go_enter Tryd.func17, Tryd.ntmps17
  go_upto_region 1 with fail
  obtain ⟨W1, hW1⟩ : ∃ W1, w.alloc (.cells C 25) = W1 := ⟨_, rfl⟩
  obtain ⟨g, hg⟩ : ∃ g, w.heap.size = g := ⟨_, rfl⟩
  have J0 := Lib.hid (show W1.heap[g]? = some (.cells C 25 (0, 0)) by rw [← hW1]; exact blk_new _ hg.symm)
  have hs1 := Lib.hid (show W1.heap.size = g + 1 by rw [← hW1]; simp [hg])
  have hB : Below w.heap.size w W1 := by rw [← hW1]; exact (by repeat (first | exact Below.refl _ _ | assumption | refine Below.drew ?_ | refine below_drewN ?_ _ | refine Below.alloc ?_ (by first | omega | (simp; done) | (simp; omega)) _ | refine Below.setCell ?_ (by first | omega | (simp; done) | (simp; omega)) _))
  rw [hW1, hg]
  clear hW1 hg
  go_upto_region 2 with (first | (refine wpList_load_row rfl 25 (.tmp 5) rfl g rfl 25 C _ _ J0.out Tryd.underlying25 rfl HI.out ?_) | (refine plain_alloc_to rfl 58 rfl tabZ tab18_zero ?_) | (refine wpList_store_new rfl 58 _ _ rfl C _ _ rfl rfl HI2.out (by rw [HsC.out]; rfl) HO.out ?_))
  rw [hs1.out]
  obtain ⟨W2, hW2⟩ : ∃ W2, W1.alloc (.cells C 58) = W2 := ⟨_, rfl⟩
  have J1 := Lib.hid (show W2.heap[g + 1]? = some (.cells C 58 (0, 0)) by rw [← hW2]; exact blk_new _ hs1.out.symm)
  have hb : Below W1.heap.size W1 W2 := by rw [← hW2]; exact (Below.refl _ _).alloc (Nat.le_refl _) _
  rw [hW2]
  clear hW2 hs1
  replace hB := below_via hB hb
  replace J0 := Lib.hid (blk_below J0.out hb (blk_lt J0.out))
  clear hb
  go_wp2_with (first | (refine wpList_load_row rfl 25 (.tmp 5) rfl g rfl 25 C _ _ J0.out Tryd.underlying25 rfl HI.out ?_) | (refine wpList_load_row rfl 58 (.tmp 11) rfl (g + 1) rfl 58 C _ _ J1.out Tryd.underlying58 rfl HI2.out ?_))
  refine (HBa.out _).mono ?_
  rintro ee w2 ⟨rfl, hb⟩
  replace hB := below_via hB hb
  replace J0 := Lib.hid (blk_below J0.out hb (blk_lt J0.out))
  replace J1 := Lib.hid (blk_below J1.out hb (blk_lt J1.out))
  clear hb
  go_wp2_with (first | (refine wpList_load_row rfl 25 (.tmp 5) rfl g rfl 25 C _ _ J0.out Tryd.underlying25 rfl HI.out ?_) | (refine wpList_load_row rfl 58 (.tmp 11) rfl (g + 1) rfl 58 C _ _ J1.out Tryd.underlying58 rfl HI2.out ?_))
  refine (HBb.out _).mono ?_
  rintro ee w3 ⟨rfl, hb⟩
  replace hB := below_via hB hb
  replace J0 := Lib.hid (blk_below J0.out hb (blk_lt J0.out))
  replace J1 := Lib.hid (blk_below J1.out hb (blk_lt J1.out))
  clear hb
  go_upto_region 5 with fail
  have hd0 : Below w3.heap.size w3 w3.drew := (Below.refl _ _).drew
  go_cut [80] (fun x wz => x = .bool false ∧ Hid (Below w3.heap.size w3 wz))
  case first =>
    have hnn : (N == N) = true := by cases N <;> rfl
    clear HL HBa HBb HFa HFb HVa HVb HLa HLb HPa HPb
    refine wp_region_held_drew (S := (fun w1 => w1.heap[g]? = some (.cells C 25 (0, 0)) ∧ w1.heap[g + 1]? = some (.cells C 58 (0, 0)))) (by kernel_rfl) ⟨J0.out, J1.out⟩ (fun hHeld => ?_)
    refine take_named (i := 0) (d := 60) (v := .agg C) rfl (by kernel_rfl) (by kernel_rfl) (by kernel_rfl) (by kernel_rfl) (fun _ _ _ h => h) (yieldsIf_load_row (by kernel_rfl) 25 (.tmp 5) rfl g rfl 25 C (0, 0) _ (fun w h => h.1) Tryd.underlying25 rfl HI.out) (by assumption) ?_
    (try simp only [Act.put, List.setIfInBounds_toArray, List.set_cons_zero, List.set_cons_succ])
    refine take_named (i := 2) (d := 62) (v := .agg C) rfl (by kernel_rfl) (by kernel_rfl) (by kernel_rfl) (by kernel_rfl) (fun _ _ _ h => h) (yieldsIf_load_row (by kernel_rfl) 58 (.tmp 11) rfl (g + 1) rfl 58 C (0, 0) _ (fun w h => h.2) Tryd.underlying58 rfl HI2.out) (by assumption) ?_
    (try simp only [Act.put, List.setIfInBounds_toArray, List.set_cons_zero, List.set_cons_succ])
    refine wpAnyH_ready (rs := [1]) (by kernel_rfl) (by simp) ?_
    refine AllReadyH.cons rfl (fun K hK => ?_) AllReadyH.nil
    · go_simp
      refine (HR1.out _).mono ?_
      rintro ee w4 ⟨rfl, hb4⟩
      have hx := hd0.trans (hb4.mono hd0.size)
      refine hK.out _ _ ⟨blk_below J0.out hx (blk_lt J0.out), blk_below J1.out hx (blk_lt J1.out)⟩ (fun hHeld1 => ?_)
      clear hK K hHeld hb4
      (try simp only [Act.put, List.setIfInBounds_toArray, List.set_cons_zero, List.set_cons_succ])
      refine wpAnyH_ready (rs := [3]) (by kernel_rfl) (by simp) ?_
      refine AllReadyH.cons rfl (fun K hK => ?_) AllReadyH.nil
      go_simp
      refine (HR2.out _).mono ?_
      rintro ee w5 ⟨rfl, hb5⟩
      replace hx := hx.trans (hb5.mono hx.size)
      refine hK.out _ _ ⟨blk_below J0.out hx (blk_lt J0.out), blk_below J1.out hx (blk_lt J1.out)⟩ (fun hHeld2 => ?_)
      clear hK K hHeld1 hb5
      (try simp only [Act.put, List.setIfInBounds_toArray, List.set_cons_zero, List.set_cons_succ])
      refine take_named (i := 4) (d := 64) (v := ?va4) rfl (by kernel_rfl) (by kernel_rfl) (by kernel_rfl) (by kernel_rfl) (fun _ _ _ h => h) (Or.inl ⟨by kernel_rfl, ?ya4⟩) (by assumption) ?_
      case ya4 => intro wq hSw; (try dsimp only at hSw); go_simp; (try with_reducible rfl)
      (try simp only [Act.put, List.setIfInBounds_toArray, List.set_cons_zero, List.set_cons_succ])
      refine take_named (i := 5) (d := 65) (v := ?va5) rfl (by kernel_rfl) (by kernel_rfl) (by kernel_rfl) (by kernel_rfl) (fun _ _ _ h => h) (Or.inl ⟨by kernel_rfl, ?ya5⟩) (by assumption) ?_
      case ya5 => intro wq hSw; (try dsimp only at hSw); go_simp; (try with_reducible rfl)
      (try simp only [Act.put, List.setIfInBounds_toArray, List.set_cons_zero, List.set_cons_succ])
      refine take_named (i := 6) (d := 66) (v := ?va6) rfl (by kernel_rfl) (by kernel_rfl) (by kernel_rfl) (by kernel_rfl) (fun _ _ _ h => h) (Or.inl ⟨by kernel_rfl, ?ya6⟩) (by assumption) ?_
      case ya6 => intro wq hSw; (try dsimp only at hSw); go_simp; (try with_reducible rfl)
      (try simp only [Act.put, List.setIfInBounds_toArray, List.set_cons_zero, List.set_cons_succ])
      refine take_named (i := 7) (d := 67) (v := ?va7) rfl (by kernel_rfl) (by kernel_rfl) (by kernel_rfl) (by kernel_rfl) (fun _ _ _ h => h) (Or.inl ⟨by kernel_rfl, ?ya7⟩) (by assumption) ?_
      case ya7 => intro wq hSw; (try dsimp only at hSw); go_simp; (try with_reducible rfl)
      (try simp only [Act.put, List.setIfInBounds_toArray, List.set_cons_zero, List.set_cons_succ])
      refine take_named (i := 8) (d := 68) (v := ?va8) rfl (by kernel_rfl) (by kernel_rfl) (by kernel_rfl) (by kernel_rfl) (fun _ _ _ h => h) (Or.inl ⟨by kernel_rfl, ?ya8⟩) (by assumption) ?_
      case ya8 => intro wq hSw; (try dsimp only at hSw); go_simp; (try with_reducible rfl)
      (try simp only [Act.put, List.setIfInBounds_toArray, List.set_cons_zero, List.set_cons_succ])
      refine take_named (i := 9) (d := 69) (v := ?va9) rfl (by kernel_rfl) (by kernel_rfl) (by kernel_rfl) (by kernel_rfl) (fun _ _ _ h => h) (Or.inl ⟨by kernel_rfl, ?ya9⟩) (by assumption) ?_
      case ya9 => intro wq hSw; (try dsimp only at hSw); go_simp; (try with_reducible rfl)
      (try simp only [Act.put, List.setIfInBounds_toArray, List.set_cons_zero, List.set_cons_succ])
      refine take_named (i := 10) (d := 70) (v := ?va10) rfl (by kernel_rfl) (by kernel_rfl) (by kernel_rfl) (by kernel_rfl) (fun _ _ _ h => h) (Or.inl ⟨by kernel_rfl, ?ya10⟩) (by assumption) ?_
      case ya10 => intro wq hSw; (try dsimp only at hSw); go_simp; (try with_reducible rfl)
      (try simp only [Act.put, List.setIfInBounds_toArray, List.set_cons_zero, List.set_cons_succ])
      refine take_named (i := 11) (d := 71) (v := ?va11) rfl (by kernel_rfl) (by kernel_rfl) (by kernel_rfl) (by kernel_rfl) (fun _ _ _ h => h) (Or.inl ⟨by kernel_rfl, ?ya11⟩) (by assumption) ?_
      case ya11 => intro wq hSw; (try dsimp only at hSw); go_simp; (try with_reducible rfl)
      (try simp only [Act.put, List.setIfInBounds_toArray, List.set_cons_zero, List.set_cons_succ])
      refine take_named (i := 12) (d := 72) (v := ?va12) rfl (by kernel_rfl) (by kernel_rfl) (by kernel_rfl) (by kernel_rfl) (fun _ _ _ h => h) (Or.inl ⟨by kernel_rfl, ?ya12⟩) (by assumption) ?_
      case ya12 => intro wq hSw; (try dsimp only at hSw); go_simp; (try with_reducible rfl)
      (try simp only [Act.put, List.setIfInBounds_toArray, List.set_cons_zero, List.set_cons_succ])
      refine take_named (i := 13) (d := 73) (v := ?va13) rfl (by kernel_rfl) (by kernel_rfl) (by kernel_rfl) (by kernel_rfl) (fun _ _ _ h => h) (Or.inl ⟨by kernel_rfl, ?ya13⟩) (by assumption) ?_
      case ya13 => intro wq hSw; (try dsimp only at hSw); go_simp; (try with_reducible rfl)
      (try simp only [Act.put, List.setIfInBounds_toArray, List.set_cons_zero, List.set_cons_succ])
      refine take_named (i := 14) (d := 74) (v := ?va14) rfl (by kernel_rfl) (by kernel_rfl) (by kernel_rfl) (by kernel_rfl) (fun _ _ _ h => h) (Or.inl ⟨by kernel_rfl, ?ya14⟩) (by assumption) ?_
      case ya14 => intro wq hSw; (try dsimp only at hSw); go_simp; (try with_reducible rfl)
      (try simp only [Act.put, List.setIfInBounds_toArray, List.set_cons_zero, List.set_cons_succ])
      refine take_named (i := 15) (d := 75) (v := ?va15) rfl (by kernel_rfl) (by kernel_rfl) (by kernel_rfl) (by kernel_rfl) (fun _ _ _ h => h) (Or.inl ⟨by kernel_rfl, ?ya15⟩) (by assumption) ?_
      case ya15 => intro wq hSw; (try dsimp only at hSw); go_simp; (try with_reducible rfl)
      (try simp only [Act.put, List.setIfInBounds_toArray, List.set_cons_zero, List.set_cons_succ])
      refine take_named (i := 16) (d := 76) (v := ?va16) rfl (by kernel_rfl) (by kernel_rfl) (by kernel_rfl) (by kernel_rfl) (fun _ _ _ h => h) (Or.inl ⟨by kernel_rfl, ?ya16⟩) (by assumption) ?_
      case ya16 => intro wq hSw; (try dsimp only at hSw); go_simp; (try with_reducible rfl)
      (try simp only [Act.put, List.setIfInBounds_toArray, List.set_cons_zero, List.set_cons_succ])
      refine take_named (i := 17) (d := 77) (v := ?va17) rfl (by kernel_rfl) (by kernel_rfl) (by kernel_rfl) (by kernel_rfl) (fun _ _ _ h => h) (Or.inl ⟨by kernel_rfl, ?ya17⟩) (by assumption) ?_
      case ya17 => intro wq hSw; (try dsimp only at hSw); go_simp; (try with_reducible rfl)
      (try simp only [Act.put, List.setIfInBounds_toArray, List.set_cons_zero, List.set_cons_succ])
      refine take_named (i := 18) (d := 78) (v := ?va18) rfl (by kernel_rfl) (by kernel_rfl) (by kernel_rfl) (by kernel_rfl) (fun _ _ _ h => h) (Or.inl ⟨by kernel_rfl, ?ya18⟩) (by assumption) ?_
      case ya18 => intro wq hSw; (try dsimp only at hSw); go_simp; (try with_reducible rfl)
      (try simp only [Act.put, List.setIfInBounds_toArray, List.set_cons_zero, List.set_cons_succ])
      refine take_named (i := 19) (d := 79) (v := ?va19) rfl (by kernel_rfl) (by kernel_rfl) (by kernel_rfl) (by kernel_rfl) (fun _ _ _ h => h) (Or.inl ⟨by kernel_rfl, ?ya19⟩) (by assumption) ?_
      case ya19 => intro wq hSw; (try dsimp only at hSw); go_simp; (try with_reducible rfl)
      (try simp only [Act.put, List.setIfInBounds_toArray, List.set_cons_zero, List.set_cons_succ])
      refine take_named (i := 20) (d := 80) (v := ?va20) rfl (by kernel_rfl) (by kernel_rfl) (by kernel_rfl) (by kernel_rfl) (fun _ _ _ h => h) (Or.inl ⟨by kernel_rfl, ?ya20⟩) (by assumption) ?_
      case ya20 => intro wq hSw; (try dsimp only at hSw); go_simp; (try with_reducible rfl)
      (try simp only [Act.put, List.setIfInBounds_toArray, List.set_cons_zero, List.set_cons_succ])
      refine wpAnyH_done (by kernel_rfl) ?_ _
      go_wp2_with fail
      go_meet
      exact ⟨rfl, Lib.hid hx⟩
  case rest =>
  obtain ⟨rfl, hb⟩ := hcut
  have hb := hb.out
  clear hd0 HR1 HR2
  replace hB := below_via hB hb
  replace J0 := Lib.hid (blk_below J0.out hb (blk_lt J0.out))
  replace J1 := Lib.hid (blk_below J1.out hb (blk_lt J1.out))
  clear hb
  go_wp2_with (first | (refine wpList_load_row rfl 25 (.tmp 5) rfl g rfl 25 C _ _ J0.out Tryd.underlying25 rfl HI.out ?_) | (refine wpList_load_row rfl 58 (.tmp 11) rfl (g + 1) rfl 58 C _ _ J1.out Tryd.underlying58 rfl HI2.out ?_))
  refine (HFa.out _ (HL.out.go hB)).mono ?_
  rintro ee w4 ⟨rfl, hb⟩
  replace hB := below_via hB hb
  replace J0 := Lib.hid (blk_below J0.out hb (blk_lt J0.out))
  replace J1 := Lib.hid (blk_below J1.out hb (blk_lt J1.out))
  clear hb
  go_upto_region 8 with fail
  obtain ⟨X5, hX5⟩ : ∃ X, w4.alloc (.cells #[.int .u8 f1, .int .u8 f2, .int .u8 f3, .int .u8 f4, .int .i64 f5, .int .i64 0] 30) = X := ⟨_, rfl⟩
  obtain ⟨m5, hm5⟩ : ∃ m, w4.heap.size = m := ⟨_, rfl⟩
  have F1 := Lib.hid (show X5.heap[m5]? = some (.cells #[.int .u8 f1, .int .u8 f2, .int .u8 f3, .int .u8 f4, .int .i64 f5, .int .i64 0] 30 (0, 0)) by rw [← hX5]; exact blk_new _ hm5.symm)
  have hb : Below w4.heap.size w4 X5 := by rw [← hX5]; exact (Below.refl _ _).alloc (Nat.le_refl _) _
  rw [hX5, hm5]
  clear hX5 hm5
  replace hB := below_via hB hb
  replace J0 := Lib.hid (blk_below J0.out hb (blk_lt J0.out))
  replace J1 := Lib.hid (blk_below J1.out hb (blk_lt J1.out))
  clear hb
  go_wp2_with (first | (refine wpList_load_row rfl 25 (.tmp 5) rfl g rfl 25 C _ _ J0.out Tryd.underlying25 rfl HI.out ?_) | (refine wpList_load_row rfl 58 (.tmp 11) rfl (g + 1) rfl 58 C _ _ J1.out Tryd.underlying58 rfl HI2.out ?_))
  refine (HFb.out _).mono ?_
  rintro ee w5 ⟨rfl, hb⟩
  replace hB := below_via hB hb
  replace J0 := Lib.hid (blk_below J0.out hb (blk_lt J0.out))
  replace J1 := Lib.hid (blk_below J1.out hb (blk_lt J1.out))
  replace F1 := Lib.hid (blk_below F1.out hb (blk_lt F1.out))
  clear hb
  go_upto_region 9 with fail
  obtain ⟨X6, hX6⟩ : ∃ X, w5.alloc (.cells #[.int .u8 f1, .int .u8 f2, .int .u8 f3, .int .u8 f4, .int .i64 f5, .int .i64 0] 30) = X := ⟨_, rfl⟩
  obtain ⟨m6, hm6⟩ : ∃ m, w5.heap.size = m := ⟨_, rfl⟩
  have F2 := Lib.hid (show X6.heap[m6]? = some (.cells #[.int .u8 f1, .int .u8 f2, .int .u8 f3, .int .u8 f4, .int .i64 f5, .int .i64 0] 30 (0, 0)) by rw [← hX6]; exact blk_new _ hm6.symm)
  have hb : Below w5.heap.size w5 X6 := by rw [← hX6]; exact (Below.refl _ _).alloc (Nat.le_refl _) _
  rw [hX6, hm6]
  clear hX6 hm6
  replace hB := below_via hB hb
  replace J0 := Lib.hid (blk_below J0.out hb (blk_lt J0.out))
  replace J1 := Lib.hid (blk_below J1.out hb (blk_lt J1.out))
  replace F1 := Lib.hid (blk_below F1.out hb (blk_lt F1.out))
  clear hb
  go_wp2_with (first | (refine wpList_load_row rfl 25 (.tmp 5) rfl g rfl 25 C _ _ J0.out Tryd.underlying25 rfl HI.out ?_) | (refine wpList_load_row rfl 58 (.tmp 11) rfl (g + 1) rfl 58 C _ _ J1.out Tryd.underlying58 rfl HI2.out ?_))
  refine (HVa.out _ (HL.out.go hB)).mono ?_
  rintro ee w6 ⟨rfl, hb⟩
  replace hB := below_via hB hb
  replace J0 := Lib.hid (blk_below J0.out hb (blk_lt J0.out))
  replace J1 := Lib.hid (blk_below J1.out hb (blk_lt J1.out))
  replace F1 := Lib.hid (blk_below F1.out hb (blk_lt F1.out))
  replace F2 := Lib.hid (blk_below F2.out hb (blk_lt F2.out))
  clear hb
  go_wp2_with (first | (refine wpList_load_row rfl 25 (.tmp 5) rfl g rfl 25 C _ _ J0.out Tryd.underlying25 rfl HI.out ?_) | (refine wpList_load_row rfl 58 (.tmp 11) rfl (g + 1) rfl 58 C _ _ J1.out Tryd.underlying58 rfl HI2.out ?_))
  refine (HVb.out _).mono ?_
  rintro ee w7 ⟨rfl, hb⟩
  replace hB := below_via hB hb
  replace J0 := Lib.hid (blk_below J0.out hb (blk_lt J0.out))
  replace J1 := Lib.hid (blk_below J1.out hb (blk_lt J1.out))
  replace F1 := Lib.hid (blk_below F1.out hb (blk_lt F1.out))
  replace F2 := Lib.hid (blk_below F2.out hb (blk_lt F2.out))
  clear hb
  have F1q0 := blk_cell F1.out 0
  have F1q1 := blk_cell F1.out 1
  have F1q2 := blk_cell F1.out 2
  have F1q3 := blk_cell F1.out 3
  have F1q4 := blk_cell F1.out 4
  have F1q5 := blk_cell F1.out 5
  have F2q0 := blk_cell F2.out 0
  have F2q1 := blk_cell F2.out 1
  have F2q2 := blk_cell F2.out 2
  have F2q3 := blk_cell F2.out 3
  have F2q4 := blk_cell F2.out 4
  have F2q5 := blk_cell F2.out 5
  go_upto_region 13 with fail
  clear F1q0 F1q1 F1q2 F1q3 F1q4 F1q5 F2q0 F2q1 F2q2 F2q3 F2q4 F2q5
  go_wp2_with (first | (refine wpList_load_row rfl 25 (.tmp 5) rfl g rfl 25 C _ _ J0.out Tryd.underlying25 rfl HI.out ?_) | (refine wpList_load_row rfl 58 (.tmp 11) rfl (g + 1) rfl 58 C _ _ J1.out Tryd.underlying58 rfl HI2.out ?_))
  refine (HLa.out _ (HL.out.go hB)).mono ?_
  rintro ee w8 ⟨sv1, rfl, ho1, hb⟩
  obtain ⟨A1, k1, rfl⟩ := own_form ho1
  have R1 := Lib.hid (Rd.of_own ho1)
  replace hB := below_via hB hb
  replace J0 := Lib.hid (blk_below J0.out hb (blk_lt J0.out))
  replace J1 := Lib.hid (blk_below J1.out hb (blk_lt J1.out))
  clear hb ho1 F1 F2
  go_wp2_with (first | (refine wpList_load_row rfl 25 (.tmp 5) rfl g rfl 25 C _ _ J0.out Tryd.underlying25 rfl HI.out ?_) | (refine wpList_load_row rfl 58 (.tmp 11) rfl (g + 1) rfl 58 C _ _ J1.out Tryd.underlying58 rfl HI2.out ?_))
  refine (HLb.out _).mono ?_
  rintro ee w9 ⟨sv2, rfl, ho2, hb⟩
  obtain ⟨A2, k2, rfl⟩ := own_form ho2
  replace R1 := Lib.hid ((R1.out.below hb).more hb.size)
  have R2 := Lib.hid (Rd.of_own ho2)
  replace hB := below_via hB hb
  replace J0 := Lib.hid (blk_below J0.out hb (blk_lt J0.out))
  replace J1 := Lib.hid (blk_below J1.out hb (blk_lt J1.out))
  clear hb ho2
  go_wp2_with (first | (refine wpList_load_row rfl 25 (.tmp 5) rfl g rfl 25 C _ _ J0.out Tryd.underlying25 rfl HI.out ?_) | (refine wpList_load_row rfl 58 (.tmp 11) rfl (g + 1) rfl 58 C _ _ J1.out Tryd.underlying58 rfl HI2.out ?_))
  refine (HPa.out _ (HL.out.go hB)).mono ?_
  rintro ee w10 ⟨rfl, hb⟩
  replace hB := below_via hB hb
  replace J0 := Lib.hid (blk_below J0.out hb (blk_lt J0.out))
  replace J1 := Lib.hid (blk_below J1.out hb (blk_lt J1.out))
  replace R1 := Lib.hid ((R1.out.below hb).more hb.size)
  replace R2 := Lib.hid ((R2.out.below hb).more hb.size)
  clear hb
  go_upto_region 16 with fail
  obtain ⟨X11, hX11⟩ : ∃ X, w10.alloc (.cells #[.int .u8 p1, .int .u8 p2, .int .u8 p3, .int .u8 p4, .int .i64 p5, .int .i64 0] 30) = X := ⟨_, rfl⟩
  obtain ⟨m11, hm11⟩ : ∃ m, w10.heap.size = m := ⟨_, rfl⟩
  have P1 := Lib.hid (show X11.heap[m11]? = some (.cells #[.int .u8 p1, .int .u8 p2, .int .u8 p3, .int .u8 p4, .int .i64 p5, .int .i64 0] 30 (0, 0)) by rw [← hX11]; exact blk_new _ hm11.symm)
  have hb : Below w10.heap.size w10 X11 := by rw [← hX11]; exact (Below.refl _ _).alloc (Nat.le_refl _) _
  rw [hX11, hm11]
  clear hX11 hm11
  replace hB := below_via hB hb
  replace J0 := Lib.hid (blk_below J0.out hb (blk_lt J0.out))
  replace J1 := Lib.hid (blk_below J1.out hb (blk_lt J1.out))
  replace R1 := Lib.hid ((R1.out.below hb).more hb.size)
  replace R2 := Lib.hid ((R2.out.below hb).more hb.size)
  clear hb
  go_wp2_with (first | (refine wpList_load_row rfl 25 (.tmp 5) rfl g rfl 25 C _ _ J0.out Tryd.underlying25 rfl HI.out ?_) | (refine wpList_load_row rfl 58 (.tmp 11) rfl (g + 1) rfl 58 C _ _ J1.out Tryd.underlying58 rfl HI2.out ?_))
  refine (HPb.out _).mono ?_
  rintro ee w11 ⟨rfl, hb⟩
  replace hB := below_via hB hb
  replace J0 := Lib.hid (blk_below J0.out hb (blk_lt J0.out))
  replace J1 := Lib.hid (blk_below J1.out hb (blk_lt J1.out))
  replace P1 := Lib.hid (blk_below P1.out hb (blk_lt P1.out))
  replace R1 := Lib.hid ((R1.out.below hb).more hb.size)
  replace R2 := Lib.hid ((R2.out.below hb).more hb.size)
  clear hb
  go_upto_region 17 with fail
  obtain ⟨X12, hX12⟩ : ∃ X, w11.alloc (.cells #[.int .u8 p1, .int .u8 p2, .int .u8 p3, .int .u8 p4, .int .i64 p5, .int .i64 0] 30) = X := ⟨_, rfl⟩
  obtain ⟨m12, hm12⟩ : ∃ m, w11.heap.size = m := ⟨_, rfl⟩
  have P2 := Lib.hid (show X12.heap[m12]? = some (.cells #[.int .u8 p1, .int .u8 p2, .int .u8 p3, .int .u8 p4, .int .i64 p5, .int .i64 0] 30 (0, 0)) by rw [← hX12]; exact blk_new _ hm12.symm)
  have hb : Below w11.heap.size w11 X12 := by rw [← hX12]; exact (Below.refl _ _).alloc (Nat.le_refl _) _
  rw [hX12, hm12]
  clear hX12 hm12
  replace hB := below_via hB hb
  replace J0 := Lib.hid (blk_below J0.out hb (blk_lt J0.out))
  replace J1 := Lib.hid (blk_below J1.out hb (blk_lt J1.out))
  replace P1 := Lib.hid (blk_below P1.out hb (blk_lt P1.out))
  replace R1 := Lib.hid ((R1.out.below hb).more hb.size)
  replace R2 := Lib.hid ((R2.out.below hb).more hb.size)
  clear hb
  have P1q0 := blk_cell P1.out 0
  have P1q1 := blk_cell P1.out 1
  have P1q2 := blk_cell P1.out 2
  have P1q3 := blk_cell P1.out 3
  have P1q4 := blk_cell P1.out 4
  have P1q5 := blk_cell P1.out 5
  have P2q0 := blk_cell P2.out 0
  have P2q1 := blk_cell P2.out 1
  have P2q2 := blk_cell P2.out 2
  have P2q3 := blk_cell P2.out 3
  have P2q4 := blk_cell P2.out 4
  have P2q5 := blk_cell P2.out 5
  have s1 := conv_rd (P := Tryd.prog) R1.out k1 34 9 5 Tryd.underlying34 Tryd.underlying5 Tryd.underlying9
  have s2 := conv_rd (P := Tryd.prog) R2.out k2 34 9 5 Tryd.underlying34 Tryd.underlying5 Tryd.underlying9
  generalize strB l = st at s1 s2
  clear R1 R2 P1 P2 J0 J1
  go_wp2
  go_ret
  exact ⟨rfl, hB⟩

theorem tab_one {C : Array Value} {t : Nat → Nat → Int} (h : TabC C t) : C.all (·.oneCell') = true := by
  rw [Array.all_eq_true]
  intro i hi
  have hs := h.1
  have := h.2 (i / 4) (i % 4) (by omega) (by omega)
  rw [show i / 4 * 4 + i % 4 = i by omega, Array.getElem?_eq_getElem hi] at this
  rw [Option.some.inj this]; rfl

set_option maxRecDepth 100000 in
set_option maxHeartbeats 1000000 in
theorem parTells_walk (C : Array Value) (t : Nat → Nat → Int) (hC : TabC C t) (_ : ∀ d s, d < 5 → s < 4 → -9223372036854775808 ≤ t d s ∧ t d s ≤ 9223372036854775807)
    (v : Int) (hv : 0 ≤ v ∧ v ≤ 255) (b : Int) (hb : 0 ≤ b ∧ b ≤ 255) (s : Int) (hs : 0 ≤ s ∧ s ≤ 255) (d : Int) (hd : 0 ≤ d ∧ d ≤ 255) (w : World) (hL : LaidS w) :
    Calls Tryd.prog 6 #[.agg C, .int .u8 v, .int .u8 b, .int .u8 s, .int .u8 d] w fun e w' => e = .returned (.bool true) ∧ Below w.heap.size w w' := by
  obtain ⟨v, rfl⟩ : ∃ n : Nat, v = (n : Int) := ⟨v.toNat, by omega⟩
  obtain ⟨b, rfl⟩ : ∃ n : Nat, b = (n : Int) := ⟨b.toNat, by omega⟩
  obtain ⟨s, rfl⟩ : ∃ n : Nat, s = (n : Int) := ⟨s.toNat, by omega⟩
  obtain ⟨d, rfl⟩ : ∃ n : Nat, d = (n : Int) := ⟨d.toNat, by omega⟩
  have HT := Lib.hid (fun W hW => tells18 C t hC (tab_one hC) v b s d (by omega) (by omega) (by omega) (by omega) W hW)
  have HL := Lib.hid hL
  have HI := Lib.hid hC.info
  clear hC hL
  go_enter Tryd.func6, Tryd.ntmps6
  go_upto_region 1 with fail
  obtain ⟨W1, hW1⟩ : ∃ W1, w.alloc (.cells C 25) = W1 := ⟨_, rfl⟩
  obtain ⟨g, hg⟩ : ∃ g, w.heap.size = g := ⟨_, rfl⟩
  have J0 := Lib.hid (show W1.heap[g]? = some (.cells C 25 (0, 0)) by rw [← hW1]; exact blk_new _ hg.symm)
  have hB : Below w.heap.size w W1 := by rw [← hW1]; exact (by repeat (first | exact Below.refl _ _ | assumption | refine Below.drew ?_ | refine below_drewN ?_ _ | refine Below.alloc ?_ (by first | omega | (simp; done) | (simp; omega)) _ | refine Below.setCell ?_ (by first | omega | (simp; done) | (simp; omega)) _))
  rw [hW1, hg]
  clear hW1 hg
  go_wp2_with (refine wpList_load_row rfl 25 (.tmp 5) rfl g rfl 25 C _ _ J0.out Tryd.underlying25 rfl HI.out ?_)
  refine (HT.out _ (HL.out.go hB)).mono ?_
  rintro ee w2 ⟨rfl, hb2⟩
  have hB2 := below_via hB hb2
  have HA := Lib.hid (awake18 w2 (HL.out.go hB2))
  clear hB hb2
  go_wp2_with fail
  refine HA.out.mono ?_
  rintro ee w3 ⟨rfl, hb3⟩
  have hB3 := below_via hB2 hb3
  go_wp2
  go_ret
  exact ⟨rfl, hB3⟩

end Go.Proofs.YtilekdjjfdehcaaDoor
