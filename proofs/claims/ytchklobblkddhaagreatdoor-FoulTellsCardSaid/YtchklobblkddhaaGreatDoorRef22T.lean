/- The reference finesseref22: mean, Mean, Award. The reference finesseref22: Award. The program's and the reference's functions of layer 22 return the same. -/
import Derived.Test.YtchklobblkddhaaGreatDoorRef22E
import Derived.Test.YtchklobblkddhaaGreatDoorAdjMeanW
import Derived.Test.YtchklobblkddhaaGreatDoorAdjAwardW
import Derived.Laws.CopyOwn
namespace Go.Proofs.YtchklobblkddhaaGreatDoor
open Go.RowKit

/-! ### The reference finesseref22: mean, Mean, Award. -/
/-- Errors of the reference's Sides. -/
def SidesErrR (C : Array Value) (vul E : Int) : Prop := ∀ W, Calls Tryz.prog 33 #[.agg C, .int .u8 vul] W fun e w' => e = .returned (.tuple #[.slice none 0 0, .slice none 0 0, .int .i64 E]) ∧ Below W.heap.size W w'
/-! ### The reference finesseref22: Award. -/
theorem award_fr22 (p n : Int) : awardF p n = fr (p * 2 * (n - 1)) 100 := by
  unfold awardF
  have h : fr p 1 = (p, 1) := by unfold fr; simp
  rw [← h, mul_fr p _ 1 100 (by decide) (by decide), Int.mul_assoc p 2 (n - 1), Int.one_mul]

set_option maxRecDepth 100000 in
set_option maxHeartbeats 2000000 in
theorem r22award_err (C : Array Value) (k f a0 a1 all E : Int) (o : Nat → Oc) (hC : EnC C k f o a0 a1) (ho : ∀ i, i < 4 → OcOk (o i)) (hf : 0 ≤ f ∧ f ≤ 255) (hk : 0 ≤ k ∧ k ≤ 255) (h : (E = 2 ∧ (rightE k f o a0 a1 = false ∨ all < 1 ∨ 24 < all)) ∨ (E = 6 ∧ rightE k f o a0 a1 = true ∧ 1 ≤ all ∧ all ≤ 24 ∧ k ≠ 4)) (w : World) :
    Calls Tryz.prog 20 #[.agg C, .int .i64 all] w fun e w' => e = .returned (.tuple #[.agg #[.int .i64 0, .int .i64 0], .agg #[.int .i64 0, .int .i64 0], .int .i64 E]) ∧ Below w.heap.size w w' := by
  have HI := Lib.hid hC.size
  have HQ := Lib.hid (fun W => r22right C k f a0 a1 o hC ho hf hk W)
  have c4 := hC.2.1
  generalize rightE k f o a0 a1 = R at HQ h
  have hcs : (E = 2 ∧ R = false) ∨ (E = 2 ∧ R = true ∧ all < 1) ∨ (E = 2 ∧ R = true ∧ ¬ all < 1 ∧ 24 < all) ∨ (E = 6 ∧ R = true ∧ ¬ all < 1 ∧ ¬ 24 < all ∧ k ≠ 4) := by
    rcases h with ⟨h1, h2⟩ | ⟨h1, h2, h3, h4, h5⟩
    · cases R
      · exact .inl ⟨h1, rfl⟩
      · rcases h2 with h2 | h2 | h2
        · cases h2
        · exact .inr (.inl ⟨h1, rfl, h2⟩)
        · exact .inr (.inr (.inl ⟨h1, rfl, by omega, h2⟩))
    · exact .inr (.inr (.inr ⟨h1, h2, by omega, by omega, h5⟩))
  clear h ho hC
  go_enter Tryz.func20, Tryz.ntmps20
  go_upto_region 1 with fail
  obtain ⟨W1, hW1⟩ : ∃ W1, ((w.alloc (.cells C 51)).alloc (.cells #[.int .i64 0, .int .i64 0] 36)).alloc (.cells #[.int .i64 0, .int .i64 0] 36) = W1 := ⟨_, rfl⟩
  obtain ⟨g, hg⟩ : ∃ g, w.heap.size = g := ⟨_, rfl⟩
  have HK := Lib.hid (show W1.heap[g]? = some (.cells C 51 (0, 0)) by rw [← hW1]; exact blk_alloc (blk_alloc (blk_new _ hg.symm) _) _)
  have K2 := Lib.hid (show W1.heap[g + 1]? = some (.cells #[.int .i64 0, .int .i64 0] 36 (0, 0)) by rw [← hW1]; exact blk_alloc (blk_new _ (by simp; omega)) _)
  have K3 := Lib.hid (show W1.heap[g + 1 + 1]? = some (.cells #[.int .i64 0, .int .i64 0] 36 (0, 0)) by rw [← hW1]; exact blk_new _ (by simp; omega))
  have hB : Below w.heap.size w W1 := by rw [← hW1]; exact (by repeat (first | exact Below.refl _ _ | assumption | refine Below.drew ?_ | refine below_drewN ?_ _ | refine Below.alloc ?_ (by first | omega | (simp; done) | (simp; omega)) _ | refine Below.setCell ?_ (by first | omega | (simp; done) | (simp; omega)) _))
  have hg1 : w.heap.size ≤ g + 1 := by omega
  have hg2 : w.heap.size ≤ g + 1 + 1 := by omega
  rw [hW1, hg]
  clear hW1 hg
  go_wp2_with (refine wpList_load_row rfl 51 (.tmp 2) rfl g rfl 51 C _ _ HK.out Tryz.underlying51 rfl HI.out ?_)
  refine (HQ.out _).mono ?_
  rintro ee w2 ⟨rfl, hb⟩
  replace hB := below_via hB hb
  replace HK := Lib.hid (blk_below HK.out hb (blk_lt HK.out))
  replace K2 := Lib.hid (blk_below K2.out hb (blk_lt K2.out))
  replace K3 := Lib.hid (blk_below K3.out hb (blk_lt K3.out))
  clear hb
  have q4 := (blk_cell HK.out 4).trans c4
  have c0 := blk_cell K2.out 0
  have c1 := blk_cell K2.out 1
  have c2 := blk_cell K3.out 0
  have c3 := blk_cell K3.out 1
  have f0 := blk_free K2.out 0
  have f1 := blk_free K2.out 1
  have f2 := blk_free K3.out 0
  have f3 := blk_free K3.out 1
  have hn : g + 1 ≠ g + 1 + 1 := by omega
  have HZ := Lib.hid ((((hB.setCell (p := ⟨g + 1, 0, none⟩) hg1 (.int .i64 0)).setCell (p := ⟨g + 1, 1, none⟩) hg1 (.int .i64 0)).setCell (p := ⟨g + 1 + 1, 0, none⟩) hg2 (.int .i64 0)).setCell (p := ⟨g + 1 + 1, 1, none⟩) hg2 (.int .i64 0))
  clear HK K2 K3 hB c4
  rcases hcs with ⟨rfl, rfl⟩ | ⟨rfl, rfl, u1⟩ | ⟨rfl, rfl, u1, u2⟩ | ⟨rfl, rfl, u1, u2, u3⟩
  · go_wp2
    refine bodyPost_ret (v := .tuple #[.agg #[.int .i64 0, .int .i64 0], .agg #[.int .i64 0, .int .i64 0], .int .i64 2]) ?_ rfl ⟨rfl, HZ.out⟩
    simp [results, Tryz.results20, go_sem, c0, c1, c2, c3, World.cell?_setCell_far]
  · go_wp2
    refine bodyPost_ret (v := .tuple #[.agg #[.int .i64 0, .int .i64 0], .agg #[.int .i64 0, .int .i64 0], .int .i64 2]) ?_ rfl ⟨rfl, HZ.out⟩
    simp [results, Tryz.results20, go_sem, c0, c1, c2, c3, World.cell?_setCell_far]
  · go_wp2
    refine bodyPost_ret (v := .tuple #[.agg #[.int .i64 0, .int .i64 0], .agg #[.int .i64 0, .int .i64 0], .int .i64 2]) ?_ rfl ⟨rfl, HZ.out⟩
    simp [results, Tryz.results20, go_sem, c0, c1, c2, c3, World.cell?_setCell_far]
  · have t4 : (k == 4) = false := beq_eq_false_iff_ne.2 u3
    have t4' : (k != 4) = true := by rw [bne, t4]; rfl
    go_wp2
    refine bodyPost_ret (v := .tuple #[.agg #[.int .i64 0, .int .i64 0], .agg #[.int .i64 0, .int .i64 0], .int .i64 6]) ?_ rfl ⟨rfl, HZ.out⟩
    simp [results, Tryz.results20, go_sem, c0, c1, c2, c3, World.cell?_setCell_far]

set_option maxRecDepth 100000 in
set_option maxHeartbeats 2000000 in
theorem r22award_some (C : Array Value) (f a0 a1 all : Int) (o : Nat → Oc) (hC : EnC C 4 f o a0 a1) (ho : ∀ i, i < 4 → OcOk (o i)) (hf : 0 ≤ f ∧ f ≤ 255) (ha : 1 ≤ all ∧ all ≤ 24) (h : rightE 4 f o a0 a1 = true) (hs0 : shareB a0 = true) (hs1 : shareB a1 = true) (w : World) :
    Calls Tryz.prog 20 #[.agg C, .int .i64 all] w fun e w' => e = .returned (.tuple #[fV (awardF a0 all), fV (awardF a1 all), .int .i64 0]) ∧ Below w.heap.size w w' := by
  have HI := Lib.hid hC.size
  have HQ := Lib.hid (fun W => r22right C 4 f a0 a1 o hC ho hf (by omega) W)
  rw [h] at HQ
  have c4 := hC.2.1
  have c31 := hC.2.2.2.1
  have c32 := hC.2.2.2.2.1
  have b0 := share_bd hs0
  have b1 := share_bd hs1
  have m0 := mulB (x := a0 * 2) (y := all - 1) (X := 200) (Y := 23) (by omega) (by omega)
  have m1 := mulB (x := a1 * 2) (y := all - 1) (X := 200) (Y := 23) (by omega) (by omega)
  rw [award_fr22, award_fr22]
  have hw0 : IntKind.i64.wrap (a0 * 2) = a0 * 2 := IntWalk.i64_in _ (by omega)
  have hw1 : IntKind.i64.wrap (a1 * 2) = a1 * 2 := IntWalk.i64_in _ (by omega)
  have hw2 : IntKind.i64.wrap (all - 1) = all - 1 := IntWalk.i64_in _ (by omega)
  obtain ⟨x0, hx0⟩ : ∃ x, a0 * 2 * (all - 1) = x := ⟨_, rfl⟩
  obtain ⟨x1, hx1⟩ : ∃ x, a1 * 2 * (all - 1) = x := ⟨_, rfl⟩
  rw [hx0] at m0 ⊢
  rw [hx1] at m1 ⊢
  have hw3 : IntKind.i64.wrap (a0 * 2 * (all - 1)) = x0 := by rw [hx0]; exact IntWalk.i64_in _ (by omega)
  have hw4 : IntKind.i64.wrap (a1 * 2 * (all - 1)) = x1 := by rw [hx1]; exact IntWalk.i64_in _ (by omega)
  have HR0 := Lib.hid (fun W => reduced_any x0 100 W (by omega) (by omega))
  have HR1 := Lib.hid (fun W => reduced_any x1 100 W (by omega) (by omega))
  generalize fr x0 100 = z0 at *
  generalize fr x1 100 = z1 at *
  obtain ⟨n0, n1⟩ := z0
  obtain ⟨n2, n3⟩ := z1
  unfold fV at HR0 HR1 ⊢
  dsimp only at HR0 HR1 ⊢
  have u1 : ¬ all < 1 := by omega
  have u2 : ¬ 24 < all := by omega
  clear h ho hC hx0 hx1 hs0 hs1
  go_enter Tryz.func20, Tryz.ntmps20
  go_upto_region 1 with fail
  obtain ⟨W1, hW1⟩ : ∃ W1, ((w.alloc (.cells C 51)).alloc (.cells #[.int .i64 0, .int .i64 0] 36)).alloc (.cells #[.int .i64 0, .int .i64 0] 36) = W1 := ⟨_, rfl⟩
  obtain ⟨g, hg⟩ : ∃ g, w.heap.size = g := ⟨_, rfl⟩
  have HK := Lib.hid (show W1.heap[g]? = some (.cells C 51 (0, 0)) by rw [← hW1]; exact blk_alloc (blk_alloc (blk_new _ hg.symm) _) _)
  have K2 := Lib.hid (show W1.heap[g + 1]? = some (.cells #[.int .i64 0, .int .i64 0] 36 (0, 0)) by rw [← hW1]; exact blk_alloc (blk_new _ (by simp; omega)) _)
  have K3 := Lib.hid (show W1.heap[g + 1 + 1]? = some (.cells #[.int .i64 0, .int .i64 0] 36 (0, 0)) by rw [← hW1]; exact blk_new _ (by simp; omega))
  have hB : Below w.heap.size w W1 := by rw [← hW1]; exact (by repeat (first | exact Below.refl _ _ | assumption | refine Below.drew ?_ | refine below_drewN ?_ _ | refine Below.alloc ?_ (by first | omega | (simp; done) | (simp; omega)) _ | refine Below.setCell ?_ (by first | omega | (simp; done) | (simp; omega)) _))
  have hg1 : w.heap.size ≤ g + 1 := by omega
  have hg2 : w.heap.size ≤ g + 1 + 1 := by omega
  rw [hW1, hg]
  clear hW1 hg
  go_wp2_with (refine wpList_load_row rfl 51 (.tmp 2) rfl g rfl 51 C _ _ HK.out Tryz.underlying51 rfl HI.out ?_)
  refine (HQ.out _).mono ?_
  rintro ee w2 ⟨rfl, hb⟩
  replace hB := below_via hB hb
  replace HK := Lib.hid (blk_below HK.out hb (blk_lt HK.out))
  replace K2 := Lib.hid (blk_below K2.out hb (blk_lt K2.out))
  replace K3 := Lib.hid (blk_below K3.out hb (blk_lt K3.out))
  clear hb
  have q4 := (blk_cell HK.out 4).trans c4
  have q31 := (blk_cell HK.out 31).trans c31
  have q32 := (blk_cell HK.out 32).trans c32
  have hlk := blk_lt HK.out
  have hd : Below w2.heap.size w2 w2.drew := (Below.refl _ _).drew
  have HSS := Lib.hid (fun (W : World) (hb : Below w2.heap.size w2 W) => (show W.cell? ⟨g, 31, none⟩ = some (.int .i64 a0) ∧ W.cell? ⟨g, 32, none⟩ = some (.int .i64 a1) from ⟨keepB0 hb hlk q31, keepB0 hb hlk q32⟩))
  have C31 := Lib.hid c31
  have C32 := Lib.hid c32
  clear c4 c31 c32 HQ
  go_upto_region 5 with fail
  refine wp_region_held_drew (S := (fun w1 => w1.cell? ⟨g, 31, none⟩ = some (.int .i64 a0) ∧ w1.cell? ⟨g, 32, none⟩ = some (.int .i64 a1))) (by kernel_rfl) (HSS.out _ hd) (fun hHeld => ?_)
  refine take_named (i := 0) (d := 25) (v := ?v0) rfl (by kernel_rfl) (by kernel_rfl) (by kernel_rfl) (by kernel_rfl) (fun _ _ _ h => h) (Or.inl ⟨by kernel_rfl, ?y0⟩) (by assumption) ?_
  case y0 => intro wq hSw; (try dsimp only at hSw); go_simp; (try with_reducible rfl)
  (try simp only [Act.put, List.setIfInBounds_toArray, List.set_cons_zero, List.set_cons_succ])
  refine take_named (i := 1) (d := 26) (v := ?v1) rfl (by kernel_rfl) (by kernel_rfl) (by kernel_rfl) (by kernel_rfl) (fun _ _ _ h => h) (Or.inl ⟨by kernel_rfl, ?y1⟩) (by assumption) ?_
  case y1 => intro wq hSw; (try dsimp only at hSw); go_simp; (try with_reducible rfl)
  (try simp only [Act.put, List.setIfInBounds_toArray, List.set_cons_zero, List.set_cons_succ])
  refine take_named (i := 2) (d := 27) (v := ?v2) rfl (by kernel_rfl) (by kernel_rfl) (by kernel_rfl) (by kernel_rfl) (fun _ _ _ h => h) (Or.inl ⟨by kernel_rfl, ?y2⟩) (by assumption) ?_
  case y2 => intro wq hSw; (try dsimp only at hSw); go_simp; (try with_reducible rfl)
  (try simp only [Act.put, List.setIfInBounds_toArray, List.set_cons_zero, List.set_cons_succ])
  refine take_named (i := 3) (d := 28) (v := ?v3) rfl (by kernel_rfl) (by kernel_rfl) (by kernel_rfl) (by kernel_rfl) (fun _ _ _ h => h) (Or.inl ⟨by kernel_rfl, ?y3⟩) (by assumption) ?_
  case y3 => intro wq hSw; (try dsimp only at hSw); go_simp; (try with_reducible rfl)
  (try simp only [Act.put, List.setIfInBounds_toArray, List.set_cons_zero, List.set_cons_succ])
  refine take_named (i := 4) (d := 29) (v := ?v4) rfl (by kernel_rfl) (by kernel_rfl) (by kernel_rfl) (by kernel_rfl) (fun _ _ _ h => h) (Or.inl ⟨by kernel_rfl, ?y4⟩) (by assumption) ?_
  case y4 => intro wq hSw; (try dsimp only at hSw); go_simp; (try with_reducible rfl)
  (try simp only [Act.put, List.setIfInBounds_toArray, List.set_cons_zero, List.set_cons_succ])
  refine take_named (i := 5) (d := 30) (v := ?v5) rfl (by kernel_rfl) (by kernel_rfl) (by kernel_rfl) (by kernel_rfl) (fun _ _ _ h => h) (Or.inl ⟨by kernel_rfl, ?y5⟩) (by assumption) ?_
  case y5 => intro wq hSw; (try dsimp only at hSw); go_simp; (try with_reducible rfl)
  (try simp only [Act.put, List.setIfInBounds_toArray, List.set_cons_zero, List.set_cons_succ])
  refine take_named (i := 6) (d := 31) (v := ?v6) rfl (by kernel_rfl) (by kernel_rfl) (by kernel_rfl) (by kernel_rfl) (fun _ _ _ h => h) (Or.inl ⟨by kernel_rfl, ?y6⟩) (by assumption) ?_
  case y6 => intro wq hSw; (try dsimp only at hSw); go_simp; (try with_reducible rfl)
  (try simp only [Act.put, List.setIfInBounds_toArray, List.set_cons_zero, List.set_cons_succ])
  refine take_named (i := 8) (d := 33) (v := ?v8) rfl (by kernel_rfl) (by kernel_rfl) (by kernel_rfl) (by kernel_rfl) (fun _ _ _ h => h) (Or.inl ⟨by kernel_rfl, ?y8⟩) (by assumption) ?_
  case y8 => intro wq hSw; (try dsimp only at hSw); go_simp; (try with_reducible rfl)
  (try simp only [Act.put, List.setIfInBounds_toArray, List.set_cons_zero, List.set_cons_succ])
  refine take_named (i := 9) (d := 34) (v := ?v9) rfl (by kernel_rfl) (by kernel_rfl) (by kernel_rfl) (by kernel_rfl) (fun _ _ _ h => h) (Or.inl ⟨by kernel_rfl, ?y9⟩) (by assumption) ?_
  case y9 => intro wq hSw; (try dsimp only at hSw); go_simp; (try with_reducible rfl)
  (try simp only [Act.put, List.setIfInBounds_toArray, List.set_cons_zero, List.set_cons_succ])
  refine take_named (i := 10) (d := 35) (v := ?v10) rfl (by kernel_rfl) (by kernel_rfl) (by kernel_rfl) (by kernel_rfl) (fun _ _ _ h => h) (Or.inl ⟨by kernel_rfl, ?y10⟩) (by assumption) ?_
  case y10 => intro wq hSw; (try dsimp only at hSw); go_simp; (try with_reducible rfl)
  (try simp only [Act.put, List.setIfInBounds_toArray, List.set_cons_zero, List.set_cons_succ])
  refine take_named (i := 11) (d := 36) (v := ?v11) rfl (by kernel_rfl) (by kernel_rfl) (by kernel_rfl) (by kernel_rfl) (fun _ _ _ h => h) (Or.inl ⟨by kernel_rfl, ?y11⟩) (by assumption) ?_
  case y11 => intro wq hSw; (try dsimp only at hSw); go_simp; (try with_reducible rfl)
  (try simp only [Act.put, List.setIfInBounds_toArray, List.set_cons_zero, List.set_cons_succ])
  refine take_named (i := 12) (d := 37) (v := ?v12) rfl (by kernel_rfl) (by kernel_rfl) (by kernel_rfl) (by kernel_rfl) (fun _ _ _ h => h) (Or.inl ⟨by kernel_rfl, ?y12⟩) (by assumption) ?_
  case y12 => intro wq hSw; (try dsimp only at hSw); go_simp; (try with_reducible rfl)
  (try simp only [Act.put, List.setIfInBounds_toArray, List.set_cons_zero, List.set_cons_succ])
  refine take_named (i := 13) (d := 38) (v := ?v13) rfl (by kernel_rfl) (by kernel_rfl) (by kernel_rfl) (by kernel_rfl) (fun _ _ _ h => h) (Or.inl ⟨by kernel_rfl, ?y13⟩) (by assumption) ?_
  case y13 => intro wq hSw; (try dsimp only at hSw); go_simp; (try with_reducible rfl)
  (try simp only [Act.put, List.setIfInBounds_toArray, List.set_cons_zero, List.set_cons_succ])
  refine take_named (i := 14) (d := 39) (v := ?v14) rfl (by kernel_rfl) (by kernel_rfl) (by kernel_rfl) (by kernel_rfl) (fun _ _ _ h => h) (Or.inl ⟨by kernel_rfl, ?y14⟩) (by assumption) ?_
  case y14 => intro wq hSw; (try dsimp only at hSw); go_simp; (try with_reducible rfl)
  (try simp only [Act.put, List.setIfInBounds_toArray, List.set_cons_zero, List.set_cons_succ])
  refine wpAnyH_ready (rs := [7]) (by kernel_rfl) (by simp) ?_
  refine AllReadyH.cons rfl (fun K hK => ?_) AllReadyH.nil
  go_simp
  refine (HR0.out _).mono ?_
  rintro ee v1 ⟨rfl, hbv1⟩
  have hx1 := hd.trans (hbv1.mono hd.size)
  refine hK.out _ _ (HSS.out _ hx1) (fun hHv1 => ?_)
  clear hK K hHeld hbv1
  (try simp only [Act.put, List.setIfInBounds_toArray, List.set_cons_zero, List.set_cons_succ])
  refine wpAnyH_ready (rs := [15]) (by kernel_rfl) (by simp) ?_
  refine AllReadyH.cons rfl (fun K hK => ?_) AllReadyH.nil
  go_simp
  refine (HR1.out _).mono ?_
  rintro ee v2 ⟨rfl, hbv2⟩
  have hx2 := hx1.trans (hbv2.mono hx1.size)
  refine hK.out _ _ (HSS.out _ hx2) (fun hHv2 => ?_)
  clear hK K hHv1 hbv2
  (try simp only [Act.put, List.setIfInBounds_toArray, List.set_cons_zero, List.set_cons_succ])
  replace HK := Lib.hid (blk_below HK.out hx2 hlk)
  replace K2 := Lib.hid (blk_below K2.out hx2 (blk_lt K2.out))
  replace K3 := Lib.hid (blk_below K3.out hx2 (blk_lt K3.out))
  replace hB := below_via hB hx2
  clear hx1 hx2 hd hw0 hw1 hw2 hw3 hw4
  refine wpAnyH_ready (rs := [16]) (by kernel_rfl) (by simp) ?_
  refine AllReadyH.cons rfl (fun K hK => ?_) AllReadyH.nil
  rw [if_pos (by kernel_rfl)]
  refine wp_store_row 36 _ _ rfl (g + 1) #[.int .i64 n0, .int .i64 n1] rfl rfl _ _ K2.out (by kernel_rfl) rfl (by simp [Value.oneCell']) ?_
  obtain ⟨v3, ev3⟩ : ∃ V, World.setRow v2 (g + 1) #[.int .i64 n0, .int .i64 n1] = V := ⟨_, rfl⟩
  have HK := Lib.hid (show v3.heap[g]? = some (.cells C 51 (0, 0)) by rw [← ev3]; exact (setRow_other _ _ _ _ (by omega)).trans HK.out)
  have K2 := Lib.hid (show v3.heap[g + 1]? = some (.cells #[.int .i64 n0, .int .i64 n1] 36 (0, 0)) by rw [← ev3]; exact setRow_heap _ _ _ _ _ _ K2.out)
  have K3 := Lib.hid (show v3.heap[g + 1 + 1]? = some (.cells #[.int .i64 0, .int .i64 0] 36 (0, 0)) by rw [← ev3]; exact (setRow_other _ _ _ _ (by omega)).trans K3.out)
  have hB : Below w.heap.size w v3 := by rw [← ev3]; exact below_setRow hB hg1 _
  rw [ev3]
  have q31 := (blk_cell HK.out 31).trans C31.out
  have q32 := (blk_cell HK.out 32).trans C32.out
  refine hK.out _ _ ⟨q31, q32⟩ (fun hHv3 => ?_)
  clear hK K hHv2 ev3
  simp only [Act.put, List.setIfInBounds_toArray]
  refine wpAnyH_ready (rs := [17]) (by kernel_rfl) (by simp) ?_
  refine AllReadyH.cons rfl (fun K hK => ?_) AllReadyH.nil
  rw [if_pos (by kernel_rfl)]
  refine wp_store_row 36 _ _ rfl (g + 1 + 1) #[.int .i64 n2, .int .i64 n3] rfl rfl _ _ K3.out (by kernel_rfl) rfl (by simp [Value.oneCell']) ?_
  obtain ⟨v4, ev4⟩ : ∃ V, World.setRow v3 (g + 1 + 1) #[.int .i64 n2, .int .i64 n3] = V := ⟨_, rfl⟩
  have HK := Lib.hid (show v4.heap[g]? = some (.cells C 51 (0, 0)) by rw [← ev4]; exact (setRow_other _ _ _ _ (by omega)).trans HK.out)
  have K3 := Lib.hid (show v4.heap[g + 1 + 1]? = some (.cells #[.int .i64 n2, .int .i64 n3] 36 (0, 0)) by rw [← ev4]; exact setRow_heap _ _ _ _ _ _ K3.out)
  have K2 := Lib.hid (show v4.heap[g + 1]? = some (.cells #[.int .i64 n0, .int .i64 n1] 36 (0, 0)) by rw [← ev4]; exact (setRow_other _ _ _ _ (by omega)).trans K2.out)
  have hB : Below w.heap.size w v4 := by rw [← ev4]; exact below_setRow hB hg2 _
  rw [ev4]
  have q31 := (blk_cell HK.out 31).trans C31.out
  have q32 := (blk_cell HK.out 32).trans C32.out
  refine hK.out _ _ ⟨q31, q32⟩ (fun hHv4 => ?_)
  clear hK K hHv3 ev4
  simp only [Act.put]
  refine take_named (i := 18) (d := 6) (v := ?vz18) rfl (by kernel_rfl) (by kernel_rfl) (by kernel_rfl) (by kernel_rfl) (fun _ _ _ h => h) (Or.inl ⟨by kernel_rfl, ?yz18⟩) (by assumption) ?_
  case yz18 => intro wq hSw; (try dsimp only at hSw); go_simp; (try with_reducible rfl)
  simp only [Act.put]
  refine wpAnyH_done (by kernel_rfl) ?_ _
  have c0 := blk_cell K2.out 0
  have c1 := blk_cell K2.out 1
  have c2 := blk_cell K3.out 0
  have c3 := blk_cell K3.out 1
  go_wp2
  refine bodyPost_ret (v := .tuple #[.agg #[.int .i64 n0, .int .i64 n1], .agg #[.int .i64 n2, .int .i64 n3], .int .i64 0]) ?_ rfl ⟨rfl, hB⟩
  simp [results, Tryz.results20, go_sem, c0, c1, c2, c3]

/-! ### The program's and the reference's functions of layer 22 return the same. -/
theorem right_k {k f : Int} {o : Nat → Oc} {a0 a1 : Int} (hk : 0 ≤ k) (h : rightE k f o a0 a1 = true) : k = 0 ∨ k = 4 ∨ (k = 1 ∨ k = 2 ∨ k = 3) := by
  unfold rightE at h
  have h2 := (Bool.and_eq_true_iff.1 h).2
  by_cases h5 : k ≤ 4
  · omega
  · rw [if_neg (by omega), if_neg (by omega), if_neg (by omega), if_neg (by omega), if_neg (by omega)] at h2
    cases h2
/-- Two rows of results, and an error, returned by the program and by the reference. -/
def SidesP (C : Array Value) (vul : Int) : Prop := ∃ (l1 l2 : List Pt) (E : Int), l1.length ≤ 4 ∧ l2.length ≤ 4 ∧ (∀ p ∈ l1, -100000 ≤ p.1 ∧ p.1 ≤ 100000) ∧
    (∀ W, LaidS W → Calls Tryz.prog 30 #[.agg C, .int .u8 vul] W fun e w' => ∃ v1 v2, e = .returned (.tuple #[v1, v2, .int .i64 E]) ∧ w'.ownsRow W.heap.size 114 2 v1 l1.length (pC l1) ∧ w'.ownsRow W.heap.size 114 2 v2 l2.length (pC l2) ∧ apart2 v1 v2 ∧ Below W.heap.size W w') ∧
    (∀ W, Calls Tryz.prog 33 #[.agg C, .int .u8 vul] W fun e w' => ∃ v1 v2, e = .returned (.tuple #[v1, v2, .int .i64 E]) ∧ w'.ownsRow W.heap.size 106 2 v1 l1.length (pC l1) ∧ w'.ownsRow W.heap.size 106 2 v2 l2.length (pC l2) ∧ apart2 v1 v2 ∧ Below W.heap.size W w')
theorem sides_pair (C : Array Value) (k f a0 a1 vul : Int) (o : Nat → Oc) (hC : EnC C k f o a0 a1) (ho : ∀ i, i < 4 → OcOk (o i)) (hf : 0 ≤ f ∧ f ≤ 255) (hk : 0 ≤ k ∧ k ≤ 255) (hv : 0 ≤ vul ∧ vul ≤ 255) : SidesP C vul := by
  have nil : ∀ E : Int, (∀ W, LaidS W → Calls Tryz.prog 30 #[.agg C, .int .u8 vul] W fun e w' => e = .returned (.tuple #[.slice none 0 0, .slice none 0 0, .int .i64 E]) ∧ Below W.heap.size W w') → (∀ W, Calls Tryz.prog 33 #[.agg C, .int .u8 vul] W fun e w' => e = .returned (.tuple #[.slice none 0 0, .slice none 0 0, .int .i64 E]) ∧ Below W.heap.size W w') → SidesP C vul := fun E h1 h2 =>
    ⟨[], [], E, by simp, by simp, by simp, fun W hL => (h1 W hL).mono fun e w' h => ⟨_, _, h.1, own_nil, own_nil, apart2.nil_, h.2⟩, fun W => (h2 W).mono fun e w' h => ⟨_, _, h.1, own_nil, own_nil, apart2.nil_, h.2⟩⟩
  by_cases hbad : rightE k f o a0 a1 = false ∨ 3 < vul
  · exact nil 2 (fun W hL => sides_wrong C k f a0 a1 vul o hC ho hf hk hbad W hL) (fun W => r22sides_wrong C k f a0 a1 vul o hC ho hf hk hbad W)
  · have hr : rightE k f o a0 a1 = true := by
      cases h : rightE k f o a0 a1 with
      | false => exact absurd (.inl h) hbad
      | true => rfl
    have hv3 : 0 ≤ vul ∧ vul ≤ 3 := by omega
    have hk5 := right_k hk.1 hr
    by_cases h04 : k = 0 ∨ k = 4
    · exact nil 6 (fun W hL => sides_none C k f a0 a1 vul o hC ho hf hk hv3 hr h04 W hL) (fun W => r22sides_none C k f a0 a1 vul o hC ho hf hk hv3 hr h04 W)
    · have hkk : k = 1 ∨ k = 2 ∨ k = 3 := by omega
      have hok := sides_okB k f o a0 a1 hr ho hkk vul hv3.2
      have r1 := ((wOk_iff _ _).1 hok.1).2.2.2
      have r2 := negP_right _ ((wOk_iff _ _).1 hok.2).2.2.2
      have q1 := (rightM_iff _).1 r1
      have q2 := (rightM_iff _).1 r2
      have l1 := wPts_len (sideA k o) vul
      have l2 : (negP (wPts (sideB k o) vul)).length = (sideB k o).length := by unfold negP; rw [List.length_map, wPts_len]
      refine ⟨wPts (sideA k o) vul, negP (wPts (sideB k o) vul), 0, q1.2.1, q2.2.1, fun p hp => by have := (okPt_iff p).1 (q1.2.2.1 p hp); omega, fun W hL => ?_, fun W => ?_⟩
      · have := sides_some C k f a0 a1 vul o hC ho hf hk hv3 hr hkk W hL
        unfold SRes at this
        rw [← l1, ← l2] at this
        exact this
      · have := r22sides_some C k f a0 a1 vul o hC ho hf hv3 hr hkk W
        unfold SResR at this
        rw [← l1, ← l2] at this
        exact this
theorem award_pair (C : Array Value) (k f a0 a1 all : Int) (o : Nat → Oc) (hC : EnC C k f o a0 a1) (ho : ∀ i, i < 4 → OcOk (o i)) (hf : 0 ≤ f ∧ f ≤ 255) (hk : 0 ≤ k ∧ k ≤ 255) : ∃ (m1 m2 m3 m4 E : Int),
    (∀ W, LaidS W → Calls Tryz.prog 16 #[.agg C, .int .i64 all] W fun e w' => e = .returned (.tuple #[.agg #[.int .i64 m1, .int .i64 m2], .agg #[.int .i64 m3, .int .i64 m4], .int .i64 E]) ∧ Below W.heap.size W w') ∧
    (∀ W, Calls Tryz.prog 20 #[.agg C, .int .i64 all] W fun e w' => e = .returned (.tuple #[.agg #[.int .i64 m1, .int .i64 m2], .agg #[.int .i64 m3, .int .i64 m4], .int .i64 E]) ∧ Below W.heap.size W w') := by
  by_cases hbad : rightE k f o a0 a1 = false ∨ all < 1 ∨ 24 < all
  · exact ⟨0, 0, 0, 0, 2, fun W hL => award_err C k f a0 a1 all 2 o hC ho hf hk (.inl ⟨rfl, hbad⟩) W hL, fun W => r22award_err C k f a0 a1 all 2 o hC ho hf hk (.inl ⟨rfl, hbad⟩) W⟩
  · have hr : rightE k f o a0 a1 = true := by
      cases h : rightE k f o a0 a1 with
      | false => exact absurd (.inl h) hbad
      | true => rfl
    by_cases h4 : k = 4
    · subst h4
      have hs : shareB a0 = true ∧ shareB a1 = true := by
        have h2 := (Bool.and_eq_true_iff.1 hr).2
        have h3 : awardB o a0 a1 = true := h2
        exact Bool.and_eq_true_iff.1 (Bool.and_eq_true_iff.1 h3).1
      exact ⟨_, _, _, _, 0, fun W hL => award_some C f a0 a1 all o hC ho hf (by omega) hr W hL, fun W => r22award_some C f a0 a1 all o hC ho hf (by omega) hr hs.1 hs.2 W⟩
    · exact ⟨0, 0, 0, 0, 6, fun W hL => award_err C k f a0 a1 all 6 o hC ho hf hk (.inr ⟨rfl, hr, by omega, by omega, h4⟩) W hL, fun W => r22award_err C k f a0 a1 all 6 o hC ho hf hk (.inr ⟨rfl, hr, by omega, by omega, h4⟩) W⟩

end Go.Proofs.YtchklobblkddhaaGreatDoor
