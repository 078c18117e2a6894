/- The walks of the package adjust: awarded, Right. -/
import Derived.Test.YtchklobblkddhaaGreatDoorAdjRightW
import Derived.Laws.EntriesVeiled
namespace Go.Proofs.YtchklobblkddhaaGreatDoor
open Go.RowKit

/-- Take operation i first, its temporary named. -/
theorem take_named {P : Program} {ops : Array Oper} {Q : Exit → Act → World → Prop} {md : Region.Mode} {S : World → Prop} {i d : Nat} {oi : Oper} {v : Value} {fuel : Nat} {listed : Array Bool} {a : Act} {w : World} (hi : ops[i]? = some oi) (hd : oi.dst = some d)
    (hs : Region.noSelect ops = true) (hf : Region.free md ops listed i = true) (hr : (Region.ready md ops listed).contains i = true)
    (hQ : ∀ c a w, Q (.panic c) (a.put (some d) v) w → Q (.panic c) a w) (hy : YieldsIf P ops S oi v a) (hS : S w)
    (h : wpAnyH P md ops Q S fuel (listed.setIfInBounds i true) (a.put (some d) v) w) : wpAnyH P md ops Q S (fuel + 1) listed a w := by
  rw [← hd] at h hQ
  exact wpAnyH_take hi hs hf hr hQ hy hS h

def awI (a0 a1 : Int) (j : Nat) : Int := if j = 0 then a0 else a1
def share7 (x : Int) (N : Bool) : Prop := shareB x = N

set_option maxRecDepth 100000 in
set_option maxHeartbeats 4000000 in
theorem awarded_any (C : Array Value) (k f a0 a1 : Int) (o : Nat → Oc) (hC : EnC C k f o a0 a1) (w : World) :
    Calls Tryz.prog 42 #[.agg C] w fun e w' => e = .returned (.bool (awardB o a0 a1)) ∧ Below w.heap.size w w' := by
  have HR := Lib.hid (fun W => rest_any C k f a0 a1 o 0 hC (by decide) W)
  have HI := Lib.hid hC.size
  obtain ⟨N, hN⟩ : ∃ N, awardB o a0 a1 = N := ⟨_, rfl⟩
  rw [hN]
  have HN := Lib.hid (show (shareB a0 && shareB a1 && restB o 0) = N from hN)
  have d0 := hC.2.2.2.1
  have d1 := hC.2.2.2.2.1
  have hidx : ∀ j : Nat, j < 2 → ∀ W : World, (Instr.index 49 (.agg #[.int .i64 a0, .int .i64 a1]) (.int .i64 (j : Int))).run Tryz.prog W = .ok (.int .i64 (awI a0 a1 j)) W := by
    intro j hj W
    obtain rfl | rfl : j = 0 ∨ j = 1 := by omega
    · exact idx2_0 W a0 a1
    · exact idx2_1 W a0 a1
  have HX := Lib.hid hidx
  clear hC hN hidx
  go_enter Tryz.func42, Tryz.ntmps42
  go_upto_region 1 with fail
  obtain ⟨W1, hW1⟩ : ∃ W1, w.alloc (.cells C 51) = W1 := ⟨_, rfl⟩
  have k1 : W1.heap[w.heap.size]? = some (.cells C 51) := by rw [← hW1]; exact blk_new _ rfl
  have hB1 : Below w.heap.size w W1 := by rw [← hW1]; exact (by repeat (first | exact Below.refl _ _ | assumption | refine Below.drew ?_ | refine below_drewN ?_ _ | refine Below.alloc ?_ (by first | omega | (simp; done) | (simp; omega)) _ | refine Below.setCell ?_ (by first | omega | (simp; done) | (simp; omega)) _))
  rw [hW1]
  have HK := Lib.hid k1
  have e0 := (blk_cell k1 31).trans d0
  have e1 := (blk_cell k1 32).trans d1
  clear hW1 k1 d0 d1
  go_wp2
  go_loop [7] (fun i => ∃ j : Nat, j ≤ 2 ∧ i = .int .i64 (j : Int) ∧ Hid (∀ i, i < j → shareB (awI a0 a1 i) = true)) (fun i => 2 - (intOf i).toNat)
  case atStart => exact ⟨0, by omega, rfl, (fun i hi => absurd hi (Nat.not_lt_zero i) : ∀ i, i < 0 → shareB (awI a0 a1 i) = true)⟩
  case round =>
    obtain ⟨j, hj, rfl, hz⟩ := hrel
    by_cases hlt : j < 2
    · have hix := HX.out j hlt W1
      have c1 : (0 : Int) ≤ (j : Int) := by omega
      have c2 : (j : Int) < 2 := by omega
      have HF := Lib.hid (show shareB (awI a0 a1 j) = false → false = N from fun h => by
        rw [← HN.out]
        obtain rfl | rfl : j = 0 ∨ j = 1 := by omega
        · rw [show shareB a0 = false from h]; rfl
        · rw [show shareB a1 = false from h, Bool.and_false]; rfl)
      have HT := Lib.hid (show shareB (awI a0 a1 j) = true → ∀ i, i < j + 1 → shareB (awI a0 a1 i) = true from fun h i hi => by
        by_cases h1 : i < j
        · exact hz.out i h1
        · obtain rfl : i = j := by omega
          exact h)
      obtain ⟨x, hx⟩ : ∃ x, awI a0 a1 j = x := ⟨_, rfl⟩
      rw [hx] at hix HF HT
      clear hx
      by_cases hs : x = 0 ∨ x = 30 ∨ x = 40 ∨ x = 50 ∨ x = 60 ∨ x = 70 ∨ x = 100
      · have Hn := Lib.hid (HT.out (decide_eq_true hs))
        rcases hs with rfl | rfl | rfl | rfl | rfl | rfl | rfl
        all_goals
          go_wp2
          go_round
          case rel => exact ⟨j + 1, by omega, by go_num, Hn.out⟩
          case measure => simp [intOf]; omega
      · obtain rfl := HF.out (decide_eq_false hs)
        have s0 : (x == 0) = false := beq_eq_false_iff_ne.2 (by omega)
        have s1 : (x == 30) = false := beq_eq_false_iff_ne.2 (by omega)
        have s2 : (x == 40) = false := beq_eq_false_iff_ne.2 (by omega)
        have s3 : (x == 50) = false := beq_eq_false_iff_ne.2 (by omega)
        have s4 : (x == 60) = false := beq_eq_false_iff_ne.2 (by omega)
        have s5 : (x == 70) = false := beq_eq_false_iff_ne.2 (by omega)
        have s6 : (x == 100) = false := beq_eq_false_iff_ne.2 (by omega)
        clear hs
        go_wp2
        go_ret
        exact ⟨rfl, hB1⟩
    · obtain rfl : j = 2 := by omega
      have hz0 := hz.out 0 (by decide)
      have hz1 := hz.out 1 (by decide)
      have HN2 := Lib.hid (show restB o 0 = N by rw [← HN.out, show shareB a0 = true from hz0, show shareB a1 = true from hz1]; rfl)
      have t0 : decide (((2 : Nat) : Int) < 2) = false := rfl
      have t2 : ¬ (((2 : Nat) : Int) < 2) := by omega
      clear hz0 hz1
      go_wp2_with (refine wpList_load_row_w (by rfl) 51 (.tmp 1) rfl w.heap.size rfl 51 C _ _ HK.out Tryz.underlying51 rfl HI.out ?_)
      refine (HR.out _).mono ?_
      rintro ee w4 ⟨rfl, hb4⟩
      go_wp2
      go_ret
      exact ⟨ret_bool HN2.out, below_via hB1 hb4⟩

set_option maxRecDepth 100000 in
set_option maxHeartbeats 4000000 in
theorem eright_bad (C : Array Value) (k f a0 a1 : Int) (o : Nat → Oc) (hC : EnC C k f o a0 a1) (hf : 0 ≤ f ∧ f ≤ 255) (hk : 0 ≤ k ∧ k ≤ 255) (h : 3 < f ∨ 4 < k) (w : World) :
    Calls Tryz.prog 28 #[.agg C] w fun e w' => e = .returned (.bool false) ∧ Below w.heap.size w w' := by
  have d0 := hC.2.1
  have d1 := hC.2.2.1
  clear hC
  go_enter Tryz.func28, Tryz.ntmps28
  go_upto_region 2 with fail
  obtain ⟨W1, hW1⟩ : ∃ W1, (w.alloc (.cells C 51)).alloc (.cells #[.func (.func 38) #[] #[], .func (.func 39) #[] #[], .func (.func 40) #[] #[], .func (.func 41) #[] #[], .func (.func 42) #[] #[]] 87) = W1 := ⟨_, rfl⟩
  obtain ⟨g, hg⟩ : ∃ g, w.heap.size = g := ⟨_, rfl⟩
  have k1 : W1.heap[g]? = some (.cells C 51) := by rw [← hW1]; exact blk_alloc (blk_new _ hg.symm) _
  have k2 : W1.heap[g + 1]? = some (.cells #[.func (.func 38) #[] #[], .func (.func 39) #[] #[], .func (.func 40) #[] #[], .func (.func 41) #[] #[], .func (.func 42) #[] #[]] 87) := by rw [← hW1]; exact blk_new _ (by simp; omega)
  have hB1 : Below g w W1 := by rw [← hW1, ← hg]; exact (by repeat (first | exact Below.refl _ _ | assumption | refine Below.drew ?_ | refine below_drewN ?_ _ | refine Below.alloc ?_ (by first | omega | (simp; done) | (simp; omega)) _ | refine Below.setCell ?_ (by first | omega | (simp; done) | (simp; omega)) _))
  rw [hW1, hg]
  have HG := Lib.hid hg
  have g1 := blk_lt k1
  have g2 := blk_lt k2
  have e4 := (blk_cell k1 4).trans d0
  have e5 := (blk_cell k1 5).trans d1
  clear hW1 k1 k2 hg d0 d1
  by_cases h3 : 3 < f
  · have t0 : decide (f ≤ 3) = false := decide_eq_false (by omega)
    clear h
    go_quiet (fail)
    go_wp2
    go_ret
    exact ⟨rfl, by rw [HG.out]; exact below_drewN hB1 _⟩
  · have h3' : f ≤ 3 := by omega
    have t0 : decide (f ≤ 3) = true := decide_eq_true h3'
    have h4 : 5 ≤ k := by omega
    have t1 : decide (k < 5) = false := decide_eq_false (by omega)
    clear h
    go_quiet (fail)
    go_wp2
    go_ret
    exact ⟨rfl, by rw [HG.out]; exact below_drewN hB1 _⟩

/-- The contract of the check of one kind, as Right calls it. -/
def KindC (F : FuncId) (C : Array Value) (N : Bool) : Prop := ∀ W : World, LaidS W → Calls Tryz.prog F #[.agg C] W fun e w' => e = .returned (.bool N) ∧ Below W.heap.size W w'

set_option maxRecDepth 100000 in
set_option maxHeartbeats 4000000 in
theorem eright_any (C : Array Value) (k f a0 a1 : Int) (o : Nat → Oc) (hC : EnC C k f o a0 a1) (ho : ∀ i, i < 4 → OcOk (o i)) (hf : 0 ≤ f ∧ f ≤ 255) (hk : 0 ≤ k ∧ k ≤ 255) (w : World) (hL : LaidS w) :
    Calls Tryz.prog 28 #[.agg C] w fun e w' => e = .returned (.bool (rightE k f o a0 a1)) ∧ Below w.heap.size w w' := by
  by_cases hbad : 3 < f ∨ 4 < k
  · have : rightE k f o a0 a1 = false := by
      unfold rightE
      rcases hbad with h | h
      · rw [decide_eq_false (by omega)]; rfl
      · rw [if_neg (by omega), if_neg (by omega), if_neg (by omega), if_neg (by omega), if_neg (by omega), Bool.and_false]
    rw [this]
    exact eright_bad C k f a0 a1 o hC hf hk hbad w
  have hkk : k = 0 ∨ k = 1 ∨ k = 2 ∨ k = 3 ∨ k = 4 := by omega
  have h3 : f ≤ 3 := by omega
  obtain ⟨N, hN⟩ : ∃ N, rightE k f o a0 a1 = N := ⟨_, rfl⟩
  rw [hN]
  unfold rightE at hN
  rw [decide_eq_true h3, Bool.true_and] at hN
  have hi : (Tryz.prog.info? 51).map (·.size) = some C.toList.length := by rw [info_entry, Array.length_toList, hC.1]
  have HVO := Lib.hid (fun W => void_any C k f a0 a1 o hC W)
  have HPL := Lib.hid (fun W hW => played_any C k f a0 a1 o hC ho W hW)
  have HWE := Lib.hid (fun W hW => weighted_any C k f a0 a1 o hC ho W hW)
  have HSP := Lib.hid (fun W hW => split_any C k f a0 a1 o hC ho W hW)
  have HAW := Lib.hid (fun W => awarded_any C k f a0 a1 o hC W)
  have d0 := hC.2.1
  have d1 := hC.2.2.1
  have hu := Tryz.underlying51
  have HL := Lib.hid hL
  have hL4 := hL.lt
  clear hbad hC ho hL hk
  rcases hkk with rfl | rfl | rfl | rfl | rfl
  · have HQ := Lib.hid (fun (W : World) (_ : LaidS W) => HVO.out W)
    rw [show voidB o a0 a1 = N from hN] at HQ
    clear HVO HPL HWE HSP HAW hN
    go_enter Tryz.func28, Tryz.ntmps28
    go_upto_region 2 with fail
    obtain ⟨W1, hW1⟩ : ∃ W1, (w.alloc (.cells C 51)).alloc (.cells #[.func (.func 38) #[] #[], .func (.func 39) #[] #[], .func (.func 40) #[] #[], .func (.func 41) #[] #[], .func (.func 42) #[] #[]] 87) = W1 := ⟨_, rfl⟩
    obtain ⟨g, hg⟩ : ∃ g, w.heap.size = g := ⟨_, rfl⟩
    have k1 : W1.heap[g]? = some (.cells C 51) := by rw [← hW1]; exact blk_alloc (blk_new _ hg.symm) _
    have k2 : W1.heap[g + 1]? = some (.cells #[.func (.func 38) #[] #[], .func (.func 39) #[] #[], .func (.func 40) #[] #[], .func (.func 41) #[] #[], .func (.func 42) #[] #[]] 87) := by rw [← hW1]; exact blk_new _ (by simp; omega)
    have hB1 : Below g w W1 := by rw [← hW1, ← hg]; exact (by repeat (first | exact Below.refl _ _ | assumption | refine Below.drew ?_ | refine below_drewN ?_ _ | refine Below.alloc ?_ (by first | omega | (simp; done) | (simp; omega)) _ | refine Below.setCell ?_ (by first | omega | (simp; done) | (simp; omega)) _))
    rw [hW1, hg]
    have HG := Lib.hid hg
    have g1 := blk_lt k1
    have g2 := blk_lt k2
    have e4 := (blk_cell k1 4).trans d0
    have e5 := (blk_cell k1 5).trans d1
    have ef : W1.cell? ⟨g + 1, 0, none⟩ = some (.func (.func 38) #[] #[]) := blk_cell k2 0
    have rg : W1.rangeAt g 0 C.toList := fun j v hv => by rw [Nat.zero_add, blk_cell k1]; simpa using hv
    have t0 : decide (f ≤ 3) = true := decide_eq_true h3
    have hd2 : Below W1.heap.size W1 W1.drew := (Below.refl _ _).drew
    have HLd := Lib.hid (show LaidS W1.drew from (HL.out.below hB1 (by omega)).go hd2)
    have HQ1 := Lib.hid (HQ.out _ HLd.out)
    clear k1 k2 hW1 hg d0 d1 HQ
    refine wp_region_held_drew (S := (fun w' => w'.cell? ⟨g, 4, none⟩ = some (.int .u8 0) ∧ w'.cell? ⟨g, 5, none⟩ = some (.int .u8 f) ∧ w'.cell? ⟨g + 1, 0, none⟩ = some (.func (.func 38) #[] #[]) ∧ w'.rangeAt g 0 C.toList)) (by kernel_rfl) ⟨e4, e5, ef, rg⟩ (fun hHeld => ?_)
    refine take_named (i := 0) (d := 5) (v := ?va0) rfl (by kernel_rfl) (by kernel_rfl) (by kernel_rfl) (by kernel_rfl) (fun _ _ _ h => h) (Or.inl ⟨by kernel_rfl, ?ya0⟩) (by assumption) ?_
    case ya0 => intro wq hSw; (try dsimp only at hSw); go_simp; (try with_reducible rfl)
    (try simp only [Act.put, List.setIfInBounds_toArray, List.set_cons_zero, List.set_cons_succ])
    refine take_named (i := 1) (d := 6) (v := ?va1) rfl (by kernel_rfl) (by kernel_rfl) (by kernel_rfl) (by kernel_rfl) (fun _ _ _ h => h) (Or.inl ⟨by kernel_rfl, ?ya1⟩) (by assumption) ?_
    case ya1 => intro wq hSw; (try dsimp only at hSw); go_simp; (try with_reducible rfl)
    (try simp only [Act.put, List.setIfInBounds_toArray, List.set_cons_zero, List.set_cons_succ])
    refine take_named (i := 2) (d := 7) (v := ?va2) rfl (by kernel_rfl) (by kernel_rfl) (by kernel_rfl) (by kernel_rfl) (fun _ _ _ h => h) (Or.inl ⟨by kernel_rfl, ?ya2⟩) (by assumption) ?_
    case ya2 => intro wq hSw; (try dsimp only at hSw); go_simp; (try with_reducible rfl)
    (try simp only [Act.put, List.setIfInBounds_toArray, List.set_cons_zero, List.set_cons_succ])
    refine take_named (i := 3) (d := 8) (v := ?va3) rfl (by kernel_rfl) (by kernel_rfl) (by kernel_rfl) (by kernel_rfl) (fun _ _ _ h => h) (Or.inl ⟨by kernel_rfl, ?ya3⟩) (by assumption) ?_
    case ya3 => intro wq hSw; (try dsimp only at hSw); go_simp; (try with_reducible rfl)
    (try simp only [Act.put, List.setIfInBounds_toArray, List.set_cons_zero, List.set_cons_succ])
    refine take_named (i := 4) (d := 9) (v := ?va4) rfl (by kernel_rfl) (by kernel_rfl) (by kernel_rfl) (by kernel_rfl) (fun _ _ _ h => h) (Or.inl ⟨by kernel_rfl, ?ya4⟩) (by assumption) ?_
    case ya4 => intro wq hSw; (try dsimp only at hSw); go_simp; (try with_reducible rfl)
    (try simp only [Act.put, List.setIfInBounds_toArray, List.set_cons_zero, List.set_cons_succ])
    refine take_named (i := 5) (d := 10) (v := ?va5) rfl (by kernel_rfl) (by kernel_rfl) (by kernel_rfl) (by kernel_rfl) (fun _ _ _ h => h) (Or.inl ⟨by kernel_rfl, ?ya5⟩) (by assumption) ?_
    case ya5 => intro wq hSw; (try dsimp only at hSw); go_simp; (try with_reducible rfl)
    (try simp only [Act.put, List.setIfInBounds_toArray, List.set_cons_zero, List.set_cons_succ])
    refine take_named (i := 6) (d := 11) (v := ?va6) rfl (by kernel_rfl) (by kernel_rfl) (by kernel_rfl) (by kernel_rfl) (fun _ _ _ h => h) (Or.inl ⟨by kernel_rfl, ?ya6⟩) (by assumption) ?_
    case ya6 => intro wq hSw; (try dsimp only at hSw); go_simp; (try with_reducible rfl)
    (try simp only [Act.put, List.setIfInBounds_toArray, List.set_cons_zero, List.set_cons_succ])
    refine take_named (i := 7) (d := 12) (v := ?va7) rfl (by kernel_rfl) (by kernel_rfl) (by kernel_rfl) (by kernel_rfl) (fun _ _ _ h => h) (Or.inl ⟨by kernel_rfl, ?ya7⟩) (by assumption) ?_
    case ya7 => intro wq hSw; (try dsimp only at hSw); go_simp; (try with_reducible rfl)
    (try simp only [Act.put, List.setIfInBounds_toArray, List.set_cons_zero, List.set_cons_succ])
    refine take_named (i := 8) (d := 13) (v := ?va8) rfl (by kernel_rfl) (by kernel_rfl) (by kernel_rfl) (by kernel_rfl) (fun _ _ _ h => h) (Or.inl ⟨by kernel_rfl, ?ya8⟩) (by assumption) ?_
    case ya8 => intro wq hSw; (try dsimp only at hSw); go_simp; (try with_reducible rfl)
    (try simp only [Act.put, List.setIfInBounds_toArray, List.set_cons_zero, List.set_cons_succ])
    refine take_named (i := 9) (d := 14) (v := ?va9) rfl (by kernel_rfl) (by kernel_rfl) (by kernel_rfl) (by kernel_rfl) (fun _ _ _ h => h) (Or.inl ⟨by kernel_rfl, ?ya9⟩) (by assumption) ?_
    case ya9 => intro wq hSw; (try dsimp only at hSw); go_simp; (try with_reducible rfl)
    (try simp only [Act.put, List.setIfInBounds_toArray, List.set_cons_zero, List.set_cons_succ])
    refine take_named (i := 10) (d := 15) (v := ?va10) rfl (by kernel_rfl) (by kernel_rfl) (by kernel_rfl) (by kernel_rfl) (fun _ _ _ h => h) (Or.inl ⟨by kernel_rfl, ?ya10⟩) (by assumption) ?_
    case ya10 => intro wq hSw; (try dsimp only at hSw); go_simp; (try with_reducible rfl)
    (try simp only [Act.put, List.setIfInBounds_toArray, List.set_cons_zero, List.set_cons_succ])
    refine take_named (i := 11) (d := 16) (v := ?va11) rfl (by kernel_rfl) (by kernel_rfl) (by kernel_rfl) (by kernel_rfl) (fun _ _ _ h => h) (Or.inl ⟨by kernel_rfl, ?ya11⟩) (by assumption) ?_
    case ya11 => intro wq hSw; (try dsimp only at hSw); go_simp; (try with_reducible rfl)
    (try simp only [Act.put, List.setIfInBounds_toArray, List.set_cons_zero, List.set_cons_succ])
    refine take_named (i := 12) (d := 17) (v := ?va12) rfl (by kernel_rfl) (by kernel_rfl) (by kernel_rfl) (by kernel_rfl) (fun _ _ _ h => h) (Or.inl ⟨by kernel_rfl, ?ya12⟩) (by assumption) ?_
    case ya12 => intro wq hSw; (try dsimp only at hSw); go_simp; (try with_reducible rfl)
    (try simp only [Act.put, List.setIfInBounds_toArray, List.set_cons_zero, List.set_cons_succ])
    refine take_named (i := 13) (d := 18) (v := ?va13) rfl (by kernel_rfl) (by kernel_rfl) (by kernel_rfl) (by kernel_rfl) (fun _ _ _ h => h) (Or.inl ⟨by kernel_rfl, ?ya13⟩) (by assumption) ?_
    case ya13 => intro wq hSw; (try dsimp only at hSw); go_simp; (try with_reducible rfl)
    (try simp only [Act.put, List.setIfInBounds_toArray, List.set_cons_zero, List.set_cons_succ])
    refine take_named (i := 14) (d := 19) (v := .agg (C.toList).toArray) rfl (by kernel_rfl) (by kernel_rfl) (by kernel_rfl) (by kernel_rfl) (fun _ _ _ h => h) (yieldsIf_load_mid (by kernel_rfl) 51 (.tmp 1) rfl g 0 rfl (C.toList) _ (fun w h => h.2.2.2) hu rfl hi) (by assumption) ?_
    (try simp only [Act.put, List.setIfInBounds_toArray, List.set_cons_zero, List.set_cons_succ])
    (try simp only [Array.toArray_toList])
    refine wpAnyH_ready (rs := [15]) (by kernel_rfl) (by simp) ?_
    refine AllReadyH.cons rfl (fun K hK => ?_) AllReadyH.nil
    go_simp
    refine HQ1.out.mono ?_
    rintro ee wm ⟨rfl, hbm0⟩
    have hbm := hd2.trans (hbm0.mono hd2.size)
    refine hK.out _ _ ⟨keepB0 hbm g1 e4, keepB0 hbm g1 e5, keepB0 hbm g2 ef, fun j v hv => keepB0 hbm g1 (rg j v hv)⟩ (fun hHeld1 => ?_)
    clear hK K hHeld
    (try simp only [Act.put, List.setIfInBounds_toArray, List.set_cons_zero, List.set_cons_succ])
    refine take_named (i := 16) (d := 21) (v := ?va16) rfl (by kernel_rfl) (by kernel_rfl) (by kernel_rfl) (by kernel_rfl) (fun _ _ _ h => h) (Or.inl ⟨by kernel_rfl, ?ya16⟩) (by assumption) ?_
    case ya16 => intro wq hSw; (try dsimp only at hSw); go_simp; (try with_reducible rfl)
    (try simp only [Act.put, List.setIfInBounds_toArray, List.set_cons_zero, List.set_cons_succ])
    refine take_named (i := 17) (d := 2) (v := ?va17) rfl (by kernel_rfl) (by kernel_rfl) (by kernel_rfl) (by kernel_rfl) (fun _ _ _ h => h) (Or.inl ⟨by kernel_rfl, ?ya17⟩) (by assumption) ?_
    case ya17 => intro wq hSw; (try dsimp only at hSw); go_simp; (try with_reducible rfl)
    (try simp only [Act.put, List.setIfInBounds_toArray, List.set_cons_zero, List.set_cons_succ])
    refine wpAnyH_done (by kernel_rfl) ?_ _
    go_wp2
    go_ret
    exact ⟨rfl, by rw [HG.out]; exact hB1.trans (hbm.mono (by omega))⟩
  · have HQ := Lib.hid (fun (W : World) (hW : LaidS W) => HPL.out W hW)
    rw [show playedB o a0 a1 = N from hN] at HQ
    clear HVO HPL HWE HSP HAW hN
    go_enter Tryz.func28, Tryz.ntmps28
    go_upto_region 2 with fail
    obtain ⟨W1, hW1⟩ : ∃ W1, (w.alloc (.cells C 51)).alloc (.cells #[.func (.func 38) #[] #[], .func (.func 39) #[] #[], .func (.func 40) #[] #[], .func (.func 41) #[] #[], .func (.func 42) #[] #[]] 87) = W1 := ⟨_, rfl⟩
    obtain ⟨g, hg⟩ : ∃ g, w.heap.size = g := ⟨_, rfl⟩
    have k1 : W1.heap[g]? = some (.cells C 51) := by rw [← hW1]; exact blk_alloc (blk_new _ hg.symm) _
    have k2 : W1.heap[g + 1]? = some (.cells #[.func (.func 38) #[] #[], .func (.func 39) #[] #[], .func (.func 40) #[] #[], .func (.func 41) #[] #[], .func (.func 42) #[] #[]] 87) := by rw [← hW1]; exact blk_new _ (by simp; omega)
    have hB1 : Below g w W1 := by rw [← hW1, ← hg]; exact (by repeat (first | exact Below.refl _ _ | assumption | refine Below.drew ?_ | refine below_drewN ?_ _ | refine Below.alloc ?_ (by first | omega | (simp; done) | (simp; omega)) _ | refine Below.setCell ?_ (by first | omega | (simp; done) | (simp; omega)) _))
    rw [hW1, hg]
    have HG := Lib.hid hg
    have g1 := blk_lt k1
    have g2 := blk_lt k2
    have e4 := (blk_cell k1 4).trans d0
    have e5 := (blk_cell k1 5).trans d1
    have ef : W1.cell? ⟨g + 1, 1, none⟩ = some (.func (.func 39) #[] #[]) := blk_cell k2 1
    have rg : W1.rangeAt g 0 C.toList := fun j v hv => by rw [Nat.zero_add, blk_cell k1]; simpa using hv
    have t0 : decide (f ≤ 3) = true := decide_eq_true h3
    have hd2 : Below W1.heap.size W1 W1.drew := (Below.refl _ _).drew
    have HLd := Lib.hid (show LaidS W1.drew from (HL.out.below hB1 (by omega)).go hd2)
    have HQ1 := Lib.hid (HQ.out _ HLd.out)
    clear k1 k2 hW1 hg d0 d1 HQ
    refine wp_region_held_drew (S := (fun w' => w'.cell? ⟨g, 4, none⟩ = some (.int .u8 1) ∧ w'.cell? ⟨g, 5, none⟩ = some (.int .u8 f) ∧ w'.cell? ⟨g + 1, 1, none⟩ = some (.func (.func 39) #[] #[]) ∧ w'.rangeAt g 0 C.toList)) (by kernel_rfl) ⟨e4, e5, ef, rg⟩ (fun hHeld => ?_)
    refine take_named (i := 0) (d := 5) (v := ?vb0) rfl (by kernel_rfl) (by kernel_rfl) (by kernel_rfl) (by kernel_rfl) (fun _ _ _ h => h) (Or.inl ⟨by kernel_rfl, ?yb0⟩) (by assumption) ?_
    case yb0 => intro wq hSw; (try dsimp only at hSw); go_simp; (try with_reducible rfl)
    (try simp only [Act.put, List.setIfInBounds_toArray, List.set_cons_zero, List.set_cons_succ])
    refine take_named (i := 1) (d := 6) (v := ?vb1) rfl (by kernel_rfl) (by kernel_rfl) (by kernel_rfl) (by kernel_rfl) (fun _ _ _ h => h) (Or.inl ⟨by kernel_rfl, ?yb1⟩) (by assumption) ?_
    case yb1 => intro wq hSw; (try dsimp only at hSw); go_simp; (try with_reducible rfl)
    (try simp only [Act.put, List.setIfInBounds_toArray, List.set_cons_zero, List.set_cons_succ])
    refine take_named (i := 2) (d := 7) (v := ?vb2) rfl (by kernel_rfl) (by kernel_rfl) (by kernel_rfl) (by kernel_rfl) (fun _ _ _ h => h) (Or.inl ⟨by kernel_rfl, ?yb2⟩) (by assumption) ?_
    case yb2 => intro wq hSw; (try dsimp only at hSw); go_simp; (try with_reducible rfl)
    (try simp only [Act.put, List.setIfInBounds_toArray, List.set_cons_zero, List.set_cons_succ])
    refine take_named (i := 3) (d := 8) (v := ?vb3) rfl (by kernel_rfl) (by kernel_rfl) (by kernel_rfl) (by kernel_rfl) (fun _ _ _ h => h) (Or.inl ⟨by kernel_rfl, ?yb3⟩) (by assumption) ?_
    case yb3 => intro wq hSw; (try dsimp only at hSw); go_simp; (try with_reducible rfl)
    (try simp only [Act.put, List.setIfInBounds_toArray, List.set_cons_zero, List.set_cons_succ])
    refine take_named (i := 4) (d := 9) (v := ?vb4) rfl (by kernel_rfl) (by kernel_rfl) (by kernel_rfl) (by kernel_rfl) (fun _ _ _ h => h) (Or.inl ⟨by kernel_rfl, ?yb4⟩) (by assumption) ?_
    case yb4 => intro wq hSw; (try dsimp only at hSw); go_simp; (try with_reducible rfl)
    (try simp only [Act.put, List.setIfInBounds_toArray, List.set_cons_zero, List.set_cons_succ])
    refine take_named (i := 5) (d := 10) (v := ?vb5) rfl (by kernel_rfl) (by kernel_rfl) (by kernel_rfl) (by kernel_rfl) (fun _ _ _ h => h) (Or.inl ⟨by kernel_rfl, ?yb5⟩) (by assumption) ?_
    case yb5 => intro wq hSw; (try dsimp only at hSw); go_simp; (try with_reducible rfl)
    (try simp only [Act.put, List.setIfInBounds_toArray, List.set_cons_zero, List.set_cons_succ])
    refine take_named (i := 6) (d := 11) (v := ?vb6) rfl (by kernel_rfl) (by kernel_rfl) (by kernel_rfl) (by kernel_rfl) (fun _ _ _ h => h) (Or.inl ⟨by kernel_rfl, ?yb6⟩) (by assumption) ?_
    case yb6 => intro wq hSw; (try dsimp only at hSw); go_simp; (try with_reducible rfl)
    (try simp only [Act.put, List.setIfInBounds_toArray, List.set_cons_zero, List.set_cons_succ])
    refine take_named (i := 7) (d := 12) (v := ?vb7) rfl (by kernel_rfl) (by kernel_rfl) (by kernel_rfl) (by kernel_rfl) (fun _ _ _ h => h) (Or.inl ⟨by kernel_rfl, ?yb7⟩) (by assumption) ?_
    case yb7 => intro wq hSw; (try dsimp only at hSw); go_simp; (try with_reducible rfl)
    (try simp only [Act.put, List.setIfInBounds_toArray, List.set_cons_zero, List.set_cons_succ])
    refine take_named (i := 8) (d := 13) (v := ?vb8) rfl (by kernel_rfl) (by kernel_rfl) (by kernel_rfl) (by kernel_rfl) (fun _ _ _ h => h) (Or.inl ⟨by kernel_rfl, ?yb8⟩) (by assumption) ?_
    case yb8 => intro wq hSw; (try dsimp only at hSw); go_simp; (try with_reducible rfl)
    (try simp only [Act.put, List.setIfInBounds_toArray, List.set_cons_zero, List.set_cons_succ])
    refine take_named (i := 9) (d := 14) (v := ?vb9) rfl (by kernel_rfl) (by kernel_rfl) (by kernel_rfl) (by kernel_rfl) (fun _ _ _ h => h) (Or.inl ⟨by kernel_rfl, ?yb9⟩) (by assumption) ?_
    case yb9 => intro wq hSw; (try dsimp only at hSw); go_simp; (try with_reducible rfl)
    (try simp only [Act.put, List.setIfInBounds_toArray, List.set_cons_zero, List.set_cons_succ])
    refine take_named (i := 10) (d := 15) (v := ?vb10) rfl (by kernel_rfl) (by kernel_rfl) (by kernel_rfl) (by kernel_rfl) (fun _ _ _ h => h) (Or.inl ⟨by kernel_rfl, ?yb10⟩) (by assumption) ?_
    case yb10 => intro wq hSw; (try dsimp only at hSw); go_simp; (try with_reducible rfl)
    (try simp only [Act.put, List.setIfInBounds_toArray, List.set_cons_zero, List.set_cons_succ])
    refine take_named (i := 11) (d := 16) (v := ?vb11) rfl (by kernel_rfl) (by kernel_rfl) (by kernel_rfl) (by kernel_rfl) (fun _ _ _ h => h) (Or.inl ⟨by kernel_rfl, ?yb11⟩) (by assumption) ?_
    case yb11 => intro wq hSw; (try dsimp only at hSw); go_simp; (try with_reducible rfl)
    (try simp only [Act.put, List.setIfInBounds_toArray, List.set_cons_zero, List.set_cons_succ])
    refine take_named (i := 12) (d := 17) (v := ?vb12) rfl (by kernel_rfl) (by kernel_rfl) (by kernel_rfl) (by kernel_rfl) (fun _ _ _ h => h) (Or.inl ⟨by kernel_rfl, ?yb12⟩) (by assumption) ?_
    case yb12 => intro wq hSw; (try dsimp only at hSw); go_simp; (try with_reducible rfl)
    (try simp only [Act.put, List.setIfInBounds_toArray, List.set_cons_zero, List.set_cons_succ])
    refine take_named (i := 13) (d := 18) (v := ?vb13) rfl (by kernel_rfl) (by kernel_rfl) (by kernel_rfl) (by kernel_rfl) (fun _ _ _ h => h) (Or.inl ⟨by kernel_rfl, ?yb13⟩) (by assumption) ?_
    case yb13 => intro wq hSw; (try dsimp only at hSw); go_simp; (try with_reducible rfl)
    (try simp only [Act.put, List.setIfInBounds_toArray, List.set_cons_zero, List.set_cons_succ])
    refine take_named (i := 14) (d := 19) (v := .agg (C.toList).toArray) rfl (by kernel_rfl) (by kernel_rfl) (by kernel_rfl) (by kernel_rfl) (fun _ _ _ h => h) (yieldsIf_load_mid (by kernel_rfl) 51 (.tmp 1) rfl g 0 rfl (C.toList) _ (fun w h => h.2.2.2) hu rfl hi) (by assumption) ?_
    (try simp only [Act.put, List.setIfInBounds_toArray, List.set_cons_zero, List.set_cons_succ])
    (try simp only [Array.toArray_toList])
    refine wpAnyH_ready (rs := [15]) (by kernel_rfl) (by simp) ?_
    refine AllReadyH.cons rfl (fun K hK => ?_) AllReadyH.nil
    go_simp
    refine HQ1.out.mono ?_
    rintro ee wm ⟨rfl, hbm0⟩
    have hbm := hd2.trans (hbm0.mono hd2.size)
    refine hK.out _ _ ⟨keepB0 hbm g1 e4, keepB0 hbm g1 e5, keepB0 hbm g2 ef, fun j v hv => keepB0 hbm g1 (rg j v hv)⟩ (fun hHeld1 => ?_)
    clear hK K hHeld
    (try simp only [Act.put, List.setIfInBounds_toArray, List.set_cons_zero, List.set_cons_succ])
    refine take_named (i := 16) (d := 21) (v := ?vb16) rfl (by kernel_rfl) (by kernel_rfl) (by kernel_rfl) (by kernel_rfl) (fun _ _ _ h => h) (Or.inl ⟨by kernel_rfl, ?yb16⟩) (by assumption) ?_
    case yb16 => intro wq hSw; (try dsimp only at hSw); go_simp; (try with_reducible rfl)
    (try simp only [Act.put, List.setIfInBounds_toArray, List.set_cons_zero, List.set_cons_succ])
    refine take_named (i := 17) (d := 2) (v := ?vb17) rfl (by kernel_rfl) (by kernel_rfl) (by kernel_rfl) (by kernel_rfl) (fun _ _ _ h => h) (Or.inl ⟨by kernel_rfl, ?yb17⟩) (by assumption) ?_
    case yb17 => intro wq hSw; (try dsimp only at hSw); go_simp; (try with_reducible rfl)
    (try simp only [Act.put, List.setIfInBounds_toArray, List.set_cons_zero, List.set_cons_succ])
    refine wpAnyH_done (by kernel_rfl) ?_ _
    go_wp2
    go_ret
    exact ⟨rfl, by rw [HG.out]; exact hB1.trans (hbm.mono (by omega))⟩
  · have HQ := Lib.hid (fun (W : World) (hW : LaidS W) => HWE.out W hW)
    rw [show weightedB o a0 a1 = N from hN] at HQ
    clear HVO HPL HWE HSP HAW hN
    go_enter Tryz.func28, Tryz.ntmps28
    go_upto_region 2 with fail
    obtain ⟨W1, hW1⟩ : ∃ W1, (w.alloc (.cells C 51)).alloc (.cells #[.func (.func 38) #[] #[], .func (.func 39) #[] #[], .func (.func 40) #[] #[], .func (.func 41) #[] #[], .func (.func 42) #[] #[]] 87) = W1 := ⟨_, rfl⟩
    obtain ⟨g, hg⟩ : ∃ g, w.heap.size = g := ⟨_, rfl⟩
    have k1 : W1.heap[g]? = some (.cells C 51) := by rw [← hW1]; exact blk_alloc (blk_new _ hg.symm) _
    have k2 : W1.heap[g + 1]? = some (.cells #[.func (.func 38) #[] #[], .func (.func 39) #[] #[], .func (.func 40) #[] #[], .func (.func 41) #[] #[], .func (.func 42) #[] #[]] 87) := by rw [← hW1]; exact blk_new _ (by simp; omega)
    have hB1 : Below g w W1 := by rw [← hW1, ← hg]; exact (by repeat (first | exact Below.refl _ _ | assumption | refine Below.drew ?_ | refine below_drewN ?_ _ | refine Below.alloc ?_ (by first | omega | (simp; done) | (simp; omega)) _ | refine Below.setCell ?_ (by first | omega | (simp; done) | (simp; omega)) _))
    rw [hW1, hg]
    have HG := Lib.hid hg
    have g1 := blk_lt k1
    have g2 := blk_lt k2
    have e4 := (blk_cell k1 4).trans d0
    have e5 := (blk_cell k1 5).trans d1
    have ef : W1.cell? ⟨g + 1, 2, none⟩ = some (.func (.func 40) #[] #[]) := blk_cell k2 2
    have rg : W1.rangeAt g 0 C.toList := fun j v hv => by rw [Nat.zero_add, blk_cell k1]; simpa using hv
    have t0 : decide (f ≤ 3) = true := decide_eq_true h3
    have hd2 : Below W1.heap.size W1 W1.drew := (Below.refl _ _).drew
    have HLd := Lib.hid (show LaidS W1.drew from (HL.out.below hB1 (by omega)).go hd2)
    have HQ1 := Lib.hid (HQ.out _ HLd.out)
    clear k1 k2 hW1 hg d0 d1 HQ
    refine wp_region_held_drew (S := (fun w' => w'.cell? ⟨g, 4, none⟩ = some (.int .u8 2) ∧ w'.cell? ⟨g, 5, none⟩ = some (.int .u8 f) ∧ w'.cell? ⟨g + 1, 2, none⟩ = some (.func (.func 40) #[] #[]) ∧ w'.rangeAt g 0 C.toList)) (by kernel_rfl) ⟨e4, e5, ef, rg⟩ (fun hHeld => ?_)
    refine take_named (i := 0) (d := 5) (v := ?vc0) rfl (by kernel_rfl) (by kernel_rfl) (by kernel_rfl) (by kernel_rfl) (fun _ _ _ h => h) (Or.inl ⟨by kernel_rfl, ?yc0⟩) (by assumption) ?_
    case yc0 => intro wq hSw; (try dsimp only at hSw); go_simp; (try with_reducible rfl)
    (try simp only [Act.put, List.setIfInBounds_toArray, List.set_cons_zero, List.set_cons_succ])
    refine take_named (i := 1) (d := 6) (v := ?vc1) rfl (by kernel_rfl) (by kernel_rfl) (by kernel_rfl) (by kernel_rfl) (fun _ _ _ h => h) (Or.inl ⟨by kernel_rfl, ?yc1⟩) (by assumption) ?_
    case yc1 => intro wq hSw; (try dsimp only at hSw); go_simp; (try with_reducible rfl)
    (try simp only [Act.put, List.setIfInBounds_toArray, List.set_cons_zero, List.set_cons_succ])
    refine take_named (i := 2) (d := 7) (v := ?vc2) rfl (by kernel_rfl) (by kernel_rfl) (by kernel_rfl) (by kernel_rfl) (fun _ _ _ h => h) (Or.inl ⟨by kernel_rfl, ?yc2⟩) (by assumption) ?_
    case yc2 => intro wq hSw; (try dsimp only at hSw); go_simp; (try with_reducible rfl)
    (try simp only [Act.put, List.setIfInBounds_toArray, List.set_cons_zero, List.set_cons_succ])
    refine take_named (i := 3) (d := 8) (v := ?vc3) rfl (by kernel_rfl) (by kernel_rfl) (by kernel_rfl) (by kernel_rfl) (fun _ _ _ h => h) (Or.inl ⟨by kernel_rfl, ?yc3⟩) (by assumption) ?_
    case yc3 => intro wq hSw; (try dsimp only at hSw); go_simp; (try with_reducible rfl)
    (try simp only [Act.put, List.setIfInBounds_toArray, List.set_cons_zero, List.set_cons_succ])
    refine take_named (i := 4) (d := 9) (v := ?vc4) rfl (by kernel_rfl) (by kernel_rfl) (by kernel_rfl) (by kernel_rfl) (fun _ _ _ h => h) (Or.inl ⟨by kernel_rfl, ?yc4⟩) (by assumption) ?_
    case yc4 => intro wq hSw; (try dsimp only at hSw); go_simp; (try with_reducible rfl)
    (try simp only [Act.put, List.setIfInBounds_toArray, List.set_cons_zero, List.set_cons_succ])
    refine take_named (i := 5) (d := 10) (v := ?vc5) rfl (by kernel_rfl) (by kernel_rfl) (by kernel_rfl) (by kernel_rfl) (fun _ _ _ h => h) (Or.inl ⟨by kernel_rfl, ?yc5⟩) (by assumption) ?_
    case yc5 => intro wq hSw; (try dsimp only at hSw); go_simp; (try with_reducible rfl)
    (try simp only [Act.put, List.setIfInBounds_toArray, List.set_cons_zero, List.set_cons_succ])
    refine take_named (i := 6) (d := 11) (v := ?vc6) rfl (by kernel_rfl) (by kernel_rfl) (by kernel_rfl) (by kernel_rfl) (fun _ _ _ h => h) (Or.inl ⟨by kernel_rfl, ?yc6⟩) (by assumption) ?_
    case yc6 => intro wq hSw; (try dsimp only at hSw); go_simp; (try with_reducible rfl)
    (try simp only [Act.put, List.setIfInBounds_toArray, List.set_cons_zero, List.set_cons_succ])
    refine take_named (i := 7) (d := 12) (v := ?vc7) rfl (by kernel_rfl) (by kernel_rfl) (by kernel_rfl) (by kernel_rfl) (fun _ _ _ h => h) (Or.inl ⟨by kernel_rfl, ?yc7⟩) (by assumption) ?_
    case yc7 => intro wq hSw; (try dsimp only at hSw); go_simp; (try with_reducible rfl)
    (try simp only [Act.put, List.setIfInBounds_toArray, List.set_cons_zero, List.set_cons_succ])
    refine take_named (i := 8) (d := 13) (v := ?vc8) rfl (by kernel_rfl) (by kernel_rfl) (by kernel_rfl) (by kernel_rfl) (fun _ _ _ h => h) (Or.inl ⟨by kernel_rfl, ?yc8⟩) (by assumption) ?_
    case yc8 => intro wq hSw; (try dsimp only at hSw); go_simp; (try with_reducible rfl)
    (try simp only [Act.put, List.setIfInBounds_toArray, List.set_cons_zero, List.set_cons_succ])
    refine take_named (i := 9) (d := 14) (v := ?vc9) rfl (by kernel_rfl) (by kernel_rfl) (by kernel_rfl) (by kernel_rfl) (fun _ _ _ h => h) (Or.inl ⟨by kernel_rfl, ?yc9⟩) (by assumption) ?_
    case yc9 => intro wq hSw; (try dsimp only at hSw); go_simp; (try with_reducible rfl)
    (try simp only [Act.put, List.setIfInBounds_toArray, List.set_cons_zero, List.set_cons_succ])
    refine take_named (i := 10) (d := 15) (v := ?vc10) rfl (by kernel_rfl) (by kernel_rfl) (by kernel_rfl) (by kernel_rfl) (fun _ _ _ h => h) (Or.inl ⟨by kernel_rfl, ?yc10⟩) (by assumption) ?_
    case yc10 => intro wq hSw; (try dsimp only at hSw); go_simp; (try with_reducible rfl)
    (try simp only [Act.put, List.setIfInBounds_toArray, List.set_cons_zero, List.set_cons_succ])
    refine take_named (i := 11) (d := 16) (v := ?vc11) rfl (by kernel_rfl) (by kernel_rfl) (by kernel_rfl) (by kernel_rfl) (fun _ _ _ h => h) (Or.inl ⟨by kernel_rfl, ?yc11⟩) (by assumption) ?_
    case yc11 => intro wq hSw; (try dsimp only at hSw); go_simp; (try with_reducible rfl)
    (try simp only [Act.put, List.setIfInBounds_toArray, List.set_cons_zero, List.set_cons_succ])
    refine take_named (i := 12) (d := 17) (v := ?vc12) rfl (by kernel_rfl) (by kernel_rfl) (by kernel_rfl) (by kernel_rfl) (fun _ _ _ h => h) (Or.inl ⟨by kernel_rfl, ?yc12⟩) (by assumption) ?_
    case yc12 => intro wq hSw; (try dsimp only at hSw); go_simp; (try with_reducible rfl)
    (try simp only [Act.put, List.setIfInBounds_toArray, List.set_cons_zero, List.set_cons_succ])
    refine take_named (i := 13) (d := 18) (v := ?vc13) rfl (by kernel_rfl) (by kernel_rfl) (by kernel_rfl) (by kernel_rfl) (fun _ _ _ h => h) (Or.inl ⟨by kernel_rfl, ?yc13⟩) (by assumption) ?_
    case yc13 => intro wq hSw; (try dsimp only at hSw); go_simp; (try with_reducible rfl)
    (try simp only [Act.put, List.setIfInBounds_toArray, List.set_cons_zero, List.set_cons_succ])
    refine take_named (i := 14) (d := 19) (v := .agg (C.toList).toArray) rfl (by kernel_rfl) (by kernel_rfl) (by kernel_rfl) (by kernel_rfl) (fun _ _ _ h => h) (yieldsIf_load_mid (by kernel_rfl) 51 (.tmp 1) rfl g 0 rfl (C.toList) _ (fun w h => h.2.2.2) hu rfl hi) (by assumption) ?_
    (try simp only [Act.put, List.setIfInBounds_toArray, List.set_cons_zero, List.set_cons_succ])
    (try simp only [Array.toArray_toList])
    refine wpAnyH_ready (rs := [15]) (by kernel_rfl) (by simp) ?_
    refine AllReadyH.cons rfl (fun K hK => ?_) AllReadyH.nil
    go_simp
    refine HQ1.out.mono ?_
    rintro ee wm ⟨rfl, hbm0⟩
    have hbm := hd2.trans (hbm0.mono hd2.size)
    refine hK.out _ _ ⟨keepB0 hbm g1 e4, keepB0 hbm g1 e5, keepB0 hbm g2 ef, fun j v hv => keepB0 hbm g1 (rg j v hv)⟩ (fun hHeld1 => ?_)
    clear hK K hHeld
    (try simp only [Act.put, List.setIfInBounds_toArray, List.set_cons_zero, List.set_cons_succ])
    refine take_named (i := 16) (d := 21) (v := ?vc16) rfl (by kernel_rfl) (by kernel_rfl) (by kernel_rfl) (by kernel_rfl) (fun _ _ _ h => h) (Or.inl ⟨by kernel_rfl, ?yc16⟩) (by assumption) ?_
    case yc16 => intro wq hSw; (try dsimp only at hSw); go_simp; (try with_reducible rfl)
    (try simp only [Act.put, List.setIfInBounds_toArray, List.set_cons_zero, List.set_cons_succ])
    refine take_named (i := 17) (d := 2) (v := ?vc17) rfl (by kernel_rfl) (by kernel_rfl) (by kernel_rfl) (by kernel_rfl) (fun _ _ _ h => h) (Or.inl ⟨by kernel_rfl, ?yc17⟩) (by assumption) ?_
    case yc17 => intro wq hSw; (try dsimp only at hSw); go_simp; (try with_reducible rfl)
    (try simp only [Act.put, List.setIfInBounds_toArray, List.set_cons_zero, List.set_cons_succ])
    refine wpAnyH_done (by kernel_rfl) ?_ _
    go_wp2
    go_ret
    exact ⟨rfl, by rw [HG.out]; exact hB1.trans (hbm.mono (by omega))⟩
  · have HQ := Lib.hid (fun (W : World) (hW : LaidS W) => HSP.out W hW)
    rw [show splitB o a0 a1 = N from hN] at HQ
    clear HVO HPL HWE HSP HAW hN
    go_enter Tryz.func28, Tryz.ntmps28
    go_upto_region 2 with fail
    obtain ⟨W1, hW1⟩ : ∃ W1, (w.alloc (.cells C 51)).alloc (.cells #[.func (.func 38) #[] #[], .func (.func 39) #[] #[], .func (.func 40) #[] #[], .func (.func 41) #[] #[], .func (.func 42) #[] #[]] 87) = W1 := ⟨_, rfl⟩
    obtain ⟨g, hg⟩ : ∃ g, w.heap.size = g := ⟨_, rfl⟩
    have k1 : W1.heap[g]? = some (.cells C 51) := by rw [← hW1]; exact blk_alloc (blk_new _ hg.symm) _
    have k2 : W1.heap[g + 1]? = some (.cells #[.func (.func 38) #[] #[], .func (.func 39) #[] #[], .func (.func 40) #[] #[], .func (.func 41) #[] #[], .func (.func 42) #[] #[]] 87) := by rw [← hW1]; exact blk_new _ (by simp; omega)
    have hB1 : Below g w W1 := by rw [← hW1, ← hg]; exact (by repeat (first | exact Below.refl _ _ | assumption | refine Below.drew ?_ | refine below_drewN ?_ _ | refine Below.alloc ?_ (by first | omega | (simp; done) | (simp; omega)) _ | refine Below.setCell ?_ (by first | omega | (simp; done) | (simp; omega)) _))
    rw [hW1, hg]
    have HG := Lib.hid hg
    have g1 := blk_lt k1
    have g2 := blk_lt k2
    have e4 := (blk_cell k1 4).trans d0
    have e5 := (blk_cell k1 5).trans d1
    have ef : W1.cell? ⟨g + 1, 3, none⟩ = some (.func (.func 41) #[] #[]) := blk_cell k2 3
    have rg : W1.rangeAt g 0 C.toList := fun j v hv => by rw [Nat.zero_add, blk_cell k1]; simpa using hv
    have t0 : decide (f ≤ 3) = true := decide_eq_true h3
    have hd2 : Below W1.heap.size W1 W1.drew := (Below.refl _ _).drew
    have HLd := Lib.hid (show LaidS W1.drew from (HL.out.below hB1 (by omega)).go hd2)
    have HQ1 := Lib.hid (HQ.out _ HLd.out)
    clear k1 k2 hW1 hg d0 d1 HQ
    refine wp_region_held_drew (S := (fun w' => w'.cell? ⟨g, 4, none⟩ = some (.int .u8 3) ∧ w'.cell? ⟨g, 5, none⟩ = some (.int .u8 f) ∧ w'.cell? ⟨g + 1, 3, none⟩ = some (.func (.func 41) #[] #[]) ∧ w'.rangeAt g 0 C.toList)) (by kernel_rfl) ⟨e4, e5, ef, rg⟩ (fun hHeld => ?_)
    refine take_named (i := 0) (d := 5) (v := ?vd0) rfl (by kernel_rfl) (by kernel_rfl) (by kernel_rfl) (by kernel_rfl) (fun _ _ _ h => h) (Or.inl ⟨by kernel_rfl, ?yd0⟩) (by assumption) ?_
    case yd0 => intro wq hSw; (try dsimp only at hSw); go_simp; (try with_reducible rfl)
    (try simp only [Act.put, List.setIfInBounds_toArray, List.set_cons_zero, List.set_cons_succ])
    refine take_named (i := 1) (d := 6) (v := ?vd1) rfl (by kernel_rfl) (by kernel_rfl) (by kernel_rfl) (by kernel_rfl) (fun _ _ _ h => h) (Or.inl ⟨by kernel_rfl, ?yd1⟩) (by assumption) ?_
    case yd1 => intro wq hSw; (try dsimp only at hSw); go_simp; (try with_reducible rfl)
    (try simp only [Act.put, List.setIfInBounds_toArray, List.set_cons_zero, List.set_cons_succ])
    refine take_named (i := 2) (d := 7) (v := ?vd2) rfl (by kernel_rfl) (by kernel_rfl) (by kernel_rfl) (by kernel_rfl) (fun _ _ _ h => h) (Or.inl ⟨by kernel_rfl, ?yd2⟩) (by assumption) ?_
    case yd2 => intro wq hSw; (try dsimp only at hSw); go_simp; (try with_reducible rfl)
    (try simp only [Act.put, List.setIfInBounds_toArray, List.set_cons_zero, List.set_cons_succ])
    refine take_named (i := 3) (d := 8) (v := ?vd3) rfl (by kernel_rfl) (by kernel_rfl) (by kernel_rfl) (by kernel_rfl) (fun _ _ _ h => h) (Or.inl ⟨by kernel_rfl, ?yd3⟩) (by assumption) ?_
    case yd3 => intro wq hSw; (try dsimp only at hSw); go_simp; (try with_reducible rfl)
    (try simp only [Act.put, List.setIfInBounds_toArray, List.set_cons_zero, List.set_cons_succ])
    refine take_named (i := 4) (d := 9) (v := ?vd4) rfl (by kernel_rfl) (by kernel_rfl) (by kernel_rfl) (by kernel_rfl) (fun _ _ _ h => h) (Or.inl ⟨by kernel_rfl, ?yd4⟩) (by assumption) ?_
    case yd4 => intro wq hSw; (try dsimp only at hSw); go_simp; (try with_reducible rfl)
    (try simp only [Act.put, List.setIfInBounds_toArray, List.set_cons_zero, List.set_cons_succ])
    refine take_named (i := 5) (d := 10) (v := ?vd5) rfl (by kernel_rfl) (by kernel_rfl) (by kernel_rfl) (by kernel_rfl) (fun _ _ _ h => h) (Or.inl ⟨by kernel_rfl, ?yd5⟩) (by assumption) ?_
    case yd5 => intro wq hSw; (try dsimp only at hSw); go_simp; (try with_reducible rfl)
    (try simp only [Act.put, List.setIfInBounds_toArray, List.set_cons_zero, List.set_cons_succ])
    refine take_named (i := 6) (d := 11) (v := ?vd6) rfl (by kernel_rfl) (by kernel_rfl) (by kernel_rfl) (by kernel_rfl) (fun _ _ _ h => h) (Or.inl ⟨by kernel_rfl, ?yd6⟩) (by assumption) ?_
    case yd6 => intro wq hSw; (try dsimp only at hSw); go_simp; (try with_reducible rfl)
    (try simp only [Act.put, List.setIfInBounds_toArray, List.set_cons_zero, List.set_cons_succ])
    refine take_named (i := 7) (d := 12) (v := ?vd7) rfl (by kernel_rfl) (by kernel_rfl) (by kernel_rfl) (by kernel_rfl) (fun _ _ _ h => h) (Or.inl ⟨by kernel_rfl, ?yd7⟩) (by assumption) ?_
    case yd7 => intro wq hSw; (try dsimp only at hSw); go_simp; (try with_reducible rfl)
    (try simp only [Act.put, List.setIfInBounds_toArray, List.set_cons_zero, List.set_cons_succ])
    refine take_named (i := 8) (d := 13) (v := ?vd8) rfl (by kernel_rfl) (by kernel_rfl) (by kernel_rfl) (by kernel_rfl) (fun _ _ _ h => h) (Or.inl ⟨by kernel_rfl, ?yd8⟩) (by assumption) ?_
    case yd8 => intro wq hSw; (try dsimp only at hSw); go_simp; (try with_reducible rfl)
    (try simp only [Act.put, List.setIfInBounds_toArray, List.set_cons_zero, List.set_cons_succ])
    refine take_named (i := 9) (d := 14) (v := ?vd9) rfl (by kernel_rfl) (by kernel_rfl) (by kernel_rfl) (by kernel_rfl) (fun _ _ _ h => h) (Or.inl ⟨by kernel_rfl, ?yd9⟩) (by assumption) ?_
    case yd9 => intro wq hSw; (try dsimp only at hSw); go_simp; (try with_reducible rfl)
    (try simp only [Act.put, List.setIfInBounds_toArray, List.set_cons_zero, List.set_cons_succ])
    refine take_named (i := 10) (d := 15) (v := ?vd10) rfl (by kernel_rfl) (by kernel_rfl) (by kernel_rfl) (by kernel_rfl) (fun _ _ _ h => h) (Or.inl ⟨by kernel_rfl, ?yd10⟩) (by assumption) ?_
    case yd10 => intro wq hSw; (try dsimp only at hSw); go_simp; (try with_reducible rfl)
    (try simp only [Act.put, List.setIfInBounds_toArray, List.set_cons_zero, List.set_cons_succ])
    refine take_named (i := 11) (d := 16) (v := ?vd11) rfl (by kernel_rfl) (by kernel_rfl) (by kernel_rfl) (by kernel_rfl) (fun _ _ _ h => h) (Or.inl ⟨by kernel_rfl, ?yd11⟩) (by assumption) ?_
    case yd11 => intro wq hSw; (try dsimp only at hSw); go_simp; (try with_reducible rfl)
    (try simp only [Act.put, List.setIfInBounds_toArray, List.set_cons_zero, List.set_cons_succ])
    refine take_named (i := 12) (d := 17) (v := ?vd12) rfl (by kernel_rfl) (by kernel_rfl) (by kernel_rfl) (by kernel_rfl) (fun _ _ _ h => h) (Or.inl ⟨by kernel_rfl, ?yd12⟩) (by assumption) ?_
    case yd12 => intro wq hSw; (try dsimp only at hSw); go_simp; (try with_reducible rfl)
    (try simp only [Act.put, List.setIfInBounds_toArray, List.set_cons_zero, List.set_cons_succ])
    refine take_named (i := 13) (d := 18) (v := ?vd13) rfl (by kernel_rfl) (by kernel_rfl) (by kernel_rfl) (by kernel_rfl) (fun _ _ _ h => h) (Or.inl ⟨by kernel_rfl, ?yd13⟩) (by assumption) ?_
    case yd13 => intro wq hSw; (try dsimp only at hSw); go_simp; (try with_reducible rfl)
    (try simp only [Act.put, List.setIfInBounds_toArray, List.set_cons_zero, List.set_cons_succ])
    refine take_named (i := 14) (d := 19) (v := .agg (C.toList).toArray) rfl (by kernel_rfl) (by kernel_rfl) (by kernel_rfl) (by kernel_rfl) (fun _ _ _ h => h) (yieldsIf_load_mid (by kernel_rfl) 51 (.tmp 1) rfl g 0 rfl (C.toList) _ (fun w h => h.2.2.2) hu rfl hi) (by assumption) ?_
    (try simp only [Act.put, List.setIfInBounds_toArray, List.set_cons_zero, List.set_cons_succ])
    (try simp only [Array.toArray_toList])
    refine wpAnyH_ready (rs := [15]) (by kernel_rfl) (by simp) ?_
    refine AllReadyH.cons rfl (fun K hK => ?_) AllReadyH.nil
    go_simp
    refine HQ1.out.mono ?_
    rintro ee wm ⟨rfl, hbm0⟩
    have hbm := hd2.trans (hbm0.mono hd2.size)
    refine hK.out _ _ ⟨keepB0 hbm g1 e4, keepB0 hbm g1 e5, keepB0 hbm g2 ef, fun j v hv => keepB0 hbm g1 (rg j v hv)⟩ (fun hHeld1 => ?_)
    clear hK K hHeld
    (try simp only [Act.put, List.setIfInBounds_toArray, List.set_cons_zero, List.set_cons_succ])
    refine take_named (i := 16) (d := 21) (v := ?vd16) rfl (by kernel_rfl) (by kernel_rfl) (by kernel_rfl) (by kernel_rfl) (fun _ _ _ h => h) (Or.inl ⟨by kernel_rfl, ?yd16⟩) (by assumption) ?_
    case yd16 => intro wq hSw; (try dsimp only at hSw); go_simp; (try with_reducible rfl)
    (try simp only [Act.put, List.setIfInBounds_toArray, List.set_cons_zero, List.set_cons_succ])
    refine take_named (i := 17) (d := 2) (v := ?vd17) rfl (by kernel_rfl) (by kernel_rfl) (by kernel_rfl) (by kernel_rfl) (fun _ _ _ h => h) (Or.inl ⟨by kernel_rfl, ?yd17⟩) (by assumption) ?_
    case yd17 => intro wq hSw; (try dsimp only at hSw); go_simp; (try with_reducible rfl)
    (try simp only [Act.put, List.setIfInBounds_toArray, List.set_cons_zero, List.set_cons_succ])
    refine wpAnyH_done (by kernel_rfl) ?_ _
    go_wp2
    go_ret
    exact ⟨rfl, by rw [HG.out]; exact hB1.trans (hbm.mono (by omega))⟩
  · have HQ := Lib.hid (fun (W : World) (_ : LaidS W) => HAW.out W)
    rw [show awardB o a0 a1 = N from hN] at HQ
    clear HVO HPL HWE HSP HAW hN
    go_enter Tryz.func28, Tryz.ntmps28
    go_upto_region 2 with fail
    obtain ⟨W1, hW1⟩ : ∃ W1, (w.alloc (.cells C 51)).alloc (.cells #[.func (.func 38) #[] #[], .func (.func 39) #[] #[], .func (.func 40) #[] #[], .func (.func 41) #[] #[], .func (.func 42) #[] #[]] 87) = W1 := ⟨_, rfl⟩
    obtain ⟨g, hg⟩ : ∃ g, w.heap.size = g := ⟨_, rfl⟩
    have k1 : W1.heap[g]? = some (.cells C 51) := by rw [← hW1]; exact blk_alloc (blk_new _ hg.symm) _
    have k2 : W1.heap[g + 1]? = some (.cells #[.func (.func 38) #[] #[], .func (.func 39) #[] #[], .func (.func 40) #[] #[], .func (.func 41) #[] #[], .func (.func 42) #[] #[]] 87) := by rw [← hW1]; exact blk_new _ (by simp; omega)
    have hB1 : Below g w W1 := by rw [← hW1, ← hg]; exact (by repeat (first | exact Below.refl _ _ | assumption | refine Below.drew ?_ | refine below_drewN ?_ _ | refine Below.alloc ?_ (by first | omega | (simp; done) | (simp; omega)) _ | refine Below.setCell ?_ (by first | omega | (simp; done) | (simp; omega)) _))
    rw [hW1, hg]
    have HG := Lib.hid hg
    have g1 := blk_lt k1
    have g2 := blk_lt k2
    have e4 := (blk_cell k1 4).trans d0
    have e5 := (blk_cell k1 5).trans d1
    have ef : W1.cell? ⟨g + 1, 4, none⟩ = some (.func (.func 42) #[] #[]) := blk_cell k2 4
    have rg : W1.rangeAt g 0 C.toList := fun j v hv => by rw [Nat.zero_add, blk_cell k1]; simpa using hv
    have t0 : decide (f ≤ 3) = true := decide_eq_true h3
    have hd2 : Below W1.heap.size W1 W1.drew := (Below.refl _ _).drew
    have HLd := Lib.hid (show LaidS W1.drew from (HL.out.below hB1 (by omega)).go hd2)
    have HQ1 := Lib.hid (HQ.out _ HLd.out)
    clear k1 k2 hW1 hg d0 d1 HQ
    refine wp_region_held_drew (S := (fun w' => w'.cell? ⟨g, 4, none⟩ = some (.int .u8 4) ∧ w'.cell? ⟨g, 5, none⟩ = some (.int .u8 f) ∧ w'.cell? ⟨g + 1, 4, none⟩ = some (.func (.func 42) #[] #[]) ∧ w'.rangeAt g 0 C.toList)) (by kernel_rfl) ⟨e4, e5, ef, rg⟩ (fun hHeld => ?_)
    refine take_named (i := 0) (d := 5) (v := ?ve0) rfl (by kernel_rfl) (by kernel_rfl) (by kernel_rfl) (by kernel_rfl) (fun _ _ _ h => h) (Or.inl ⟨by kernel_rfl, ?ye0⟩) (by assumption) ?_
    case ye0 => intro wq hSw; (try dsimp only at hSw); go_simp; (try with_reducible rfl)
    (try simp only [Act.put, List.setIfInBounds_toArray, List.set_cons_zero, List.set_cons_succ])
    refine take_named (i := 1) (d := 6) (v := ?ve1) rfl (by kernel_rfl) (by kernel_rfl) (by kernel_rfl) (by kernel_rfl) (fun _ _ _ h => h) (Or.inl ⟨by kernel_rfl, ?ye1⟩) (by assumption) ?_
    case ye1 => intro wq hSw; (try dsimp only at hSw); go_simp; (try with_reducible rfl)
    (try simp only [Act.put, List.setIfInBounds_toArray, List.set_cons_zero, List.set_cons_succ])
    refine take_named (i := 2) (d := 7) (v := ?ve2) rfl (by kernel_rfl) (by kernel_rfl) (by kernel_rfl) (by kernel_rfl) (fun _ _ _ h => h) (Or.inl ⟨by kernel_rfl, ?ye2⟩) (by assumption) ?_
    case ye2 => intro wq hSw; (try dsimp only at hSw); go_simp; (try with_reducible rfl)
    (try simp only [Act.put, List.setIfInBounds_toArray, List.set_cons_zero, List.set_cons_succ])
    refine take_named (i := 3) (d := 8) (v := ?ve3) rfl (by kernel_rfl) (by kernel_rfl) (by kernel_rfl) (by kernel_rfl) (fun _ _ _ h => h) (Or.inl ⟨by kernel_rfl, ?ye3⟩) (by assumption) ?_
    case ye3 => intro wq hSw; (try dsimp only at hSw); go_simp; (try with_reducible rfl)
    (try simp only [Act.put, List.setIfInBounds_toArray, List.set_cons_zero, List.set_cons_succ])
    refine take_named (i := 4) (d := 9) (v := ?ve4) rfl (by kernel_rfl) (by kernel_rfl) (by kernel_rfl) (by kernel_rfl) (fun _ _ _ h => h) (Or.inl ⟨by kernel_rfl, ?ye4⟩) (by assumption) ?_
    case ye4 => intro wq hSw; (try dsimp only at hSw); go_simp; (try with_reducible rfl)
    (try simp only [Act.put, List.setIfInBounds_toArray, List.set_cons_zero, List.set_cons_succ])
    refine take_named (i := 5) (d := 10) (v := ?ve5) rfl (by kernel_rfl) (by kernel_rfl) (by kernel_rfl) (by kernel_rfl) (fun _ _ _ h => h) (Or.inl ⟨by kernel_rfl, ?ye5⟩) (by assumption) ?_
    case ye5 => intro wq hSw; (try dsimp only at hSw); go_simp; (try with_reducible rfl)
    (try simp only [Act.put, List.setIfInBounds_toArray, List.set_cons_zero, List.set_cons_succ])
    refine take_named (i := 6) (d := 11) (v := ?ve6) rfl (by kernel_rfl) (by kernel_rfl) (by kernel_rfl) (by kernel_rfl) (fun _ _ _ h => h) (Or.inl ⟨by kernel_rfl, ?ye6⟩) (by assumption) ?_
    case ye6 => intro wq hSw; (try dsimp only at hSw); go_simp; (try with_reducible rfl)
    (try simp only [Act.put, List.setIfInBounds_toArray, List.set_cons_zero, List.set_cons_succ])
    refine take_named (i := 7) (d := 12) (v := ?ve7) rfl (by kernel_rfl) (by kernel_rfl) (by kernel_rfl) (by kernel_rfl) (fun _ _ _ h => h) (Or.inl ⟨by kernel_rfl, ?ye7⟩) (by assumption) ?_
    case ye7 => intro wq hSw; (try dsimp only at hSw); go_simp; (try with_reducible rfl)
    (try simp only [Act.put, List.setIfInBounds_toArray, List.set_cons_zero, List.set_cons_succ])
    refine take_named (i := 8) (d := 13) (v := ?ve8) rfl (by kernel_rfl) (by kernel_rfl) (by kernel_rfl) (by kernel_rfl) (fun _ _ _ h => h) (Or.inl ⟨by kernel_rfl, ?ye8⟩) (by assumption) ?_
    case ye8 => intro wq hSw; (try dsimp only at hSw); go_simp; (try with_reducible rfl)
    (try simp only [Act.put, List.setIfInBounds_toArray, List.set_cons_zero, List.set_cons_succ])
    refine take_named (i := 9) (d := 14) (v := ?ve9) rfl (by kernel_rfl) (by kernel_rfl) (by kernel_rfl) (by kernel_rfl) (fun _ _ _ h => h) (Or.inl ⟨by kernel_rfl, ?ye9⟩) (by assumption) ?_
    case ye9 => intro wq hSw; (try dsimp only at hSw); go_simp; (try with_reducible rfl)
    (try simp only [Act.put, List.setIfInBounds_toArray, List.set_cons_zero, List.set_cons_succ])
    refine take_named (i := 10) (d := 15) (v := ?ve10) rfl (by kernel_rfl) (by kernel_rfl) (by kernel_rfl) (by kernel_rfl) (fun _ _ _ h => h) (Or.inl ⟨by kernel_rfl, ?ye10⟩) (by assumption) ?_
    case ye10 => intro wq hSw; (try dsimp only at hSw); go_simp; (try with_reducible rfl)
    (try simp only [Act.put, List.setIfInBounds_toArray, List.set_cons_zero, List.set_cons_succ])
    refine take_named (i := 11) (d := 16) (v := ?ve11) rfl (by kernel_rfl) (by kernel_rfl) (by kernel_rfl) (by kernel_rfl) (fun _ _ _ h => h) (Or.inl ⟨by kernel_rfl, ?ye11⟩) (by assumption) ?_
    case ye11 => intro wq hSw; (try dsimp only at hSw); go_simp; (try with_reducible rfl)
    (try simp only [Act.put, List.setIfInBounds_toArray, List.set_cons_zero, List.set_cons_succ])
    refine take_named (i := 12) (d := 17) (v := ?ve12) rfl (by kernel_rfl) (by kernel_rfl) (by kernel_rfl) (by kernel_rfl) (fun _ _ _ h => h) (Or.inl ⟨by kernel_rfl, ?ye12⟩) (by assumption) ?_
    case ye12 => intro wq hSw; (try dsimp only at hSw); go_simp; (try with_reducible rfl)
    (try simp only [Act.put, List.setIfInBounds_toArray, List.set_cons_zero, List.set_cons_succ])
    refine take_named (i := 13) (d := 18) (v := ?ve13) rfl (by kernel_rfl) (by kernel_rfl) (by kernel_rfl) (by kernel_rfl) (fun _ _ _ h => h) (Or.inl ⟨by kernel_rfl, ?ye13⟩) (by assumption) ?_
    case ye13 => intro wq hSw; (try dsimp only at hSw); go_simp; (try with_reducible rfl)
    (try simp only [Act.put, List.setIfInBounds_toArray, List.set_cons_zero, List.set_cons_succ])
    refine take_named (i := 14) (d := 19) (v := .agg (C.toList).toArray) rfl (by kernel_rfl) (by kernel_rfl) (by kernel_rfl) (by kernel_rfl) (fun _ _ _ h => h) (yieldsIf_load_mid (by kernel_rfl) 51 (.tmp 1) rfl g 0 rfl (C.toList) _ (fun w h => h.2.2.2) hu rfl hi) (by assumption) ?_
    (try simp only [Act.put, List.setIfInBounds_toArray, List.set_cons_zero, List.set_cons_succ])
    (try simp only [Array.toArray_toList])
    refine wpAnyH_ready (rs := [15]) (by kernel_rfl) (by simp) ?_
    refine AllReadyH.cons rfl (fun K hK => ?_) AllReadyH.nil
    go_simp
    refine HQ1.out.mono ?_
    rintro ee wm ⟨rfl, hbm0⟩
    have hbm := hd2.trans (hbm0.mono hd2.size)
    refine hK.out _ _ ⟨keepB0 hbm g1 e4, keepB0 hbm g1 e5, keepB0 hbm g2 ef, fun j v hv => keepB0 hbm g1 (rg j v hv)⟩ (fun hHeld1 => ?_)
    clear hK K hHeld
    (try simp only [Act.put, List.setIfInBounds_toArray, List.set_cons_zero, List.set_cons_succ])
    refine take_named (i := 16) (d := 21) (v := ?ve16) rfl (by kernel_rfl) (by kernel_rfl) (by kernel_rfl) (by kernel_rfl) (fun _ _ _ h => h) (Or.inl ⟨by kernel_rfl, ?ye16⟩) (by assumption) ?_
    case ye16 => intro wq hSw; (try dsimp only at hSw); go_simp; (try with_reducible rfl)
    (try simp only [Act.put, List.setIfInBounds_toArray, List.set_cons_zero, List.set_cons_succ])
    refine take_named (i := 17) (d := 2) (v := ?ve17) rfl (by kernel_rfl) (by kernel_rfl) (by kernel_rfl) (by kernel_rfl) (fun _ _ _ h => h) (Or.inl ⟨by kernel_rfl, ?ye17⟩) (by assumption) ?_
    case ye17 => intro wq hSw; (try dsimp only at hSw); go_simp; (try with_reducible rfl)
    (try simp only [Act.put, List.setIfInBounds_toArray, List.set_cons_zero, List.set_cons_succ])
    refine wpAnyH_done (by kernel_rfl) ?_ _
    go_wp2
    go_ret
    exact ⟨rfl, by rw [HG.out]; exact hB1.trans (hbm.mono (by omega))⟩

end Go.Proofs.YtchklobblkddhaaGreatDoor
