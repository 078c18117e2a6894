/- The walks of adjust.Award. -/
import Derived.Test.YtchklobblkddhaaGreatDoorAdjMeanW
import Derived.Test.YtchklobblkddhaaGreatDoorNeuW
namespace Go.Proofs.YtchklobblkddhaaGreatDoor
open Go.RowKit

/-- The fraction of an award. -/
def awardF (p all : Int) : Pt := mulF (p, 1) (fr (2 * (all - 1)) 100)
theorem share_bd {n : Int} (h : shareB n = true) : 0 ≤ n ∧ n ≤ 100 := by
  have := of_decide_eq_true h
  omega

set_option maxRecDepth 100000 in
set_option maxHeartbeats 4000000 in
theorem award_err (C : Array Value) (k f a0 a1 all E : Int) (o : Nat → Oc) (hC : EnC C k f o a0 a1) (ho : ∀ i, i < 4 → OcOk (o i)) (hf : 0 ≤ f ∧ f ≤ 255) (hk : 0 ≤ k ∧ k ≤ 255) (h : (E = 2 ∧ (rightE k f o a0 a1 = false ∨ all < 1 ∨ 24 < all)) ∨ (E = 6 ∧ rightE k f o a0 a1 = true ∧ 1 ≤ all ∧ all ≤ 24 ∧ k ≠ 4)) (w : World) (hL : LaidS w) :
    Calls Tryz.prog 16 #[.agg C, .int .i64 all] w fun e w' => e = .returned (.tuple #[.agg #[.int .i64 0, .int .i64 0], .agg #[.int .i64 0, .int .i64 0], .int .i64 E]) ∧ Below w.heap.size w w' := by
  have HI := Lib.hid hC.size
  have HQ := Lib.hid (fun W hW => eright_any C k f a0 a1 o hC ho hf hk W hW)
  have HL := Lib.hid hL
  have d4 := hC.2.1
  obtain ⟨R, hR⟩ : ∃ R, rightE k f o a0 a1 = R := ⟨_, rfl⟩
  rw [hR] at h HQ
  clear hL hC ho hR
  go_enter Tryz.func16, Tryz.ntmps16
  go_upto_region 1 with fail
  obtain ⟨W1, hW1⟩ : ∃ W1, ((w.alloc (.cells C 51)).alloc (.cells #[.int .i64 0, .int .i64 0] 36)).alloc (.cells #[.int .i64 0, .int .i64 0] 36) = W1 := ⟨_, rfl⟩
  obtain ⟨g, hg⟩ : ∃ g, w.heap.size = g := ⟨_, rfl⟩
  have k1 : W1.heap[g]? = some (.cells C 51) := by rw [← hW1]; exact blk_alloc (blk_alloc (blk_new _ hg.symm) _) _
  have k2 : W1.heap[g + 1]? = some (.cells #[.int .i64 0, .int .i64 0] 36) := by rw [← hW1]; exact blk_alloc (blk_new _ (by simp; omega)) _
  have k3 : W1.heap[g + 2]? = some (.cells #[.int .i64 0, .int .i64 0] 36) := by rw [← hW1]; exact blk_new _ (by simp; omega)
  have hB1 : Below w.heap.size w W1 := by rw [← hW1]; exact (by repeat (first | exact Below.refl _ _ | assumption | refine Below.drew ?_ | refine below_drewN ?_ _ | refine Below.alloc ?_ (by first | omega | (simp; done) | (simp; omega)) _ | refine Below.setCell ?_ (by first | omega | (simp; done) | (simp; omega)) _))
  rw [hW1, hg]
  have HG := Lib.hid hg
  have HK := Lib.hid k1
  have HK2 := Lib.hid k2
  have HK3 := Lib.hid k3
  clear hW1 k1 k2 k3 hg
  go_wp2_with (refine wpList_load_row_w (by rfl) 51 (.tmp 2) rfl g rfl 51 C _ _ HK.out Tryz.underlying51 rfl HI.out ?_)
  refine (HQ.out _ (HL.out.go hB1)).mono ?_
  rintro ee w2 ⟨rfl, hb2⟩
  have k0 := blk_below HK.out hb2 (by have := blk_lt HK3.out; omega)
  have e4 := (blk_cell k0 4).trans d4
  have g3 := blk_lt HK3.out
  have k2 := blk_below HK2.out hb2 (by omega)
  have k3 := blk_below HK3.out hb2 (by omega)
  have q0 := blk_cell k2 0
  have q1 := blk_cell k2 1
  have q2 := blk_cell k3 0
  have q3 := blk_cell k3 1
  have f0 := blk_free k2 0
  have f1 := blk_free k2 1
  have f2 := blk_free k3 0
  have f3 := blk_free k3 1
  have hB2 := below_via hB1 hb2
  have p2 := blk_set (blk_set k2 0 (.int .i64 0)) 1 (.int .i64 0)
  have p2' := blk_far (blk_far p2 (p := ⟨g + 2, 0, none⟩) (by simp) (.int .i64 0)) (p := ⟨g + 2, 1, none⟩) (by simp) (.int .i64 0)
  have p3 := blk_set (blk_set (blk_far (blk_far k3 (p := ⟨g + 1, 0, none⟩) (by simp) (.int .i64 0)) (p := ⟨g + 1, 1, none⟩) (by simp) (.int .i64 0)) 0 (.int .i64 0)) 1 (.int .i64 0)
  have hgw : w.heap.size ≤ g := Nat.le_of_eq HG.out
  have hz := (((hB2.setCell (p := ⟨g + 1, 0, none⟩) (Nat.le_succ_of_le hgw) (.int .i64 0)).setCell (p := ⟨g + 1, 1, none⟩) (Nat.le_succ_of_le hgw) (.int .i64 0)).setCell (p := ⟨g + 2, 0, none⟩) (Nat.le_succ_of_le (Nat.le_succ_of_le hgw)) (.int .i64 0)).setCell (p := ⟨g + 2, 1, none⟩) (Nat.le_succ_of_le (Nat.le_succ_of_le hgw)) (.int .i64 0)
  have D := Lib.hid (And.intro (blk_cell p2' 0) (And.intro (blk_cell p2' 1) (And.intro (blk_cell p3 0) (And.intro (blk_cell p3 1) hz))))
  clear p2 p2' p3 hz k2 k3 k0
  rcases h with ⟨rfl, h⟩ | ⟨rfl, rfl, h1, h2, h3⟩
  · cases R
    · go_wp2
      exact bodyPost_ret (v := .tuple #[.agg #[.int .i64 0, .int .i64 0], .agg #[.int .i64 0, .int .i64 0], .int .i64 2]) (by simp [results, Tryz.results16, go_sem, D.out.1, D.out.2.1, D.out.2.2.1, D.out.2.2.2.1]) rfl ⟨rfl, D.out.2.2.2.2⟩
    · by_cases h1 : all < 1
      · clear h
        go_wp2
        exact bodyPost_ret (v := .tuple #[.agg #[.int .i64 0, .int .i64 0], .agg #[.int .i64 0, .int .i64 0], .int .i64 2]) (by simp [results, Tryz.results16, go_sem, D.out.1, D.out.2.1, D.out.2.2.1, D.out.2.2.2.1]) rfl ⟨rfl, D.out.2.2.2.2⟩
      · have h2 : 24 < all := by rcases h with h | h | h; cases h; omega; exact h
        have h1' : 1 ≤ all := by omega
        clear h h1
        go_wp2
        exact bodyPost_ret (v := .tuple #[.agg #[.int .i64 0, .int .i64 0], .agg #[.int .i64 0, .int .i64 0], .int .i64 2]) (by simp [results, Tryz.results16, go_sem, D.out.1, D.out.2.1, D.out.2.2.1, D.out.2.2.2.1]) rfl ⟨rfl, D.out.2.2.2.2⟩
  · have h4 : (k != 4) = true := by simpa using h3
    have h5 : (k == 4) = false := beq_eq_false_iff_ne.2 h3
    clear h3
    go_wp2
    exact bodyPost_ret (v := .tuple #[.agg #[.int .i64 0, .int .i64 0], .agg #[.int .i64 0, .int .i64 0], .int .i64 6]) (by simp [results, Tryz.results16, go_sem, D.out.1, D.out.2.1, D.out.2.2.1, D.out.2.2.2.1]) rfl ⟨rfl, D.out.2.2.2.2⟩

set_option maxRecDepth 100000 in
set_option maxHeartbeats 4000000 in
theorem award_some (C : Array Value) (f a0 a1 all : Int) (o : Nat → Oc) (hC : EnC C 4 f o a0 a1) (ho : ∀ i, i < 4 → OcOk (o i)) (hf : 0 ≤ f ∧ f ≤ 255) (ha : 1 ≤ all ∧ all ≤ 24) (h : rightE 4 f o a0 a1 = true) (w : World) (hL : LaidS w) :
    Calls Tryz.prog 16 #[.agg C, .int .i64 all] w fun e w' => e = .returned (.tuple #[fV (awardF a0 all), fV (awardF a1 all), .int .i64 0]) ∧ Below w.heap.size w w' := by
  have HI := Lib.hid hC.size
  have HQ := Lib.hid (fun W hW => eright_any C 4 f a0 a1 o hC ho hf (by decide) W hW)
  rw [h] at HQ
  have HL := Lib.hid hL
  have d4 := hC.2.1
  have d31 := hC.2.2.2.1
  have d32 := hC.2.2.2.2.1
  have hsh : shareB a0 = true ∧ shareB a1 = true := by
    unfold rightE at h
    have h := (Bool.and_eq_true_iff.1 h).2
    have h : awardB o a0 a1 = true := h
    unfold awardB at h
    have h := (Bool.and_eq_true_iff.1 h).1
    exact Bool.and_eq_true_iff.1 h
  have HS1 : Hid (∀ W : World, Calls Tryz.prog 29 #[.int .i64 a0, .int .i64 all] W fun e w' => e = .returned (.tuple #[fV (awardF a0 all), .int .i64 0]) ∧ Below W.heap.size W w') := Lib.hid (fun W => nshare a0 all W (share_bd hsh.1) ha)
  have HS2 : Hid (∀ W : World, Calls Tryz.prog 29 #[.int .i64 a1, .int .i64 all] W fun e w' => e = .returned (.tuple #[fV (awardF a1 all), .int .i64 0]) ∧ Below W.heap.size W w') := Lib.hid (fun W => nshare a1 all W (share_bd hsh.2) ha)
  obtain ⟨ha1, ha2⟩ := ha
  have ha1' : ¬ all < 1 := by omega
  have ha2' : ¬ 24 < all := by omega
  generalize awardF a0 all = mp at HS1 ⊢
  generalize awardF a1 all = mr at HS2 ⊢
  obtain ⟨m1, m2⟩ := mp
  obtain ⟨m3, m4⟩ := mr
  unfold fV at *
  dsimp only at HS1 HS2 ⊢
  clear hC ho hL h hf hsh
  go_enter Tryz.func16, Tryz.ntmps16
  go_upto_region 1 with fail
  obtain ⟨W1, hW1⟩ : ∃ W1, ((w.alloc (.cells C 51)).alloc (.cells #[.int .i64 0, .int .i64 0] 36)).alloc (.cells #[.int .i64 0, .int .i64 0] 36) = W1 := ⟨_, rfl⟩
  obtain ⟨g, hg⟩ : ∃ g, w.heap.size = g := ⟨_, rfl⟩
  have k1 : W1.heap[g]? = some (.cells C 51) := by rw [← hW1]; exact blk_alloc (blk_alloc (blk_new _ hg.symm) _) _
  have k2 : W1.heap[g + 1]? = some (.cells #[.int .i64 0, .int .i64 0] 36) := by rw [← hW1]; exact blk_alloc (blk_new _ (by simp; omega)) _
  have k3 : W1.heap[g + 2]? = some (.cells #[.int .i64 0, .int .i64 0] 36) := by rw [← hW1]; exact blk_new _ (by simp; omega)
  have hB1 : Below w.heap.size w W1 := by rw [← hW1]; exact (by repeat (first | exact Below.refl _ _ | assumption | refine Below.drew ?_ | refine below_drewN ?_ _ | refine Below.alloc ?_ (by first | omega | (simp; done) | (simp; omega)) _ | refine Below.setCell ?_ (by first | omega | (simp; done) | (simp; omega)) _))
  rw [hW1, hg]
  have HG := Lib.hid hg
  have HK := Lib.hid k1
  have HK2 := Lib.hid k2
  have HK3 := Lib.hid k3
  have g3 := blk_lt k3
  clear hW1 k1 k2 k3 hg
  go_wp2_with (refine wpList_load_row_w (by rfl) 51 (.tmp 2) rfl g rfl 51 C _ _ HK.out Tryz.underlying51 rfl HI.out ?_)
  refine (HQ.out _ (HL.out.go hB1)).mono ?_
  rintro ee w2 ⟨rfl, hb2⟩
  have hB2 := below_via hB1 hb2
  have s2 := hb2.size
  have hb12 := hb2
  have HK0 := Lib.hid (blk_below HK.out hb2 (by omega))
  have lg2 := blk_lt HK0.out
  have e4 := (blk_cell HK0.out 4).trans d4
  have e31 := (blk_cell HK0.out 31).trans d31
  clear HQ HK d4 d31
  go_wp2_with fail
  refine (HS1.out _).mono ?_
  rintro ee w3 ⟨rfl, hb3⟩
  have hB3 := below_via hB2 hb3
  have hb13 := hb2.trans (hb3.mono s2)
  have k03 := blk_below HK0.out hb3 lg2
  clear hb3 hB2 HK0 e4 e31
  go_upto_region 6 with fail
  obtain ⟨W4, hW4⟩ : ∃ W4, w3.alloc (.cells #[.int .i64 m1, .int .i64 m2] 36) = W4 := ⟨_, rfl⟩
  obtain ⟨G, hG⟩ : ∃ G, w3.heap.size = G := ⟨_, rfl⟩
  have n4 : W4.heap[G]? = some (.cells #[.int .i64 m1, .int .i64 m2] 36) := by rw [← hW4]; exact blk_new _ hG.symm
  have hB4 : Below w.heap.size w W4 := by rw [← hW4]; exact hB3.alloc hB3.size _
  have hb14 : Below W1.heap.size W1 W4 := by rw [← hW4]; exact hb13.alloc hb13.size _
  have k04 : W4.heap[g]? = some (.cells C 51) := by rw [← hW4]; exact blk_alloc k03 _
  have e32 := (blk_cell k04 32).trans d32
  have lG : g + 2 < G := by rw [← hG]; have := hb13.size; omega
  rw [hW4, hG]
  have HN4 := Lib.hid n4
  clear hW4 hG n4 k03 hB3 hb13
  go_wp2_with fail
  refine (HS2.out _).mono ?_
  rintro ee w5 ⟨rfl, hb5⟩
  have hB5 := below_via hB4 hb5
  have hb15 := hb14.trans (hb5.mono hb14.size)
  have HN5 := Lib.hid (blk_below HN4.out hb5 (blk_lt HN4.out))
  clear e32 k04 d32 hb5 hB4 hb14 HN4
  go_upto_region 9 with fail
  obtain ⟨W6, hW6⟩ : ∃ W6, w5.alloc (.cells #[.int .i64 m3, .int .i64 m4] 36) = W6 := ⟨_, rfl⟩
  obtain ⟨H, hH⟩ : ∃ H, w5.heap.size = H := ⟨_, rfl⟩
  have n6 : W6.heap[H]? = some (.cells #[.int .i64 m3, .int .i64 m4] 36) := by rw [← hW6]; exact blk_new _ hH.symm
  have n5 : W6.heap[G]? = some (.cells #[.int .i64 m1, .int .i64 m2] 36) := by rw [← hW6]; exact blk_alloc HN5.out _
  have hB6 : Below w.heap.size w W6 := by rw [← hW6]; exact hB5.alloc hB5.size _
  have hb16 : Below W1.heap.size W1 W6 := by rw [← hW6]; exact hb15.alloc hb15.size _
  have lH : G < H := by rw [← hH]; exact blk_lt HN5.out
  rw [hW6, hH]
  have k2 := blk_below HK2.out hb16 (by omega)
  have k3 := blk_below HK3.out hb16 g3
  clear hW6 hH HN5 hB5 hb15
  have k3 : W6.heap[g + 1 + 1]? = some (.cells #[.int .i64 0, .int .i64 0] 36) := k3
  have p2 := blk_far (blk_far (blk_set (blk_set k2 0 (.int .i64 m1)) 1 (.int .i64 m2)) (p := ⟨g + 1 + 1, 0, none⟩) (by simp) (.int .i64 m3)) (p := ⟨g + 1 + 1, 1, none⟩) (by simp) (.int .i64 m4)
  have p3 := blk_set (blk_set (blk_far (blk_far k3 (p := ⟨g + 1, 0, none⟩) (by simp) (.int .i64 m1)) (p := ⟨g + 1, 1, none⟩) (by simp) (.int .i64 m2)) 0 (.int .i64 m3)) 1 (.int .i64 m4)
  have hgw : w.heap.size ≤ g := Nat.le_of_eq HG.out
  have hz := (((hB6.setCell (p := ⟨g + 1, 0, none⟩) (Nat.le_succ_of_le hgw) (.int .i64 m1)).setCell (p := ⟨g + 1, 1, none⟩) (Nat.le_succ_of_le hgw) (.int .i64 m2)).setCell (p := ⟨g + 1 + 1, 0, none⟩) (Nat.le_succ_of_le (Nat.le_succ_of_le hgw)) (.int .i64 m3)).setCell (p := ⟨g + 1 + 1, 1, none⟩) (Nat.le_succ_of_le (Nat.le_succ_of_le hgw)) (.int .i64 m4)
  have D := Lib.hid (And.intro (blk_cell p2 0) (And.intro (blk_cell p2 1) (And.intro (blk_cell p3 0) (And.intro (blk_cell p3 1) hz))))
  have q0 := blk_cell n5 0
  have q1 := blk_cell n5 1
  have q2 := blk_cell n6 0
  have q3 := blk_cell n6 1
  have u0 := blk_cell k2 0
  have u1 := blk_cell k2 1
  have u2 := blk_cell k3 0
  have u3 := blk_cell k3 1
  have f0 := blk_free k2 0
  have f1 := blk_free k2 1
  have f2 := blk_free k3 0
  have f3 := blk_free k3 1
  have n1' : ¬ G = g + 1 := by omega
  have n2' : ¬ H = g + 1 := by omega
  have n3' : ¬ G = g + 1 + 1 := by omega
  have n4' : ¬ H = g + 1 + 1 := by omega
  have m1' : ¬ g + 1 = G := by omega
  have m2' : ¬ g + 1 = H := by omega
  have m3' : ¬ g + 1 + 1 = G := by omega
  have m4' : ¬ g + 1 + 1 = H := by omega
  clear p2 p3 hz n5 n6 k2 k3
  go_upto_region 11 with fail
  go_region
  all_goals go_wp2

  all_goals exact bodyPost_ret (v := .tuple #[.agg #[.int .i64 m1, .int .i64 m2], .agg #[.int .i64 m3, .int .i64 m4], .int .i64 0]) (by simp [results, Tryz.results16, go_sem, D.out.1, D.out.2.1, D.out.2.2.1, D.out.2.2.2.1]) rfl ⟨rfl, D.out.2.2.2.2.drew⟩

end Go.Proofs.YtchklobblkddhaaGreatDoor
