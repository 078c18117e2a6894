/- What Made of layer 22's statements makes is right, in plain Lean. -/
import Derived.Test.YtchklobblkddhaaDoorAdjAwardsW
namespace Go.Proofs.YtchklobblkddhaaDoor
open Go.RowKit

theorem leftM_last (v : Nat → Int) (n : Nat) (hn : 1 ≤ n) : leftM v n n = 0 := by
  obtain ⟨m, rfl⟩ : ∃ m, n = m + 1 := ⟨n - 1, by omega⟩
  rw [leftM_succ]
  unfold wgtM
  rw [if_neg (by omega)]
  omega
theorem wgh_at (x : SmE) (n i : Nat) (h : i < n) : wghO x n n i = { outO (x.b i) (x.t i) with w := wgtM x.v n i } := if_pos h
theorem wgh_off (x : SmE) (n i : Nat) (h : n ≤ i) : wghO x n n i = zO := if_neg (by omega)
theorem nM_bd (x : SmE) (hx : x.Ok) : 2 ≤ nM x ∧ nM x ≤ 4 := by
  have := (hx.2.2.2.2.2 0)
  unfold nM; omega
theorem wgh_sum (x : SmE) (n j : Nat) (h : j ≤ n) : wSum (wghO x n n) j = 100 - leftM x.v n j := by
  induction j with
  | zero => rfl
  | succ j ih =>
    show wSum (wghO x n n) j + (wghO x n n j).w = _
    rw [ih (by omega), wgh_at x n j (by omega), leftM_succ]
    show 100 - leftM x.v n j + wgtM x.v n j = _
    omega
theorem wgh_parts (x : SmE) (n : Nat) (hn : n ≤ 4) (j : Nat) (h : j ≤ n) : partsTo (wghO x n n) j = j := by
  induction j with
  | zero => rfl
  | succ j ih =>
    refine parts_next _ j (ih (by omega)) ?_
    rw [wgh_at x n j (by omega)]
    have := wgtM_bd x.v n hn j (by omega)
    show wgtM x.v n j ≠ 0
    omega
theorem wgh_partsN (x : SmE) (n : Nat) (hn : n ≤ 4) : partsN (wghO x n n) = n := by
  have h := parts_stop (wghO x n n) n (wgh_parts x n hn n (Nat.le_refl _)) (by rw [wgh_off x n n (Nat.le_refl _)]; rfl) (4 - n)
  rw [show n + (4 - n) = 4 by omega] at h
  exact h
theorem madeO_ok (x : SmE) (hx : x.Ok) : ∀ i, i < 4 → OcOk (madeO x i) := by
  intro i hi
  have hn := nM_bd x hx
  unfold madeO
  split
  · unfold upd; split
    · exact outO_ok _ _
    · exact ex0_ok i hi
  · split
    · unfold upd; split
      · exact outO_ok _ _
      · split
        · exact outO_ok _ _
        · exact ex0_ok i hi
    · split
      · by_cases h : i < nM x
        · rw [wgh_at _ _ _ h]
          have h1 := outO_ok (x.b i) (x.t i)
          have h2 := wgtM_bd x.v (nM x) hn.2 i h
          exact ⟨h1.1, h1.2.1, h1.2.2.1, h1.2.2.2.1, h1.2.2.2.2.1, by show -9223372036854775808 ≤ wgtM x.v (nM x) i ∧ wgtM x.v (nM x) i ≤ 9223372036854775807; omega⟩
        · rw [wgh_off _ _ _ (by omega)]
          exact ex0_ok 3 (by decide)
      · exact ex0_ok i hi
theorem ex0_z (i : Nat) : zB (ex0 i) = true := by
  match i with
  | 0 => decide
  | 1 => decide
  | n + 2 => exact (show zB zO = true by decide)
theorem whole_out22 (b t : Int) : wholeB (outO b t) = true := by
  unfold wholeB
  rw [outO_out, outO_w]; rfl
theorem made_right22 (x : SmE) (hx : x.Ok) : rightE (x.k % 5) (x.f % 4) (madeO x) (madeA0 x) (madeA1 x) = true := by
  have hf : x.f % 4 ≤ 3 := by have := hx.2.1; omega
  have hn := nM_bd x hx
  have hk0 := hx.1
  have h : x.k % 5 = 0 ∨ x.k % 5 = 1 ∨ x.k % 5 = 2 ∨ x.k % 5 = 3 ∨ x.k % 5 = 4 := by omega
  unfold rightE madeO madeA0 madeA1
  rw [decide_eq_true hf, Bool.true_and]
  rcases h with h | h | h | h | h
  · rw [h]
    show voidB ex0 0 0 = true
    decide
  · rw [h]
    show playedB (upd ex0 0 (outO (x.b 0) (x.t 0))) 0 0 = true
    unfold playedB
    rw [show upd ex0 0 (outO (x.b 0) (x.t 0)) 0 = outO (x.b 0) (x.t 0) from if_pos rfl, whole_out22, (restB_iff _ 1).2 (fun i _ h1 => by rw [show upd ex0 0 (outO (x.b 0) (x.t 0)) i = ex0 i from if_neg (by omega)]; exact ex0_z i)]
    rfl
  · rw [h]
    show weightedB (wghO x (nM x) (nM x)) 0 0 = true
    unfold weightedB
    rw [wgh_partsN x (nM x) hn.2, wgh_sum x (nM x) (nM x) (Nat.le_refl _), leftM_last x.v (nM x) (by omega)]
    rw [(allW_iff _ _).2 (fun i hi => by
      rw [wgh_at x (nM x) i hi]
      have h2 := wgtM_bd x.v (nM x) hn.2 i hi
      unfold okW
      rw [show outB { outO (x.b i) (x.t i) with w := wgtM x.v (nM x) i } = true from outO_out (x.b i) (x.t i)]
      show (true && decide (1 ≤ wgtM x.v (nM x) i) && decide (wgtM x.v (nM x) i ≤ 100)) = true
      rw [decide_eq_true h2.1, decide_eq_true h2.2]; rfl)]
    rw [(restB_iff _ (nM x)).2 (fun i _ h1 => by rw [wgh_off x (nM x) i h1]; decide), decide_eq_true hn.1]
    rfl
  · rw [h]
    show splitB (upd (upd ex0 0 (outO (x.b 0) (x.t 0))) 1 (outO (x.b 1) (x.t 1))) 0 0 = true
    unfold splitB
    rw [show upd (upd ex0 0 (outO (x.b 0) (x.t 0))) 1 (outO (x.b 1) (x.t 1)) 0 = outO (x.b 0) (x.t 0) from rfl,
      show upd (upd ex0 0 (outO (x.b 0) (x.t 0))) 1 (outO (x.b 1) (x.t 1)) 1 = outO (x.b 1) (x.t 1) from rfl, whole_out22, whole_out22,
      (restB_iff _ 2).2 (fun i _ h1 => by rw [show upd (upd ex0 0 (outO (x.b 0) (x.t 0))) 1 (outO (x.b 1) (x.t 1)) i = upd ex0 0 (outO (x.b 0) (x.t 0)) i from if_neg (by omega), show upd ex0 0 (outO (x.b 0) (x.t 0)) i = ex0 i from if_neg (by omega)]; exact ex0_z i)]
    rfl
  · rw [h]
    show awardB ex0 (awT (x.a % 7)) (awT (x.a / 7 % 7)) = true
    unfold awardB
    rw [awT_share, awT_share]; decide

end Go.Proofs.YtchklobblkddhaaDoor
