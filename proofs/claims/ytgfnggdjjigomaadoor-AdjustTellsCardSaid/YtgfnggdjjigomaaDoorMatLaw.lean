/- Plain laws of matchpoints: what two results get from each other is 2 together; the matchpoints are not less than 0. No program stands in this text. -/
import Derived.Test.YtgfnggdjjigomaaDoorMatMath
namespace Go.Proofs.YtgfnggdjjigomaaDoor

theorem cmpG_two (p q : Int) : cmpG p q + cmpG q p = 2 := by unfold cmpG; repeat' split <;> omega
theorem sumF_nil (f : Pt → Int) : sumF [] f = 0 := rfl
theorem sumF_cons (p : Pt) (l : List Pt) (f : Pt → Int) : sumF (p :: l) f = f p + sumF l f := by simp [sumF]
theorem sumF_app (l m : List Pt) (f : Pt → Int) : sumF (l ++ m) f = sumF l f + sumF m f := by simp [sumF]
theorem sumF_add (l : List Pt) (f g : Pt → Int) : sumF l (fun p => f p + g p) = sumF l f + sumF l g := by
  induction l with
  | nil => rfl
  | cons p l ih => rw [sumF_cons, sumF_cons, sumF_cons, ih]; omega
theorem sumF_mul (c : Int) (l : List Pt) (f : Pt → Int) : sumF l (fun p => c * f p) = c * sumF l f := by
  induction l with
  | nil => simp [sumF]
  | cons p l ih => rw [sumF_cons, sumF_cons, ih, Int.mul_add]
theorem sumF_mul_r (c : Int) (l : List Pt) (f : Pt → Int) : sumF l (fun p => f p * c) = sumF l f * c := by
  induction l with
  | nil => simp [sumF]
  | cons p l ih => rw [sumF_cons, sumF_cons, ih, Int.add_mul]
theorem sumF_congr (l : List Pt) (f g : Pt → Int) (h : ∀ p ∈ l, f p = g p) : sumF l f = sumF l g := by
  unfold sumF; rw [List.map_congr_left h]
theorem sumF_zero (l : List Pt) : sumF l (fun _ => 0) = 0 := by
  induction l with
  | nil => rfl
  | cons p l ih => rw [sumF_cons, ih]; rfl
theorem gB_cons (p : Int) (q : Pt) (b : List Pt) : gB p (q :: b) = q.2 * cmpG p q.1 + gB p b := sumF_cons _ _ _
theorem gAB_cons (p : Pt) (a b : List Pt) : gAB (p :: a) b = p.2 * gB p.1 b + gAB a b := sumF_cons _ _ _
theorem gAB_nil_r (a : List Pt) : gAB a [] = 0 := by
  unfold gAB; rw [sumF_congr a _ (fun _ => 0) (fun p _ => by show p.2 * gB p.1 [] = 0; simp [gB, sumF])]; exact sumF_zero a
theorem gAB_cons_r (a : List Pt) (q : Pt) (b : List Pt) : gAB a (q :: b) = sumF a (fun p => p.2 * (q.2 * cmpG p.1 q.1)) + gAB a b := by
  unfold gAB
  rw [← sumF_add]
  exact sumF_congr a _ _ fun p _ => by rw [gB_cons, Int.mul_add]
/-- What two results get from each other is 2 together. -/
theorem gAB_two (a b : List Pt) : gAB a b + gAB b a = 2 * (sumW a * sumW b) := by
  induction a with
  | nil => rw [gAB_nil_r]; simp [gAB, sumF, sumW]
  | cons p a ih =>
    rw [gAB_cons, gAB_cons_r]
    have e1 : sumF b (fun q => q.2 * (p.2 * cmpG q.1 p.1)) = p.2 * sumF b (fun q => q.2 * cmpG q.1 p.1) := by
      rw [← sumF_mul]; exact sumF_congr b _ _ fun q _ => by grind
    have e2 : p.2 * gB p.1 b + p.2 * sumF b (fun q => q.2 * cmpG q.1 p.1) = p.2 * (2 * sumW b) := by
      rw [← Int.mul_add]; congr 1
      unfold gB sumW
      rw [← sumF_add, ← sumF_mul]
      exact sumF_congr b _ _ fun q _ => by rw [← Int.mul_add, cmpG_two]; omega
    have e3 : sumW (p :: a) = p.2 + sumW a := sumF_cons _ _ _
    rw [e1, e3]
    have e4 : 2 * ((p.2 + sumW a) * sumW b) = p.2 * (2 * sumW b) + 2 * (sumW a * sumW b) := by grind
    omega
theorem gAB_right (a b : List Pt) (ha : rightM a = true) (hb : rightM b = true) : gAB a b + gAB b a = 20000 := by
  rw [gAB_two, ((rightM_iff a).1 ha).2.2.2, ((rightM_iff b).1 hb).2.2.2]; rfl
theorem gAB_self (a : List Pt) (ha : rightM a = true) : gAB a a = 10000 := by have := gAB_right a a ha ha; omega
theorem gAB_range (a b : List Pt) (ha : rightM a = true) (hb : rightM b = true) : 0 ≤ gAB a b ∧ gAB a b ≤ 20000 := by
  have h1 := gAB_bd a b ha hb
  have h2 := gAB_bd b a hb ha
  have := gAB_right a b ha hb
  omega
theorem gAll_cons (r o : List Pt) (L : List (List Pt)) : gAll r (o :: L) = gAB r o + gAll r L := by simp [gAll]
theorem gAll_app (r : List Pt) (L M : List (List Pt)) : gAll r (L ++ M) = gAll r L + gAll r M := by simp [gAll]
theorem gAll_nonneg (r : List Pt) (L : List (List Pt)) (hr : rightM r = true) (hL : ∀ o ∈ L, rightM o = true) : 0 ≤ gAll r L := by
  have := gAllTo_bd r L hr hL L.length (Nat.le_refl _)
  rw [gAllTo_all] at this; exact this.1
theorem gAll_mem (r : List Pt) (L : List (List Pt)) (hL : ∀ o ∈ L, rightM o = true) (h : r ∈ L) : 10000 ≤ gAll r L := by
  have hr := hL r h
  obtain ⟨L1, L2, rfl⟩ := List.append_of_mem h
  rw [gAll_app, gAll_cons, gAB_self r hr]
  have h1 := gAll_nonneg r L1 hr (fun o ho => hL o (by simp [ho]))
  have h2 := gAll_nonneg r L2 hr (fun o ho => hL o (by simp [ho]))
  omega
theorem gAll_le (r : List Pt) (L : List (List Pt)) (hr : rightM r = true) (hL : ∀ o ∈ L, rightM o = true) : gAll r L ≤ 20000 * L.length := by
  induction L with
  | nil => simp [gAll]
  | cons o L ih =>
    have := ih fun x hx => hL x (by simp [hx])
    have := gAB_range r o hr (hL o (by simp))
    rw [gAll_cons, List.length_cons]; omega

end Go.Proofs.YtgfnggdjjigomaaDoor
