/- Plain laws of matchpoints: a part split into two, in another order. No program stands in this text. -/
import Derived.Test.YteemknjnlocgpaaDoorMatLaw
namespace Go.Proofs.YteemknjnlocgpaaDoor

/-- The parts of a but the q-th one, from the last one down, j of them. -/
def spTo (a : List Pt) (q : Nat) : Nat → List Pt
  | 0 => []
  | j + 1 => spTo a q j ++ (if a.length - 1 - j = q then [] else [a.getD (a.length - 1 - j) (0, 0)])
theorem sp_sum (a : List Pt) (q : Nat) (hq : q < a.length) (f : Pt → Int) (j : Nat) (hj : j ≤ a.length) :
    sumF (spTo a q j) f = sumF a f - sumTo a f (a.length - j) - (if a.length - j ≤ q then f a[q] else 0) := by
  induction j with
  | zero =>
    rw [if_neg (by omega), Nat.sub_zero, sumTo_all]; simp [spTo, sumF]
  | succ j ih =>
    have hs := sumTo_succ a f (a.length - (j + 1)) (by omega)
    rw [show a.length - (j + 1) + 1 = a.length - j by omega] at hs
    unfold spTo
    rw [sumF_app, ih (by omega), hs]
    have e : a.length - 1 - j = a.length - (j + 1) := by omega
    by_cases h : a.length - 1 - j = q
    · subst h
      rw [if_pos rfl, if_neg (by omega), if_pos (by omega)]
      simp only [sumF_nil]
      have : a[a.length - 1 - j] = a[a.length - (j + 1)]'(by omega) := by congr 1
      rw [this]; omega
    · rw [if_neg h]
      have hg : a.getD (a.length - 1 - j) (0, 0) = a[a.length - (j + 1)]'(by omega) := by
        rw [List.getD_eq_getElem?_getD, List.getElem?_eq_getElem (by omega)]; simp only [Option.getD_some]; congr 1
      rw [hg, sumF_cons, sumF_nil]
      by_cases h2 : a.length - j ≤ q
      · rw [if_pos h2, if_pos (by omega)]; omega
      · rw [if_neg h2, if_neg (by omega)]; omega
theorem sp_all (a : List Pt) (q : Nat) (hq : q < a.length) (f : Pt → Int) : sumF (spTo a q a.length) f = sumF a f - f a[q] := by
  rw [sp_sum a q hq f a.length (Nat.le_refl _), Nat.sub_self, if_pos (by omega)]
  simp [sumTo]
theorem sp_mem (a : List Pt) (q j : Nat) (hj : j ≤ a.length) : ∀ p ∈ spTo a q j, p ∈ a := by
  induction j with
  | zero => intro p hp; simp [spTo] at hp
  | succ j ih =>
    intro p hp
    unfold spTo at hp
    rcases List.mem_append.1 hp with hp | hp
    · exact ih (by omega) p hp
    · split at hp
      · simp at hp
      · rw [List.getD_eq_getElem?_getD, List.getElem?_eq_getElem (by omega)] at hp
        simp at hp
        rw [hp]; exact List.getElem_mem _
theorem sp_len (a : List Pt) (q j : Nat) (hj : j ≤ a.length) (hq : q < a.length) : (spTo a q j).length = j - (if a.length - j ≤ q then 1 else 0) := by
  induction j with
  | zero => simp [spTo]
  | succ j ih =>
    unfold spTo
    rw [List.length_append, ih (by omega)]
    by_cases h : a.length - 1 - j = q
    · rw [if_pos h, if_neg (show ¬ a.length - j ≤ q by omega), if_pos (show a.length - (j + 1) ≤ q by omega)]; simp
    · rw [if_neg h]
      by_cases h2 : a.length - j ≤ q
      · rw [if_pos h2, if_pos (show a.length - (j + 1) ≤ q by omega)]; simp; omega
      · rw [if_neg h2, if_neg (show ¬ a.length - (j + 1) ≤ q by omega)]; simp
/-- A part split into two. -/
def splitL (a : List Pt) (q : Nat) (x y w : Int) : List Pt := ((x, y - w) :: spTo a q a.length) ++ [(x, w)]
theorem split_sum (a : List Pt) (q : Nat) (hq : q < a.length) (x y w : Int) (h : a[q] = (x, y)) (g : Int → Int) : sumF (splitL a q x y w) (fun p => p.2 * g p.1) = sumF a (fun p => p.2 * g p.1) := by
  unfold splitL
  rw [sumF_app, sumF_cons, sp_all a q hq, h, sumF_cons, sumF_nil]
  show (y - w) * g x + (sumF a (fun p => p.2 * g p.1) - y * g x) + (w * g x + 0) = _
  rw [Int.sub_mul]; omega
theorem split_right (a : List Pt) (q : Nat) (hq : q < a.length) (x y w : Int) (h : a[q] = (x, y)) (ha : rightM a = true) (h3 : a.length ≤ 3) (hw : 1 ≤ w ∧ w ≤ y - 1) : rightM (splitL a q x y w) = true := by
  have hri := (rightM_iff a).1 ha
  have hp := (okPt_iff a[q]).1 (hri.2.2.1 _ (List.getElem_mem hq))
  rw [h] at hp
  have hp1 : 1 ≤ y ∧ y ≤ 100 := hp.1
  have hp2 : -10000 ≤ x ∧ x ≤ 10000 := hp.2
  rw [rightM_iff]
  refine ⟨by unfold splitL; simp, ?_, ?_, ?_⟩
  · unfold splitL
    rw [List.length_append, List.length_cons, sp_len a q _ (Nat.le_refl _) hq, if_pos (by omega)]; simp; omega
  · intro p hp
    unfold splitL at hp
    rcases List.mem_append.1 hp with hp | hp
    · rcases List.mem_cons.1 hp with rfl | hp
      · rw [okPt_iff]; exact ⟨by show 1 ≤ y - w ∧ y - w ≤ 100; omega, hp2⟩
      · exact hri.2.2.1 p (sp_mem a q _ (Nat.le_refl _) p hp)
    · obtain rfl : p = (x, w) := by simpa using hp
      rw [okPt_iff]; exact ⟨by show 1 ≤ w ∧ w ≤ 100; omega, hp2⟩
  · have := split_sum a q hq x y w h (fun _ => 1)
    unfold sumW
    rw [sumF_congr _ (fun p => p.2) (fun p => p.2 * 1) (fun p _ => by omega), this, sumF_congr _ (fun p => p.2 * 1) (fun p => p.2) (fun p _ => by omega)]
    exact hri.2.2.2
theorem split_left (a b : List Pt) (q : Nat) (hq : q < a.length) (x y w : Int) (h : a[q] = (x, y)) : gAB (splitL a q x y w) b = gAB a b := split_sum a q hq x y w h fun p => gB p b
theorem split_other (a b : List Pt) (q : Nat) (hq : q < a.length) (x y w : Int) (h : a[q] = (x, y)) : gAB b (splitL a q x y w) = gAB b a := by
  unfold gAB
  exact sumF_congr b _ _ fun p _ => by
    show p.2 * gB p.1 (splitL a q x y w) = p.2 * gB p.1 a
    congr 1
    exact split_sum a q hq x y w h fun z => cmpG p.1 z

end Go.Proofs.YteemknjnlocgpaaDoor
