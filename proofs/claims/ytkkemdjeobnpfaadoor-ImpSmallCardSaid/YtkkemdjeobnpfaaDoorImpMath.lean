/- The plain mathematics of match points: the scale, the match points of a difference, swings, sums. No program stands in this text. -/
import Derived.Below
namespace Go.Proofs.YtkkemdjeobnpfaaDoor

def scaleL : List Int := [20, 50, 90, 130, 170, 220, 270, 320, 370, 430, 500, 600, 750, 900, 1100, 1300, 1500, 1750, 2000, 2250, 2500, 3000, 3500, 4000]
def stepsL : List Int := [20, 30, 40, 40, 40, 50, 50, 50, 50, 60, 70, 100, 150, 150, 200, 200, 200, 250, 250, 250, 250, 500, 500, 500]

/-- What one number of the scale adds to the match points of d. -/
def impOne (d s : Int) : Int := (if s ≤ d then 1 else 0) - (if d ≤ -s then 1 else 0)
def impUpto (d : Int) (k : Nat) : Int := ((scaleL.take k).map (impOne d)).sum
def impV (d : Int) : Int := impUpto d 24

theorem scale_len : scaleL.length = 24 := rfl
theorem scale_bd (j : Nat) (h : j < 24) : 20 ≤ scaleL.getD j 0 ∧ scaleL.getD j 0 ≤ 4000 := by
  have : ∀ j : Fin 24, 20 ≤ scaleL.getD j.1 0 ∧ scaleL.getD j.1 0 ≤ 4000 := by decide
  exact this ⟨j, h⟩
theorem impUpto_succ (d : Int) (j : Nat) (h : j < 24) : impUpto d (j + 1) = impUpto d j + impOne d (scaleL.getD j 0) := by
  unfold impUpto
  have hl : j < scaleL.length := h
  rw [List.take_succ_eq_append_getElem hl, List.map_append, List.sum_append]
  simp [List.getD, List.getElem?_eq_getElem hl]
theorem impUpto_bd (d : Int) (j : Nat) (h : j ≤ 24) : -j ≤ impUpto d j ∧ impUpto d j ≤ j := by
  induction j with
  | zero => simp [impUpto]
  | succ j ih =>
    have := ih (by omega)
    rw [impUpto_succ d j (by omega)]
    unfold impOne
    split <;> split <;> omega
theorem imp_bd (d : Int) : -24 ≤ impV d ∧ impV d ≤ 24 := impUpto_bd d 24 (by omega)

theorem scale_mono (i j : Nat) (h : i ≤ j) (hj : j < 24) : scaleL.getD i 0 ≤ scaleL.getD j 0 := by
  have : ∀ j : Fin 24, ∀ i : Fin 24, i.1 ≤ j.1 → scaleL.getD i 0 ≤ scaleL.getD j.1 0 := by decide
  exact this ⟨j, hj⟩ ⟨i, by omega⟩ h
theorem imp_count (d : Int) (k : Nat) (h0 : 0 ≤ d) (hk : k ≤ 24) (h1 : ∀ j, j < k → scaleL.getD j 0 ≤ d) (h2 : k < 24 → d < scaleL.getD k 0) : impV d = k := by
  have key : ∀ m, m ≤ 24 → impUpto d m = (min m k : Nat) := by
    intro m
    induction m with
    | zero => intro _; simp [impUpto]
    | succ m ih =>
      intro hm
      rw [impUpto_succ d m (by omega), ih (by omega)]
      have hb := scale_bd m (by omega)
      by_cases hmk : m < k
      · have := h1 m hmk
        rw [impOne, if_pos this, if_neg (by omega)]; omega
      · have := h2 (by omega)
        have := scale_mono k m (by omega) (by omega)
        rw [impOne, if_neg (by omega), if_neg (by omega)]; omega
  rw [impV, key 24 (by omega)]
  omega
theorem impUpto_neg (d : Int) (k : Nat) (hk : k ≤ 24) : impUpto (-d) k = -impUpto d k := by
  induction k with
  | zero => simp [impUpto]
  | succ k ih =>
    rw [impUpto_succ _ k (by omega), impUpto_succ d k (by omega), ih (by omega)]
    unfold impOne
    omega
theorem imp_neg (d : Int) : impV (-d) = -impV d := impUpto_neg d 24 (by omega)
theorem imp_low (d : Int) (h : d ≤ -4000) : impV d = -24 := by
  have key : ∀ m, m ≤ 24 → impUpto d m = -(m : Int) := by
    intro m
    induction m with
    | zero => intro _; simp [impUpto]
    | succ m ih =>
      intro hm
      rw [impUpto_succ d m (by omega), ih (by omega)]
      have hb := scale_bd m (by omega)
      rw [impOne, if_neg (by omega), if_pos (by omega)]; omega
  exact key 24 (by omega)
theorem impUpto_mono (d e : Int) (h : d ≤ e) (k : Nat) (hk : k ≤ 24) : impUpto d k ≤ impUpto e k := by
  induction k with
  | zero => simp [impUpto]
  | succ k ih =>
    rw [impUpto_succ _ k (by omega), impUpto_succ _ k (by omega)]
    have := ih (by omega)
    unfold impOne
    omega
theorem imp_mono (d e : Int) (h : d ≤ e) : impV d ≤ impV e := impUpto_mono d e h 24 (by omega)
/-- The number of match points of a difference from 0 on, as a place in the scale. -/
theorem imp_place (d : Int) (h : 0 ≤ d) : ∃ k : Nat, k ≤ 24 ∧ impV d = k ∧ (∀ j, j < k → scaleL.getD j 0 ≤ d) ∧ (k < 24 → d < scaleL.getD k 0) := by
  have key : ∀ n, n ≤ 24 → ∃ k, k ≤ n ∧ (∀ j, j < k → scaleL.getD j 0 ≤ d) ∧ (k < n → d < scaleL.getD k 0) := by
    intro n
    induction n with
    | zero => intro _; exact ⟨0, by omega, fun j hj => by omega, fun h => by omega⟩
    | succ n ih =>
      intro hn
      obtain ⟨k, h1, h2, h3⟩ := ih (by omega)
      by_cases hk : k < n
      · exact ⟨k, by omega, h2, fun _ => h3 hk⟩
      · obtain rfl : k = n := by omega
        by_cases hd : scaleL.getD k 0 ≤ d
        · exact ⟨k + 1, by omega, fun j hj => (by
            by_cases e : j = k
            · rw [e]; exact hd
            · exact h2 j (by omega)), fun h => by omega⟩
        · exact ⟨k, by omega, h2, fun _ => by omega⟩
  obtain ⟨k, h1, h2, h3⟩ := key 24 (by omega)
  exact ⟨k, h1, imp_count d k h h1 h2 h3, h2, h3⟩

/-- imp.Least, value and error. -/
def leastV (n : Int) : Int := if n < 0 ∨ 24 < n ∨ n = 0 then 0 else scaleL.getD (n - 1).toNat 0
def leastE (n : Int) : Int := if n < 0 ∨ 24 < n then 2 else 0
/-- A score that somebody can have. -/
def okScore (x : Int) : Prop := -7600 ≤ x ∧ x ≤ 7600
instance (x : Int) : Decidable (okScore x) := inferInstanceAs (Decidable (_ ∧ _))
/-- Swing, value and error. -/
def swingV (o c : Int) : Int := if okScore o ∧ okScore c then impV (o - c) else 0
def swingE (o c : Int) : Int := if okScore o ∧ okScore c then 0 else 190
theorem swingV_bd (o c : Int) : -24 ≤ swingV o c ∧ swingV o c ≤ 24 := by
  unfold swingV
  split
  · exact imp_bd _
  · omega

/-! ### Matches -/
def swingOf (b : Int × Int) : Int := swingV b.1 b.2
/-- What the first team wins, and the other one, in the first k boards. -/
def wonUpto (l : List (Int × Int)) (k : Nat) : Int := ((l.take k).map fun b => max (swingOf b) 0).sum
def lostUpto (l : List (Int × Int)) (k : Nat) : Int := ((l.take k).map fun b => max (-swingOf b) 0).sum
def runUpto (l : List (Int × Int)) (k : Nat) : Int := ((l.take k).map swingOf).sum
def okB (b : Int × Int) : Prop := okScore b.1 ∧ okScore b.2
instance (b : Int × Int) : Decidable (okB b) := inferInstanceAs (Decidable (_ ∧ _))
theorem swing_ok {b : Int × Int} (h : okB b) : swingE b.1 b.2 = 0 := if_pos h
theorem swing_bad {b : Int × Int} (h : ¬ okB b) : swingE b.1 b.2 = 190 := if_neg h
def okAll (l : List (Int × Int)) : Prop := ∀ b ∈ l, okB b
instance (l : List (Int × Int)) : Decidable (okAll l) := inferInstanceAs (Decidable (∀ b ∈ l, okB b))
/-- The error of Match and Running. -/
def matchE (l : List (Int × Int)) : Int := if 128 < l.length then 5 else if okAll l then 0 else 190
def wonV (l : List (Int × Int)) : Int := if matchE l = 0 then wonUpto l l.length else 0
def lostV (l : List (Int × Int)) : Int := if matchE l = 0 then lostUpto l l.length else 0
/-- The running sums. -/
def runL (l : List (Int × Int)) (k : Nat) : List Int := (List.range k).map fun i => runUpto l (i + 1)
def runV (l : List (Int × Int)) : List Int := if matchE l = 0 then runL l l.length else []

theorem okAll_of {l : List (Int × Int)} (h : ∀ j (h : j < l.length), j < l.length → okB l[j]) : okAll l := fun b hb => by
  obtain ⟨j, hj, rfl⟩ := List.getElem_of_mem hb
  exact h j hj hj
theorem matchE_ok {l : List (Int × Int)} (h1 : ¬ 128 < l.length) (h2 : okAll l) : matchE l = 0 := by rw [matchE, if_neg h1, if_pos h2]
theorem matchE_bad {l : List (Int × Int)} (h1 : ¬ 128 < l.length) (k : Nat) (hk : k < l.length) (h2 : ¬ okB l[k]) : matchE l = 190 := by
  rw [matchE, if_neg h1, if_neg (fun h => h2 (h _ (List.getElem_mem hk)))]

theorem sum_take_succ {α : Type} (l : List α) (f : α → Int) (k : Nat) (h : k < l.length) : ((l.take (k + 1)).map f).sum = ((l.take k).map f).sum + f l[k] := by
  rw [List.take_succ_eq_append_getElem h, List.map_append, List.sum_append]; simp
theorem wonUpto_succ (l : List (Int × Int)) (k : Nat) (h : k < l.length) : wonUpto l (k + 1) = wonUpto l k + max (swingOf l[k]) 0 := sum_take_succ _ _ _ h
theorem lostUpto_succ (l : List (Int × Int)) (k : Nat) (h : k < l.length) : lostUpto l (k + 1) = lostUpto l k + max (-swingOf l[k]) 0 := sum_take_succ _ _ _ h
theorem runUpto_succ (l : List (Int × Int)) (k : Nat) (h : k < l.length) : runUpto l (k + 1) = runUpto l k + swingOf l[k] := sum_take_succ _ _ _ h
theorem runL_succ (l : List (Int × Int)) (k : Nat) : runL l (k + 1) = runL l k ++ [runUpto l (k + 1)] := by
  unfold runL; rw [List.range_succ, List.map_append]; rfl
theorem runL_len (l : List (Int × Int)) (k : Nat) : (runL l k).length = k := by simp [runL]
theorem upto_bd (l : List (Int × Int)) (k : Nat) (h : k ≤ l.length) : 0 ≤ wonUpto l k ∧ wonUpto l k ≤ 24 * k ∧ 0 ≤ lostUpto l k ∧ lostUpto l k ≤ 24 * k ∧ runUpto l k = wonUpto l k - lostUpto l k := by
  induction k with
  | zero => simp [wonUpto, lostUpto, runUpto]
  | succ k ih =>
    have := ih (by omega)
    have hb := swingV_bd (l[k]'(by omega)).1 (l[k]'(by omega)).2
    rw [wonUpto_succ l k (by omega), lostUpto_succ l k (by omega), runUpto_succ l k (by omega)]
    unfold swingOf
    omega

end Go.Proofs.YtkkemdjeobnpfaaDoor
