/- The plain laws of FoulSums: what all entries of a board get, over one denominator. -/
import Derived.Test.YtchklobblkddhaaGreatDoorFouDemW
import Derived.Test.YtchklobblkddhaaGreatDoorFouApL
namespace Go.Proofs.YtchklobblkddhaaGreatDoor
open Go.RowKit

/-! ### The results of a field, by a filter -/
theorem inField_pos (L : List Ent) (i : Nat) (h : i < L.length) (hc : cmpB L[i] = true) : 1 ≤ inField L (L[i]).f := by
  unfold inField
  exact List.length_pos_of_mem (List.mem_filter.2 ⟨List.getElem_mem h, Bool.and_eq_true_iff.2 ⟨hc, decide_eq_true rfl⟩⟩)
theorem inField_sum (L : List Ent) : inField L 0 + inField L 1 + inField L 2 + inField L 3 ≤ L.length := by
  induction L with
  | nil => exact Nat.le_refl _
  | cons a L ih =>
    unfold inField at *
    simp only [List.filter_cons, List.length_cons]
    cases cmpB a
    · simp; omega
    · by_cases h0 : a.f = 0
      · simp [h0]; omega
      · by_cases h1 : a.f = 1
        · simp [h1]; omega
        · by_cases h2 : a.f = 2
          · simp [h2]; omega
          · by_cases h3 : a.f = 3
            · simp [h3]; omega
            · simp [h0, h1, h2, h3]; omega

/-! ### What an entry gets, but for void ones -/
theorem XB_void (L : List Ent) (vul all : Int) (i t : Nat) (h : i < L.length) (hk : (L[i]).k = 0) : XB L vul all i t = (0, 0) := by rw [XB_get L vul all i t h, if_pos hk]
theorem XB_form (L : List Ent) (hO : ∀ e ∈ L, e.Ok) (hR : ∀ e ∈ L, e.right = true) (vul : Int) (hv : 0 ≤ vul ∧ vul ≤ 3) (i t : Nat) (h : i < L.length) (hk : (L[i]).k ≠ 0) :
    XB L vul (notVoid L : Int) i t = if (L[i]).k = 4 then awardF (if t = 0 then (L[i]).a0 else (L[i]).a1) (notVoid L : Int) else valN L (L[i]).f vul (notVoid L : Int) t i := by
  rw [XB_get L vul _ i t h, if_neg hk]
  by_cases ha : (notVoid L : Int) = 1
  · rw [if_pos ha, ha]
    by_cases h4 : (L[i]).k = 4
    · rw [if_pos h4, aw_fr]
      have := whole_frD 0 100 (by decide)
      rw [show (if t = 0 then (L[i]).a0 else (L[i]).a1) * (2 * ((1 : Int) - 1)) = 0 * 100 by simp, this]
    · rw [if_neg h4]
      have hc : cmpB L[i] = true := decide_eq_true ⟨hk, h4⟩
      have h1 := inField_pos L i h hc
      have h2 := inField_le L (L[i]).f
      rw [alone_val L hO hR vul hv (L[i]).f i h rfl hc (by omega) 1 t]
      rfl
  · rw [if_neg ha]

/-! ### One denominator -/
def mF (L : List Ent) (f : Int) : Int := if inField L f = 0 then 1 else (inField L f : Int)
theorem mF_pos (L : List Ent) (f : Int) : 1 ≤ mF L f := by unfold mF; split <;> omega
theorem mF_le (L : List Ent) (f : Int) : mF L f ≤ (inField L f : Int) + 1 := by unfold mF; split <;> omega
/-- The product of the numbers of results of all fields. -/
def proS (L : List Ent) : Int := mF L 0 * mF L 1 * (mF L 2 * mF L 3)
def denS (L : List Ent) : Int := 10000 * proS L
/-- What is missing to it, for a field. -/
def coF (L : List Ent) (f : Int) : Int := if f = 0 then mF L 1 * (mF L 2 * mF L 3) else if f = 1 then mF L 0 * (mF L 2 * mF L 3) else if f = 2 then mF L 0 * mF L 1 * mF L 3 else mF L 0 * mF L 1 * mF L 2
theorem pos2 {a b : Int} (ha : 1 ≤ a) (hb : 1 ≤ b) : 1 ≤ a * b := by have := Int.mul_le_mul ha hb (by decide) (by omega); omega
theorem coF_pos (L : List Ent) (f : Int) : 1 ≤ coF L f := by
  have h0 := mF_pos L 0
  have h1 := mF_pos L 1
  have h2 := mF_pos L 2
  have h3 := mF_pos L 3
  unfold coF
  split
  · exact pos2 h1 (pos2 h2 h3)
  · split
    · exact pos2 h0 (pos2 h2 h3)
    · split
      · exact pos2 (pos2 h0 h1) h3
      · exact pos2 (pos2 h0 h1) h2
theorem coF_den (L : List Ent) (f : Int) (hf : 0 ≤ f ∧ f ≤ 3) : coF L f * (10000 * mF L f) = denS L := by
  unfold coF denS proS
  rcases (show f = 0 ∨ f = 1 ∨ f = 2 ∨ f = 3 by omega) with rfl | rfl | rfl | rfl
  · rw [if_pos rfl]; grind
  · rw [if_neg (by decide), if_pos rfl]; grind
  · rw [if_neg (by decide), if_neg (by decide), if_pos rfl]; grind
  · rw [if_neg (by decide), if_neg (by decide), if_neg (by decide)]; grind
theorem sq_four (a b : Int) : 4 * (a * b) ≤ (a + b) * (a + b) := by
  have h : 0 ≤ (a - b) * (a - b) := by
    rcases Int.le_total 0 (a - b) with h | h
    · exact Int.mul_nonneg h h
    · exact Int.mul_nonneg_of_nonpos_of_nonpos h h
  have e : (a + b) * (a + b) - 4 * (a * b) = (a - b) * (a - b) := by grind
  omega
theorem four_le (a b c d : Int) (ha : 1 ≤ a) (hb : 1 ≤ b) (hc : 1 ≤ c) (hd : 1 ≤ d) (h : a + b + c + d ≤ 28) : a * b * (c * d) ≤ 2401 := by
  have h1 := sq_four a b
  have h2 := sq_four c d
  have h3 := sq_four (a + b) (c + d)
  have h4 : (a + b + (c + d)) * (a + b + (c + d)) ≤ 28 * 28 := Int.mul_le_mul (by omega) (by omega) (by omega) (by decide)
  have h5 : (a + b) * (c + d) ≤ 196 := by omega
  have h6 : 1 ≤ c * d := pos2 hc hd
  have h6' : 1 ≤ a * b := pos2 ha hb
  have h7 : 4 * (a * b) * (4 * (c * d)) ≤ (a + b) * (a + b) * ((c + d) * (c + d)) := Int.mul_le_mul h1 h2 (by omega) (Int.mul_nonneg (by omega) (by omega))
  have h8 : (a + b) * (a + b) * ((c + d) * (c + d)) = (a + b) * (c + d) * ((a + b) * (c + d)) := by grind
  have h9 : (a + b) * (c + d) * ((a + b) * (c + d)) ≤ 196 * 196 := Int.mul_le_mul h5 h5 (Int.mul_nonneg (by omega) (by omega)) (by decide)
  have e : 4 * (a * b) * (4 * (c * d)) = 16 * (a * b * (c * d)) := by grind
  omega
theorem denS_bd (L : List Ent) (hn : L.length ≤ 24) : 1 ≤ proS L ∧ 1 ≤ denS L ∧ denS L ≤ 24010000 := by
  have h0 := mF_pos L 0
  have h1 := mF_pos L 1
  have h2 := mF_pos L 2
  have h3 := mF_pos L 3
  have e0 := mF_le L 0
  have e1 := mF_le L 1
  have e2 := mF_le L 2
  have e3 := mF_le L 3
  have hs := inField_sum L
  have hp := four_le _ _ _ _ h0 h1 h2 h3 (by omega)
  have hq : 1 ≤ proS L := pos2 (pos2 h0 h1) (pos2 h2 h3)
  unfold denS
  unfold proS at *
  omega

/-! ### The numerator of what an entry gets -/
def fldN (L : List Ent) (vul all : Int) (t : Nat) (f : Int) (e : Ent) : Int := coF L f * (gAll (resE vul t e) (fldR L f vul t) * all - 10000 * (inField L f : Int))
def awN (L : List Ent) (all : Int) (t : Nat) (e : Ent) : Int := (if t = 0 then e.a0 else e.a1) * (2 * (all - 1)) * (100 * proS L)
def numE (L : List Ent) (vul all : Int) (t : Nat) (e : Ent) : Int := if e.k = 0 then 0 else if e.k = 4 then awN L all t e else fldN L vul all t e.f e
theorem XB_num (L : List Ent) (hO : ∀ e ∈ L, e.Ok) (hR : ∀ e ∈ L, e.right = true) (hn : L.length ≤ 24) (vul : Int) (hv : 0 ≤ vul ∧ vul ≤ 3) (i t : Nat) (h : i < L.length) (hk : (L[i]).k ≠ 0) :
    XB L vul (notVoid L : Int) i t = fr (numE L vul (notVoid L : Int) t L[i]) (denS L) := by
  have hd := denS_bd L hn
  have hm := List.getElem_mem h
  rw [XB_form L hO hR vul hv i t h hk]
  unfold numE
  rw [if_neg hk]
  by_cases h4 : (L[i]).k = 4
  · rw [if_pos h4, if_pos h4, aw_fr]
    unfold awN
    have e : denS L = 100 * proS L * 100 := by unfold denS; omega
    rw [e, Int.mul_comm _ (100 * proS L), fr_scale _ _ _ (by omega) (by decide)]
  · rw [if_neg h4, if_neg h4]
    have hc : cmpB L[i] = true := decide_eq_true ⟨hk, h4⟩
    have h1 := inField_pos L i h hc
    have h3 := right_f (hR _ hm)
    have h0 := (hO _ hm).2.2.2.1.1
    have hme : mF L (L[i]).f = (inField L (L[i]).f : Int) := by unfold mF; rw [if_neg (by omega)]
    unfold valN
    rw [List.getElem?_eq_getElem h]
    show fr _ _ = _
    unfold fldN
    have hden := coF_den L (L[i]).f ⟨h0, h3⟩
    rw [fldR_inField, ← hden, hme, fr_scale _ _ _ (coF_pos L _) (by omega)]
theorem gAll_bd (L : List Ent) (hO : ∀ e ∈ L, e.Ok) (hR : ∀ e ∈ L, e.right = true) (vul : Int) (hv : 0 ≤ vul ∧ vul ≤ 3) (i t : Nat) (h : i < L.length) (hc : cmpB L[i] = true) :
    10000 ≤ gAll (resE vul t L[i]) (fldR L (L[i]).f vul t) ∧ gAll (resE vul t L[i]) (fldR L (L[i]).f vul t) ≤ 20000 * (inField L (L[i]).f : Int) - 10000 := by
  have hm : resE vul t L[i] ∈ fldR L (L[i]).f vul t := by
    rw [fldR_filter]
    exact List.mem_map.2 ⟨L[i], List.mem_filter.2 ⟨List.getElem_mem h, Bool.and_eq_true_iff.2 ⟨hc, decide_eq_true rfl⟩⟩, rfl⟩
  obtain ⟨k, hk, e⟩ := List.getElem_of_mem hm
  have := gAll_rng (fldR L (L[i]).f vul t) (fldR_right L _ vul hO hR hv t) k hk
  rw [e, fldR_inField] at this
  exact this
theorem numE_bd (L : List Ent) (hO : ∀ e ∈ L, e.Ok) (hR : ∀ e ∈ L, e.right = true) (hn : L.length ≤ 24) (vul : Int) (hv : 0 ≤ vul ∧ vul ≤ 3) (i t : Nat) (h : i < L.length) (hk : (L[i]).k ≠ 0) :
    0 ≤ numE L vul (notVoid L : Int) t L[i] ∧ numE L vul (notVoid L : Int) t L[i] ≤ 2 * ((notVoid L : Int) - 1) * denS L := by
  have hd := denS_bd L hn
  have hm := List.getElem_mem h
  have hv1 := notVoid_one L i h hk
  have hvl : notVoid L ≤ L.length := List.length_filter_le _ _
  unfold numE
  rw [if_neg hk]
  by_cases h4 : (L[i]).k = 4
  · rw [if_pos h4]
    unfold awN
    obtain ⟨r0, r1⟩ := right_aw (hR _ hm) h4
    have hb : 0 ≤ (if t = 0 then (L[i]).a0 else (L[i]).a1) ∧ (if t = 0 then (L[i]).a0 else (L[i]).a1) ≤ 100 := by
      split
      · exact share_bd r0
      · exact share_bd r1
    generalize (if t = 0 then (L[i]).a0 else (L[i]).a1) = a at *
    have hp : 0 ≤ 2 * ((notVoid L : Int) - 1) := by omega
    have e : denS L = 100 * (100 * proS L) := by unfold denS; omega
    rw [e]
    have h1 := Int.mul_nonneg hb.1 hp
    have h2 : a * (2 * ((notVoid L : Int) - 1)) ≤ 100 * (2 * ((notVoid L : Int) - 1)) := Int.mul_le_mul_of_nonneg_right hb.2 hp
    have h3 := Int.mul_nonneg h1 (show 0 ≤ 100 * proS L by omega)
    have h5 := Int.mul_le_mul_of_nonneg_right h2 (show 0 ≤ 100 * proS L by omega)
    have e2 : 100 * (2 * ((notVoid L : Int) - 1)) * (100 * proS L) = 2 * ((notVoid L : Int) - 1) * (100 * (100 * proS L)) := by grind
    omega
  · rw [if_neg h4]
    have hc : cmpB L[i] = true := decide_eq_true ⟨hk, h4⟩
    have h1 := inField_pos L i h hc
    have h3 := right_f (hR _ hm)
    have h0 := (hO _ hm).2.2.2.1.1
    have hme : mF L (L[i]).f = (inField L (L[i]).f : Int) := by unfold mF; rw [if_neg (by omega)]
    have hg := gAll_bd L hO hR vul hv i t h hc
    have hle := inField_le L (L[i]).f
    obtain ⟨-, -, -, -, g1, g2⟩ := adj_steps _ (inField L (L[i]).f : Int) (notVoid L : Int) (by omega) (by omega) hg
    have hco := coF_pos L (L[i]).f
    have hden := coF_den L (L[i]).f ⟨h0, h3⟩
    rw [hme] at hden
    unfold fldN
    rw [← hden]
    generalize gAll (resE vul t L[i]) (fldR L (L[i]).f vul t) = g at *
    refine ⟨Int.mul_nonneg (by omega) g1, ?_⟩
    have h5 := Int.mul_le_mul_of_nonneg_left g2 (show 0 ≤ coF L (L[i]).f by omega)
    have e2 : coF L (L[i]).f * (2 * ((notVoid L : Int) - 1) * (10000 * (inField L (L[i]).f : Int))) = 2 * ((notVoid L : Int) - 1) * (coF L (L[i]).f * (10000 * (inField L (L[i]).f : Int))) := by grind
    omega
theorem numE_void (L : List Ent) (vul all : Int) (t : Nat) (e : Ent) (h : e.k = 0) : numE L vul all t e = 0 := by unfold numE; rw [if_pos h]

/-! ### The sums of the first entries -/
def nS (L : List Ent) (vul : Int) (t k : Nat) : Int := ((L.take k).map (numE L vul (notVoid L : Int) t)).sum
theorem nS_succ (L : List Ent) (vul : Int) (t k : Nat) (h : k < L.length) : nS L vul t (k + 1) = nS L vul t k + numE L vul (notVoid L : Int) t L[k] := by
  unfold nS; rw [List.take_succ_eq_append_getElem h, List.map_append, List.sum_append]; simp
theorem numE_all (L : List Ent) (hO : ∀ e ∈ L, e.Ok) (hR : ∀ e ∈ L, e.right = true) (hn : L.length ≤ 24) (vul : Int) (hv : 0 ≤ vul ∧ vul ≤ 3) (i t : Nat) (h : i < L.length) :
    0 ≤ numE L vul (notVoid L : Int) t L[i] ∧ numE L vul (notVoid L : Int) t L[i] ≤ 46 * denS L := by
  have hd := denS_bd L hn
  by_cases hk : (L[i]).k = 0
  · rw [numE_void L vul _ t _ hk]; omega
  · have h1 := numE_bd L hO hR hn vul hv i t h hk
    have hvl : notVoid L ≤ L.length := List.length_filter_le _ _
    have h2 := Int.mul_le_mul_of_nonneg_right (show 2 * ((notVoid L : Int) - 1) ≤ 46 by omega) (show 0 ≤ denS L by omega)
    omega
theorem nS_bd (L : List Ent) (hO : ∀ e ∈ L, e.Ok) (hR : ∀ e ∈ L, e.right = true) (hn : L.length ≤ 24) (vul : Int) (hv : 0 ≤ vul ∧ vul ≤ 3) (t : Nat) : ∀ k, k ≤ L.length → 0 ≤ nS L vul t k ∧ nS L vul t k ≤ 46 * denS L * k := by
  intro k
  induction k with
  | zero => intro _; unfold nS; simp
  | succ k ih =>
    intro h
    have h1 := ih (by omega)
    have h2 := numE_all L hO hR hn vul hv k t (by omega)
    rw [nS_succ L vul t k (by omega)]
    have e : 46 * denS L * ((k + 1 : Nat) : Int) = 46 * denS L * (k : Int) + 46 * denS L := by rw [Int.natCast_add, Int.mul_add]; simp
    omega
theorem nS_wd (L : List Ent) (hO : ∀ e ∈ L, e.Ok) (hR : ∀ e ∈ L, e.right = true) (hn : L.length ≤ 24) (vul : Int) (hv : 0 ≤ vul ∧ vul ≤ 3) (t k : Nat) (h : k ≤ L.length) : wdF (fr (nS L vul t k) (denS L)) := by
  have hd := denS_bd L hn
  have h1 := nS_bd L hO hR hn vul hv t k h
  have h2 : 46 * denS L * (k : Int) ≤ 46 * 24010000 * 24 := Int.mul_le_mul (by omega) (by omega) (by omega) (by decide)
  exact wd_frD _ _ (by omega) (by omega)
theorem num_wd (L : List Ent) (hO : ∀ e ∈ L, e.Ok) (hR : ∀ e ∈ L, e.right = true) (hn : L.length ≤ 24) (vul : Int) (hv : 0 ≤ vul ∧ vul ≤ 3) (i t : Nat) (h : i < L.length) : wdF (fr (numE L vul (notVoid L : Int) t L[i]) (denS L)) := by
  have hd := denS_bd L hn
  have h1 := numE_all L hO hR hn vul hv i t h
  exact wd_frD _ _ (by omega) (by omega)
theorem zero_frD (D : Int) (hD : 1 ≤ D) : fr 0 D = (0, 1) := by have := whole_frD 0 D hD; rwa [Int.zero_mul] at this
theorem nS_zero (L : List Ent) (hn : L.length ≤ 24) (vul : Int) (t : Nat) : fr (nS L vul t 0) (denS L) = (0, 1) := by
  show fr 0 _ = _
  exact zero_frD _ (denS_bd L hn).2.1
theorem low_num (L : List Ent) (hO : ∀ e ∈ L, e.Ok) (hR : ∀ e ∈ L, e.right = true) (hn : L.length ≤ 24) (vul : Int) (hv : 0 ≤ vul ∧ vul ≤ 3) (i t : Nat) (h : i < L.length) : 0 ≤ cmpF (fr (numE L vul (notVoid L : Int) t L[i]) (denS L)) (0, 1) := by
  have hd := denS_bd L hn
  have h1 := numE_all L hO hR hn vul hv i t h
  rw [← zero_frD _ hd.2.1, cmp_frD _ _ _ hd.2.1]
  unfold cmpI
  (repeat' split) <;> omega
theorem high_num (L : List Ent) (hO : ∀ e ∈ L, e.Ok) (hR : ∀ e ∈ L, e.right = true) (hn : L.length ≤ 24) (vul : Int) (hv : 0 ≤ vul ∧ vul ≤ 3) (i t : Nat) (h : i < L.length) (hk : (L[i]).k ≠ 0) : cmpF (fr (numE L vul (notVoid L : Int) t L[i]) (denS L)) (2 * ((notVoid L : Int) - 1), 1) ≤ 0 := by
  have hd := denS_bd L hn
  have h1 := numE_bd L hO hR hn vul hv i t h hk
  rw [← whole_frD (2 * ((notVoid L : Int) - 1)) _ hd.2.1, cmp_frD _ _ _ hd.2.1]
  unfold cmpI
  (repeat' split) <;> omega

/-! ### Both sides -/
theorem resE_one (vul : Int) (e : Ent) (h : e.k ≠ 3) : resE vul 1 e = negP (resE vul 0 e) := by
  unfold resE
  rw [if_neg (by decide), if_pos rfl]
  congr 2
  unfold sideA sideB
  rw [if_neg h]
theorem both_num (L : List Ent) (hO : ∀ e ∈ L, e.Ok) (hR : ∀ e ∈ L, e.right = true) (vul : Int) (hv : 0 ≤ vul ∧ vul ≤ 3) (i : Nat) (h : i < L.length) (hk : (L[i]).k = 1 ∨ (L[i]).k = 2) (hs : ∀ e ∈ L, e.k = 3 → e.f ≠ (L[i]).f) :
    numE L vul (notVoid L : Int) 0 L[i] + numE L vul (notVoid L : Int) 1 L[i] = 2 * ((notVoid L : Int) - 1) * denS L := by
  have hm := List.getElem_mem h
  have hc : cmpB L[i] = true := decide_eq_true (by omega)
  have h1 := inField_pos L i h hc
  have h3 := right_f (hR _ hm)
  have h0 := (hO _ hm).2.2.2.1.1
  have hme : mF L (L[i]).f = (inField L (L[i]).f : Int) := by unfold mF; rw [if_neg (by omega)]
  have hden := coF_den L (L[i]).f ⟨h0, h3⟩
  rw [hme] at hden
  unfold numE
  rw [if_neg (by omega), if_neg (by omega), if_neg (by omega), if_neg (by omega)]
  unfold fldN
  have ht : fldR L (L[i]).f vul 1 = turnL (fldR L (L[i]).f vul 0) := by
    rw [fldR_filter, fldR_filter]
    unfold turnL
    rw [List.map_map]
    refine List.map_congr_left fun e he => ?_
    obtain ⟨h5, h6⟩ := List.mem_filter.1 he
    have h7 := of_decide_eq_true (Bool.and_eq_true_iff.1 h6).2
    exact resE_one vul e (fun h8 => hs e h5 h8 h7)
  have hr : resE vul 1 L[i] = negP (resE vul 0 L[i]) := resE_one vul _ (by omega)
  have hrr := fldR_right L (L[i]).f vul hO hR hv 0
  have hri : rightM (resE vul 0 L[i]) = true := hrr _ (by rw [fldR_filter]; exact List.mem_map.2 ⟨L[i], List.mem_filter.2 ⟨hm, Bool.and_eq_true_iff.2 ⟨hc, decide_eq_true rfl⟩⟩, rfl⟩)
  rw [ht, hr, gAll_neg _ _ hri hrr, fldR_inField, ← hden]
  generalize gAll (resE vul 0 L[i]) (fldR L (L[i]).f vul 0) = g
  grind

/-! ### The sum of all -/
theorem sum_add23 {α : Type} (l : List α) (f g : α → Int) : (l.map fun x => f x + g x).sum = (l.map f).sum + (l.map g).sum := by
  induction l with
  | nil => rfl
  | cons a l ih => simp only [List.map_cons, List.sum_cons, ih]; omega
theorem sum_if23 {α : Type} (l : List α) (p : α → Bool) (f : α → Int) : (l.map fun x => if p x = true then f x else 0).sum = ((l.filter p).map f).sum := by
  induction l with
  | nil => rfl
  | cons a l ih =>
    simp only [List.map_cons, List.sum_cons, ih, List.filter_cons]
    by_cases h : p a = true
    · rw [if_pos h, if_pos h]; rfl
    · rw [if_neg h, if_neg h]; omega
theorem sum_fld23 (l : List Ent) (vul : Int) (t : Nat) (F : List (List Pt)) (c all m : Int) : (l.map fun e => c * (gAll (resE vul t e) F * all - m)).sum = c * (dbl (l.map (resE vul t)) F * all - m * l.length) := by
  induction l with
  | nil => unfold dbl; simp
  | cons a l ih =>
    rw [List.map_cons, List.sum_cons, ih, List.map_cons, dbl_cons, List.length_cons]
    push_cast
    grind
theorem field_sum (L : List Ent) (hO : ∀ e ∈ L, e.Ok) (hR : ∀ e ∈ L, e.right = true) (vul : Int) (hv : 0 ≤ vul ∧ vul ≤ 3) (all : Int) (t : Nat) (f : Int) (hf : 0 ≤ f ∧ f ≤ 3) :
    (L.map fun e => if selE f e = true then fldN L vul all t f e else 0).sum = (inField L f : Int) * (all - 1) * denS L := by
  rw [sum_if23]
  unfold fldN
  rw [sum_fld23, ← fldR_filter, dbl_self _ (fldR_right L f vul hO hR hv t), fldR_inField, ← coF_den L f hf]
  have hl : (L.filter (selE f)).length = inField L f := rfl
  rw [hl]
  by_cases h0 : inField L f = 0
  · rw [h0]; simp
  · have hme : mF L f = (inField L f : Int) := by unfold mF; rw [if_neg h0]
    rw [hme]
    grind
theorem numE_split (L : List Ent) (vul all : Int) (t : Nat) (e : Ent) (h4 : 0 ≤ e.f ∧ e.f ≤ 3) :
    numE L vul all t e = (if decide (e.k = 4) = true then awN L all t e else 0) + ((if selE 0 e = true then fldN L vul all t 0 e else 0) + ((if selE 1 e = true then fldN L vul all t 1 e else 0) + ((if selE 2 e = true then fldN L vul all t 2 e else 0) + (if selE 3 e = true then fldN L vul all t 3 e else 0)))) := by
  unfold numE selE
  by_cases h0 : e.k = 0
  · have hc : cmpB e = false := decide_eq_false (by omega)
    rw [if_pos h0, hc, decide_eq_false (show ¬ e.k = 4 by omega)]
    simp
  · by_cases h1 : e.k = 4
    · have hc : cmpB e = false := decide_eq_false (by omega)
      rw [if_neg h0, if_pos h1, hc, decide_eq_true h1]
      simp
    · have hc : cmpB e = true := decide_eq_true ⟨h0, h1⟩
      rw [if_neg h0, if_neg h1, hc, decide_eq_false h1]
      rcases (show e.f = 0 ∨ e.f = 1 ∨ e.f = 2 ∨ e.f = 3 by omega) with h | h | h | h <;> rw [h] <;> simp
theorem aw_sum (L M : List Ent) (all : Int) (t : Nat) : (M.map fun e => if decide (e.k = 4) = true then awN L all t e else 0).sum = (M.filterMap (fun e => if e.k = 4 then some ((if t = 0 then e.a0 else e.a1) * (2 * (all - 1))) else none)).sum * (100 * proS L) := by
  induction M with
  | nil => simp
  | cons a M ih =>
    rw [List.map_cons, List.sum_cons, ih, List.filterMap_cons]
    by_cases h : a.k = 4
    · rw [if_pos (decide_eq_true h)]
      simp only [if_pos h, List.sum_cons, Int.add_mul]
      rfl
    · rw [if_neg (fun e => h (of_decide_eq_true e))]
      simp only [if_neg h]
      omega
theorem maxA_mul (L : List Ent) (f : Int) : (inField L f : Int) * maxA (notVoid L : Int) = (inField L f : Int) * ((notVoid L : Int) - 1) := by
  have h := inField_le L f
  unfold maxA
  split
  · rfl
  · by_cases h0 : inField L f = 0
    · rw [h0]; simp
    · have : (notVoid L : Int) - 1 = 0 := by omega
      rw [this]
theorem sum_all (L : List Ent) (hO : ∀ e ∈ L, e.Ok) (hR : ∀ e ∈ L, e.right = true) (hn : L.length ≤ 24) (vul : Int) (hv : 0 ≤ vul ∧ vul ≤ 3) (t : Nat) : fr (nS L vul t L.length) (denS L) = demF L t := by
  have hd := denS_bd L hn
  have hs : nS L vul t L.length = (demN L (notVoid L : Int) t).sum * (100 * proS L) := by
    unfold nS
    rw [List.take_length, show L.map (numE L vul (notVoid L : Int) t) = L.map (fun e => (if decide (e.k = 4) = true then awN L (notVoid L : Int) t e else 0) + ((if selE 0 e = true then fldN L vul (notVoid L : Int) t 0 e else 0) + ((if selE 1 e = true then fldN L vul (notVoid L : Int) t 1 e else 0) + ((if selE 2 e = true then fldN L vul (notVoid L : Int) t 2 e else 0) + (if selE 3 e = true then fldN L vul (notVoid L : Int) t 3 e else 0))))) from
      List.map_congr_left fun e he => numE_split L vul _ t e ⟨(hO e he).2.2.2.1.1, right_f (hR e he)⟩]
    rw [sum_add23, sum_add23, sum_add23, sum_add23, aw_sum, field_sum L hO hR vul hv _ t 0 (by decide), field_sum L hO hR vul hv _ t 1 (by decide), field_sum L hO hR vul hv _ t 2 (by decide), field_sum L hO hR vul hv _ t 3 (by decide)]
    unfold demN
    rw [List.sum_append, Int.add_mul]
    have hr : List.range 4 = [0, 1, 2, 3] := rfl
    rw [hr]
    simp only [List.map_cons, List.map_nil, List.sum_cons, List.sum_nil]
    rw [maxA_mul, maxA_mul, maxA_mul, maxA_mul]
    unfold denS
    generalize (L.filterMap (fun e => if e.k = 4 then some ((if t = 0 then e.a0 else e.a1) * (2 * ((notVoid L : Int) - 1))) else none)).sum = z
    grind
  rw [hs]
  unfold demF
  have e : denS L = 100 * proS L * 100 := by unfold denS; omega
  rw [e, Int.mul_comm _ (100 * proS L), fr_scale _ _ _ (by omega) (by decide)]

/-! ### How many are compared -/
def cntE (L : List Ent) (k : Nat) (f : Int) : Nat := ((L.take k).filter (selE f)).length
theorem cntE_succ (L : List Ent) (k : Nat) (h : k < L.length) (f : Int) : cntE L (k + 1) f = cntE L k f + (if selE f L[k] = true then 1 else 0) := by
  unfold cntE
  rw [List.take_succ_eq_append_getElem h, List.filter_append, List.length_append]
  congr 1
  by_cases e : selE f L[k] = true
  · rw [if_pos e, List.filter_cons_of_pos e]; rfl
  · rw [if_neg e, List.filter_cons_of_neg e]; rfl
theorem cntE_all (L : List Ent) (f : Int) : cntE L L.length f = inField L f := by unfold cntE; rw [List.take_length]; rfl
theorem cntE_le (L : List Ent) (k : Nat) (f : Int) : cntE L k f ≤ L.length := Nat.le_trans (List.length_filter_le _ _) (by rw [List.length_take]; omega)

def cnt4 (L : List Ent) (k : Nat) : Array Value := #[.int .i64 (cntE L k 0 : Int), .int .i64 (cntE L k 1 : Int), .int .i64 (cntE L k 2 : Int), .int .i64 (cntE L k 3 : Int)]
theorem cnt4_get (L : List Ent) (k j : Nat) (hj : j < 4) : (cnt4 L k)[j]? = some (.int .i64 (cntE L k (j : Int) : Int)) := by
  rcases (show j = 0 ∨ j = 1 ∨ j = 2 ∨ j = 3 by omega) with rfl | rfl | rfl | rfl <;> rfl
theorem selE_f (e : Ent) (f : Int) (h : cmpB e = true) (hf : e.f = f) : selE f e = true := Bool.and_eq_true_iff.2 ⟨h, decide_eq_true hf⟩
theorem cnt4_keep (L : List Ent) (k : Nat) (h : k < L.length) (hc : cmpB L[k] = false) : cnt4 L (k + 1) = cnt4 L k := by
  have e : ∀ f, cntE L (k + 1) f = cntE L k f := fun f => by
    rw [cntE_succ L k h f]
    unfold selE
    rw [hc]; rfl
  unfold cnt4
  rw [e, e, e, e]
theorem cnt4_set (L : List Ent) (k : Nat) (h : k < L.length) (hc : cmpB L[k] = true) (j : Nat) (hj : j < 4) (hf : (L[k]).f = (j : Int)) : (cnt4 L k).setIfInBounds j (.int .i64 ((cntE L k (j : Int) : Int) + 1)) = cnt4 L (k + 1) := by
  have e : ∀ f, cntE L (k + 1) f = cntE L k f + (if f = (j : Int) then 1 else 0) := fun f => by
    rw [cntE_succ L k h f]
    unfold selE
    rw [hc, hf]
    by_cases hx : f = (j : Int)
    · subst hx; simp
    · rw [if_neg hx, if_neg (by simp; exact fun h => hx h.symm)]
  unfold cnt4
  rw [e, e, e, e]
  rcases (show j = 0 ∨ j = 1 ∨ j = 2 ∨ j = 3 by omega) with rfl | rfl | rfl | rfl <;> simp

end Go.Proofs.YtchklobblkddhaaGreatDoor
