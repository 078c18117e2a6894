/- The points of a result, in plain integers. No program stands in this text. Outcomes and the contents of entries, in plain Lean. The plain mathematics of matchpoints: results of several parts, what they get from each other, fractions in lowest terms. No program stands in this text. The plain mathematics of fractions in lowest terms: equal values, sums by common divisors, comparing. No program stands in this text. -/
import Derived.Test.YtlobdeakgoicpaaDoorBase
import Derived.Below
namespace Go.Proofs.YtlobdeakgoicpaaDoor
open Go.RowKit

/-! ### The points of a result, in plain integers. No program stands in this text. -/
/-- The value of a trick of a denomination. -/
def valI (d : Int) : Int := if d < 2 then 20 else 30
def facI (r : Int) : Int := if r = 0 then 1 else if r = 1 then 2 else 4
def insI (r : Int) : Int := 50 * r
def moreI (r : Int) (v : Bool) : Int := if v = true then 200 * r else 100 * r
/-- A contract is right. -/
def rightC (l d r s : Int) : Bool := decide ((l = 0 ∧ d = 0 ∧ r = 0 ∧ s = 0) ∨ (1 ≤ l ∧ l ≤ 7 ∧ d ≤ 4 ∧ r ≤ 2 ∧ s ≤ 3))
def needC (l d r s : Int) : Int := if rightC l d r s = true ∧ l ≠ 0 then 6 + l else 0
/-- A contract and tricks are a result. -/
def resultC (l d r s t : Int) : Bool := decide (rightC l d r s = true ∧ 0 ≤ t ∧ t ≤ 13 ∧ (0 < l ∨ t = 0))
def trickV (l d r : Int) : Int := (l * valI d + if d = 4 then 10 else 0) * facI r
def bonusI (p l : Int) (v : Bool) : Int := (if 100 ≤ p then (if v = true then 500 else 300) else 50) + (if l = 6 then (if v = true then 750 else 500) else if l = 7 then (if v = true then 1500 else 1000) else 0)
def eachI (d r : Int) (v : Bool) : Int := if 0 < r then moreI r v else valI d
def madeI (l d r over : Int) (v : Bool) : Int := trickV l d r + bonusI (trickV l d r) l v + insI r + over * eachI d r v
def trickI (r i : Int) (v : Bool) : Int := if r = 0 then (if v = true then 100 else 50) else if i = 0 then (if v = true then 200 else 100) else if i < 3 then (if v = true then 300 else 200) else 300
def sumT (r : Int) (v : Bool) : Nat → Int
  | 0 => 0
  | n + 1 => sumT r v n + trickI r n v
def missI (r : Int) (n : Nat) (v : Bool) : Int := if r = 2 then sumT r v n * 2 else sumT r v n
/-- The points of a result for the declarer's side. -/
def ptsI (l d r t : Int) (v : Bool) : Int := if l = 0 then 0 else if t < 6 + l then - missI r (6 + l - t).toNat v else madeI l d r (t - (6 + l)) v
def vulB (vul seat : Int) : Bool := decide (vul ≤ 3 ∧ seat ≤ 3 ∧ (if seat % 2 = 0 then vul % 2 else vul / 2 % 2) ≠ 0)
/-- The points of a result for North and South. -/
def scoreI (l d r s t vul : Int) : Int := if s % 2 = 1 then - ptsI l d r t (vulB vul s) else ptsI l d r t (vulB vul s)

theorem trickI_bd (r i : Int) (v : Bool) : 50 ≤ trickI r i v ∧ trickI r i v ≤ 300 := by unfold trickI; constructor <;> (repeat' split) <;> omega
theorem sumT_bd (r : Int) (v : Bool) (n : Nat) : 50 * (n : Int) ≤ sumT r v n ∧ sumT r v n ≤ 300 * n := by
  induction n with
  | zero => exact ⟨by simp [sumT], by simp [sumT]⟩
  | succ n ih => have := trickI_bd r n v; unfold sumT; omega
theorem missI_bd (r : Int) (v : Bool) (n : Nat) : 50 * (n : Int) ≤ missI r n v ∧ missI r n v ≤ 600 * n := by
  have := sumT_bd r v n
  unfold missI; split <;> omega
theorem valI_bd (d : Int) : valI d = 20 ∨ valI d = 30 := by unfold valI; split <;> simp
theorem facI_bd (r : Int) : facI r = 1 ∨ facI r = 2 ∨ facI r = 4 := by unfold facI; (repeat' split) <;> simp
theorem base_bd (l d : Int) (hl : 1 ≤ l ∧ l ≤ 7) : 20 ≤ l * valI d + (if d = 4 then 10 else 0) ∧ l * valI d + (if d = 4 then 10 else 0) ≤ 220 := by
  rcases valI_bd d with h | h <;> rw [h] <;> split <;> omega
theorem trickV_bd (l d r : Int) (hl : 1 ≤ l ∧ l ≤ 7) : 20 ≤ trickV l d r ∧ trickV l d r ≤ 880 := by
  have := base_bd l d hl
  unfold trickV
  rcases facI_bd r with h | h | h <;> rw [h] <;> omega
theorem bonusI_bd (p l : Int) (v : Bool) : 50 ≤ bonusI p l v ∧ bonusI p l v ≤ 2000 := by unfold bonusI; constructor <;> (repeat' split) <;> omega
theorem eachI_bd (d r : Int) (v : Bool) (hr : 0 ≤ r ∧ r ≤ 2) : 0 ≤ eachI d r v ∧ eachI d r v ≤ 400 := by
  have := valI_bd d
  unfold eachI moreI; constructor <;> (repeat' split) <;> omega
theorem madeI_bd (l d r over : Int) (v : Bool) (hl : 1 ≤ l ∧ l ≤ 7) (hr : 0 ≤ r ∧ r ≤ 2) (ho : 0 ≤ over ∧ over ≤ 6) : 70 ≤ madeI l d r over v ∧ madeI l d r over v ≤ 6000 := by
  have h1 := trickV_bd l d r hl
  have h2 := bonusI_bd (trickV l d r) l v
  have h3 := eachI_bd d r v hr
  have h4 : 0 ≤ over * eachI d r v := Int.mul_nonneg ho.1 h3.1
  have h5 : over * eachI d r v ≤ 6 * 400 := Int.mul_le_mul ho.2 h3.2 h3.1 (by omega)
  unfold madeI insI; omega
/-- The points are above 0 just if the contract is made. -/
theorem ptsI_bd (l d r t : Int) (v : Bool) (hl : 1 ≤ l ∧ l ≤ 7) (hr : 0 ≤ r ∧ r ≤ 2) (ht : 0 ≤ t ∧ t ≤ 13) :
    (6 + l ≤ t → 70 ≤ ptsI l d r t v ∧ ptsI l d r t v ≤ 6000) ∧ (t < 6 + l → -7800 ≤ ptsI l d r t v ∧ ptsI l d r t v ≤ -50) := by
  unfold ptsI
  rw [if_neg (by omega)]
  constructor
  · intro h
    rw [if_neg (by omega)]
    exact madeI_bd _ _ _ _ _ hl hr (by omega)
  · intro h
    rw [if_pos h]
    have := missI_bd r v (6 + l - t).toNat
    omega
theorem ptsI_small (l d r s t : Int) (v : Bool) (h : resultC l d r s t = true) (h0 : 0 ≤ l ∧ 0 ≤ r) : -7800 ≤ ptsI l d r t v ∧ ptsI l d r t v ≤ 6000 := by
  unfold resultC rightC at h
  have h := of_decide_eq_true h
  obtain ⟨h1, h2, h3, h4⟩ := h
  have h1 := of_decide_eq_true h1
  by_cases hl : l = 0
  · unfold ptsI; rw [if_pos hl]; omega
  · have := ptsI_bd l d r t v (by omega) (by omega) (by omega)
    by_cases hm : 6 + l ≤ t
    · have := this.1 hm; omega
    · have := this.2 (by omega); omega
theorem scoreI_small (l d r s t vul : Int) (h : resultC l d r s t = true) (h0 : 0 ≤ l ∧ 0 ≤ r) : -7800 ≤ scoreI l d r s t vul ∧ scoreI l d r s t vul ≤ 7800 := by
  have := ptsI_small l d r s t (vulB vul s) h h0
  unfold scoreI; split <;> omega

/-! ### Outcomes and the contents of entries, in plain Lean. -/
/-- An outcome: level, denomination, risk, declarer, tricks, weight. -/
structure Oc where
  l : Int
  d : Int
  r : Int
  s : Int
  t : Int
  w : Int
/-- The zero outcome. -/
def zB (x : Oc) : Bool := decide (x.l = 0 ∧ x.d = 0 ∧ x.r = 0 ∧ x.s = 0 ∧ x.t = 0 ∧ x.w = 0)
/-- It is played out. -/
def outB (x : Oc) : Bool := resultC x.l x.d x.r x.s x.t
def wholeB (x : Oc) : Bool := outB x && decide (x.w = 0)
/-- All outcomes from one on are zero. -/
def restB (o : Nat → Oc) (n : Nat) : Bool := (List.range 4).all fun i => decide (i < n) || zB (o i)
theorem restB_iff (o : Nat → Oc) (n : Nat) : restB o n = true ↔ ∀ i, i < 4 → n ≤ i → zB (o i) = true := by
  unfold restB
  rw [List.all_eq_true]
  constructor
  · intro h i h4 hn
    have := h i (List.mem_range.2 h4)
    rcases Bool.or_eq_true_iff.1 this with h1 | h1
    · have := of_decide_eq_true h1; omega
    · exact h1
  · intro h i hi
    have h4 := List.mem_range.1 hi
    by_cases hn : i < n
    · rw [decide_eq_true hn]; rfl
    · rw [h i h4 (by omega), Bool.or_true]
/-- How many of the first outcomes have a weight. -/
def partsTo (o : Nat → Oc) : Nat → Nat
  | 0 => 0
  | n + 1 => if partsTo o n = n ∧ (o n).w ≠ 0 then n + 1 else partsTo o n
def partsN (o : Nat → Oc) : Nat := partsTo o 4
def okW (x : Oc) : Bool := outB x && decide (1 ≤ x.w) && decide (x.w ≤ 100)
def wSum (o : Nat → Oc) : Nat → Int
  | 0 => 0
  | n + 1 => wSum o n + (o n).w
def allW (o : Nat → Oc) (n : Nat) : Bool := (List.range n).all fun i => okW (o i)
def weightedB (o : Nat → Oc) (a0 a1 : Int) : Bool := allW o (partsN o) && (decide (2 ≤ partsN o) && decide (wSum o (partsN o) = 100) && restB o (partsN o) && decide (a0 = 0 ∧ a1 = 0))
def shareB (n : Int) : Bool := decide (n = 0 ∨ n = 30 ∨ n = 40 ∨ n = 50 ∨ n = 60 ∨ n = 70 ∨ n = 100)
def voidB (o : Nat → Oc) (a0 a1 : Int) : Bool := restB o 0 && decide (a0 = 0 ∧ a1 = 0)
def playedB (o : Nat → Oc) (a0 a1 : Int) : Bool := wholeB (o 0) && restB o 1 && decide (a0 = 0 ∧ a1 = 0)
def splitB (o : Nat → Oc) (a0 a1 : Int) : Bool := wholeB (o 0) && wholeB (o 1) && restB o 2 && decide (a0 = 0 ∧ a1 = 0)
def awardB (o : Nat → Oc) (a0 a1 : Int) : Bool := shareB a0 && shareB a1 && restB o 0
/-- The content of an entry is right. -/
def rightE (k f : Int) (o : Nat → Oc) (a0 a1 : Int) : Bool :=
  decide (f ≤ 3) && (if k = 0 then voidB o a0 a1 else if k = 1 then playedB o a0 a1 else if k = 2 then weightedB o a0 a1 else if k = 3 then splitB o a0 a1 else if k = 4 then awardB o a0 a1 else false)

/-- The cells of an entry. -/
def EnC (C : Array Value) (k f : Int) (o : Nat → Oc) (a0 a1 : Int) : Prop :=
  C.size = 33 ∧ C[4]? = some (.int .u8 k) ∧ C[5]? = some (.int .u8 f) ∧ C[31]? = some (.int .i64 a0) ∧ C[32]? = some (.int .i64 a1) ∧
  ∀ i, i < 4 → C[7 + i * 6]? = some (.int .u8 (o i).l) ∧ C[7 + i * 6 + 1]? = some (.int .u8 (o i).d) ∧ C[7 + i * 6 + 2]? = some (.int .u8 (o i).r) ∧ C[7 + i * 6 + 3]? = some (.int .u8 (o i).s) ∧ C[7 + i * 6 + 4]? = some (.int .i64 (o i).t) ∧ C[7 + i * 6 + 5]? = some (.int .i64 (o i).w)
def OcOk (x : Oc) : Prop := (0 ≤ x.l ∧ x.l ≤ 255) ∧ (0 ≤ x.d ∧ x.d ≤ 255) ∧ (0 ≤ x.r ∧ x.r ≤ 255) ∧ (0 ≤ x.s ∧ x.s ≤ 255) ∧ (-9223372036854775808 ≤ x.t ∧ x.t ≤ 9223372036854775807) ∧ (-9223372036854775808 ≤ x.w ∧ x.w ≤ 9223372036854775807)
/-- An outcome as a value. -/
def ocV (x : Oc) : Value := .agg #[.int .u8 x.l, .int .u8 x.d, .int .u8 x.r, .int .u8 x.s, .int .i64 x.t, .int .i64 x.w]

/-! ### The plain mathematics of matchpoints: results of several parts, what they get from each other, fractions in lowest terms. No program stands in this text. -/
abbrev Pt := Int × Int
/-- What less, the same, and more points get. -/
def cmpG (p q : Int) : Int := if p < q then 0 else if p = q then 1 else 2
theorem cmpG_bd (p q : Int) : 0 ≤ cmpG p q ∧ cmpG p q ≤ 2 := by unfold cmpG; split <;> (try split) <;> omega
theorem cmpG_lt {p q : Int} (h : p < q) : cmpG p q = 0 := by unfold cmpG; rw [if_pos h]
theorem cmpG_eq (p : Int) : cmpG p p = 1 := by unfold cmpG; rw [if_neg (by omega), if_pos rfl]
theorem cmpG_gt {p q : Int} (h : q < p) : cmpG p q = 2 := by unfold cmpG; rw [if_neg (by omega), if_neg (by omega)]
def sumF (l : List Pt) (f : Pt → Int) : Int := (l.map f).sum
def sumTo (l : List Pt) (f : Pt → Int) (k : Nat) : Int := ((l.take k).map f).sum
theorem sumTo_succ (l : List Pt) (f : Pt → Int) (k : Nat) (h : k < l.length) : sumTo l f (k + 1) = sumTo l f k + f l[k] := by
  unfold sumTo; rw [List.take_succ_eq_append_getElem h, List.map_append, List.sum_append]; simp
theorem sumTo_all (l : List Pt) (f : Pt → Int) : sumTo l f l.length = sumF l f := by unfold sumTo sumF; rw [List.take_length]
theorem sumTo_bd (l : List Pt) (f : Pt → Int) (B : Int) (hf : ∀ p ∈ l, 0 ≤ f p ∧ f p ≤ B) (k : Nat) (h : k ≤ l.length) : 0 ≤ sumTo l f k ∧ sumTo l f k ≤ B * k := by
  induction k with
  | zero => simp [sumTo]
  | succ k ih =>
    have := ih (by omega)
    have := hf l[k] (List.getElem_mem (by omega))
    rw [sumTo_succ l f k (by omega)]
    have e : B * ((k + 1 : Nat) : Int) = B * k + B := by rw [Int.natCast_add, Int.mul_add]; simp
    omega
def sumW (r : List Pt) : Int := sumF r fun p => p.2
def okPt (p : Pt) : Bool := decide (1 ≤ p.2) && decide (p.2 ≤ 100) && decide (-10000 ≤ p.1) && decide (p.1 ≤ 10000)
def rightM (r : List Pt) : Bool := decide (1 ≤ r.length) && decide (r.length ≤ 4) && r.all okPt && (sumW r == 100)
theorem okPt_iff (p : Pt) : okPt p = true ↔ (1 ≤ p.2 ∧ p.2 ≤ 100) ∧ -10000 ≤ p.1 ∧ p.1 ≤ 10000 := by
  unfold okPt; simp only [Bool.and_eq_true, decide_eq_true_eq, and_assoc]
theorem rightM_iff (r : List Pt) : rightM r = true ↔ 1 ≤ r.length ∧ r.length ≤ 4 ∧ (∀ p ∈ r, okPt p = true) ∧ sumW r = 100 := by
  unfold rightM; simp only [Bool.and_eq_true, decide_eq_true_eq, List.all_eq_true, beq_iff_eq, and_assoc]
/-- What points get from a result, and a result from another one, in parts of 10000. -/
def gB (p : Int) (b : List Pt) : Int := sumF b fun q => q.2 * cmpG p q.1
def gAB (a b : List Pt) : Int := sumF a fun p => p.2 * gB p.1 b
theorem mulB {x y X Y : Int} (h1 : 0 ≤ x ∧ x ≤ X) (h2 : 0 ≤ y ∧ y ≤ Y) : 0 ≤ x * y ∧ x * y ≤ X * Y :=
  ⟨Int.mul_nonneg h1.1 h2.1, Int.mul_le_mul h1.2 h2.2 h2.1 (by omega)⟩
theorem gB_bd (p : Int) (b : List Pt) (hb : rightM b = true) : 0 ≤ gB p b ∧ gB p b ≤ 800 := by
  have h := (rightM_iff b).1 hb
  have := sumTo_bd b (fun q => q.2 * cmpG p q.1) 200 (fun q hq => by
    have h1 := (okPt_iff q).1 (h.2.2.1 q hq)
    exact mulB (X := 100) (Y := 2) (by omega) (cmpG_bd p q.1)) b.length (Nat.le_refl _)
  rw [sumTo_all] at this
  unfold gB; omega
theorem gAB_bd (a b : List Pt) (ha : rightM a = true) (hb : rightM b = true) : 0 ≤ gAB a b ∧ gAB a b ≤ 320000 := by
  have h := (rightM_iff a).1 ha
  have := sumTo_bd a (fun p => p.2 * gB p.1 b) 80000 (fun p hp => by
    have h1 := (okPt_iff p).1 (h.2.2.1 p hp)
    exact mulB (X := 100) (Y := 800) (by omega) (gB_bd p.1 b hb)) a.length (Nat.le_refl _)
  rw [sumTo_all] at this
  unfold gAB; omega

/-! ### Fractions in lowest terms -/
def fr (n d : Int) : Pt := (n / Int.gcd n d, d / Int.gcd n d)

/-! ### Matchpoints -/
/-- What a result gets from some results, in parts of 10000. -/
def gAll (r : List Pt) (l : List (List Pt)) : Int := (l.map fun o => gAB r o).sum
def gAllTo (r : List Pt) (l : List (List Pt)) (k : Nat) : Int := ((l.take k).map fun o => gAB r o).sum
theorem gAllTo_succ (r : List Pt) (l : List (List Pt)) (k : Nat) (h : k < l.length) : gAllTo r l (k + 1) = gAllTo r l k + gAB r l[k] := by
  unfold gAllTo; rw [List.take_succ_eq_append_getElem h, List.map_append, List.sum_append]; simp
theorem gAllTo_all (r : List Pt) (l : List (List Pt)) : gAllTo r l l.length = gAll r l := by unfold gAllTo gAll; rw [List.take_length]
theorem gAllTo_bd (r : List Pt) (l : List (List Pt)) (hr : rightM r = true) (hl : ∀ o ∈ l, rightM o = true) (k : Nat) (h : k ≤ l.length) : 0 ≤ gAllTo r l k ∧ gAllTo r l k ≤ 320000 * k := by
  induction k with
  | zero => simp [gAllTo]
  | succ k ih =>
    have := ih (by omega)
    have := gAB_bd r l[k] hr (hl _ (List.getElem_mem (by omega)))
    rw [gAllTo_succ r l k (by omega)]
    omega
def okAll (l : List (List Pt)) : Bool := l.all rightM
/-- The matchpoints of a result among results. -/
def ptsM (r : List Pt) (l : List (List Pt)) : Pt := fr (gAll r l - 10000) 10000

/-! ### The plain mathematics of fractions in lowest terms: equal values, sums by common divisors, comparing. No program stands in this text. -/
/-- A fraction in lowest terms. -/
def isF (f : Pt) : Prop := 1 ≤ f.2 ∧ Int.gcd f.1 f.2 = 1
theorem fr_scale (k n d : Int) (hk : 1 ≤ k) (hd : 1 ≤ d) : fr (k * n) (k * d) = fr n d := by
  unfold fr
  have hg : ((Int.gcd (k * n) (k * d) : Nat) : Int) = k * (Int.gcd n d : Nat) := by
    rw [Int.gcd_mul_left, Int.natCast_mul]
    congr 1; omega
  have hg1 : 1 ≤ Int.gcd n d := Int.gcd_pos_of_ne_zero_right _ (by omega)
  rw [hg, Int.mul_ediv_mul_of_pos _ _ (by omega), Int.mul_ediv_mul_of_pos _ _ (by omega)]
theorem fr_isF (n d : Int) (hd : 1 ≤ d) : isF (fr n d) := by
  have hg1 : 1 ≤ Int.gcd n d := Int.gcd_pos_of_ne_zero_right _ (by omega)
  have hdd : ((Int.gcd n d : Nat) : Int) ∣ d := Int.gcd_dvd_right _ _
  have hdn : ((Int.gcd n d : Nat) : Int) ∣ n := Int.gcd_dvd_left _ _
  refine ⟨?_, ?_⟩
  · obtain ⟨k, hk⟩ := hdd
    have : d / ((Int.gcd n d : Nat) : Int) = k := Int.ediv_eq_of_eq_mul_right (by omega) hk
    show 1 ≤ d / ((Int.gcd n d : Nat) : Int)
    rw [this]
    rcases Int.lt_or_le 0 k with h | h
    · omega
    · have := Int.mul_le_mul_of_nonneg_left h (show (0 : Int) ≤ ((Int.gcd n d : Nat) : Int) by omega)
      omega
  · show Int.gcd (n / ((Int.gcd n d : Nat) : Int)) (d / ((Int.gcd n d : Nat) : Int)) = 1
    exact Int.gcd_ediv_gcd_ediv_gcd (by omega)
theorem fr_self (f : Pt) (h : isF f) : fr f.1 f.2 = f := by
  unfold fr
  rw [h.2]; simp
theorem fr_cross (n d n' d' : Int) (hd : 1 ≤ d) (hd' : 1 ≤ d') (h : n * d' = n' * d) : fr n d = fr n' d' := by
  rw [← fr_scale d' n d hd' hd, ← fr_scale d n' d' hd hd', show d' * n = d * n' by rw [Int.mul_comm d' n, h, Int.mul_comm], Int.mul_comm d' d]
/-- The value of a fraction, across. -/
theorem fr_val (n d : Int) (hd : 1 ≤ d) : (fr n d).1 * d = n * (fr n d).2 := by
  have hg1 : 1 ≤ Int.gcd n d := Int.gcd_pos_of_ne_zero_right _ (by omega)
  obtain ⟨a, ha⟩ : ((Int.gcd n d : Nat) : Int) ∣ n := Int.gcd_dvd_left _ _
  obtain ⟨b, hb⟩ : ((Int.gcd n d : Nat) : Int) ∣ d := Int.gcd_dvd_right _ _
  have e1 : n / ((Int.gcd n d : Nat) : Int) = a := Int.ediv_eq_of_eq_mul_right (by omega) ha
  have e2 : d / ((Int.gcd n d : Nat) : Int) = b := Int.ediv_eq_of_eq_mul_right (by omega) hb
  show n / ((Int.gcd n d : Nat) : Int) * d = n * (d / ((Int.gcd n d : Nat) : Int))
  rw [e1, e2]
  generalize ((Int.gcd n d : Nat) : Int) = g at ha hb
  subst ha hb; grind
theorem fr_num (n d : Int) (hd : 1 ≤ d) : (fr n d).1.natAbs ≤ n.natAbs := by
  have hg1 : 1 ≤ Int.gcd n d := Int.gcd_pos_of_ne_zero_right _ (by omega)
  show (n / ((Int.gcd n d : Nat) : Int)).natAbs ≤ n.natAbs
  obtain ⟨a, ha⟩ : ((Int.gcd n d : Nat) : Int) ∣ n := Int.gcd_dvd_left _ _
  have e1 : n / ((Int.gcd n d : Nat) : Int) = a := Int.ediv_eq_of_eq_mul_right (by omega) ha
  rw [e1]
  conv => rhs; rw [ha]
  rw [Int.natAbs_mul]
  exact Nat.le_mul_of_pos_left _ (by omega)
theorem fr_den (n d : Int) (hd : 1 ≤ d) : 1 ≤ (fr n d).2 ∧ (fr n d).2 ≤ d := ⟨(fr_isF n d hd).1, Int.ediv_le_self _ (by omega)⟩

def addF (f g : Pt) : Pt := fr (f.1 * g.2 + g.1 * f.2) (f.2 * g.2)
/-- The sum by the greatest common divisor of the denominators. -/
theorem knuth (a b x y : Nat) (n m : Int) (c : Nat) (hc : c = Nat.gcd a b) (ha : 1 ≤ a) (hb : 1 ≤ b) (hn : Int.gcd n a = 1) (hm : Int.gcd m b = 1) (hx : x = a / c) (hy : y = b / c) (s : Int) (hs : s = n * y + m * x) (e : Nat) (he : e = Nat.gcd c (s.natAbs % c)) :
    addF (n, (a : Int)) (m, (b : Int)) = (s / e, ((x * (b / e) : Nat) : Int)) ∧ 1 ≤ e ∧ e ∣ b ∧ (e : Int) ∣ s ∧ 1 ≤ c := by
  have hc1 : 1 ≤ c := by rw [hc]; exact Nat.gcd_pos_of_pos_left _ ha
  have hca : c ∣ a := hc ▸ Nat.gcd_dvd_left a b
  have hcb : c ∣ b := hc ▸ Nat.gcd_dvd_right a b
  obtain ⟨x', hx'⟩ := hca
  obtain ⟨y', hy'⟩ := hcb
  have ex : x = x' := by rw [hx, hx']; exact Nat.mul_div_cancel_left _ hc1
  have ey : y = y' := by rw [hy, hy']; exact Nat.mul_div_cancel_left _ hc1
  subst ex ey
  have hx1 : 1 ≤ x := by rcases Nat.eq_zero_or_pos x with h | h; (rw [h] at hx'; omega); exact h
  have hy1 : 1 ≤ y := by rcases Nat.eq_zero_or_pos y with h | h; (rw [h] at hy'; omega); exact h
  have hxy : Nat.gcd x y = 1 := by
    have h1 : Nat.gcd a b = c * Nat.gcd x y := by rw [hx', hy', Nat.gcd_mul_left]
    rw [← hc] at h1
    have : c * Nat.gcd x y = c * 1 := by omega
    exact Nat.eq_of_mul_eq_mul_left hc1 this
  have hnx : Nat.gcd n.natAbs x = 1 := by
    have : Nat.gcd n.natAbs x ∣ Nat.gcd n.natAbs a := Nat.gcd_dvd_gcd_of_dvd_right _ ⟨c, by rw [hx', Nat.mul_comm]⟩
    rw [show Nat.gcd n.natAbs a = 1 from hn] at this
    exact Nat.dvd_one.1 this
  have hmy : Nat.gcd m.natAbs y = 1 := by
    have : Nat.gcd m.natAbs y ∣ Nat.gcd m.natAbs b := Nat.gcd_dvd_gcd_of_dvd_right _ ⟨c, by rw [hy', Nat.mul_comm]⟩
    rw [show Nat.gcd m.natAbs b = 1 from hm] at this
    exact Nat.dvd_one.1 this
  have hec : e = Nat.gcd c s.natAbs := by rw [he, Nat.gcd_comm c, ← Nat.gcd_rec, Nat.gcd_comm]
  have he1 : 1 ≤ e := by rw [hec]; exact Nat.gcd_pos_of_pos_left _ hc1
  have hedc : e ∣ c := by rw [hec]; exact Nat.gcd_dvd_left _ _
  have heds : (e : Int) ∣ s := by
    have : e ∣ s.natAbs := by rw [hec]; exact Nat.gcd_dvd_right _ _
    exact Int.ofNat_dvd_left.2 this
  -- s has no divisor in common with x, nor with y
  have key : ∀ (p q : Nat) (u v : Int), s = u * q + v * p → Nat.gcd u.natAbs p = 1 → Nat.gcd q p = 1 → Nat.Coprime p s.natAbs := by
    intro p q u v h1 h2 h3
    have h4 : Nat.Coprime p (u.natAbs * q) := Nat.Coprime.mul_right (Nat.Coprime.symm h2) (Nat.Coprime.symm h3)
    have h5 : Nat.gcd p s.natAbs ∣ u.natAbs * q := by
      have d1 : ((Nat.gcd p s.natAbs : Nat) : Int) ∣ s := Int.ofNat_dvd_left.2 (Nat.gcd_dvd_right _ _)
      have d2 : ((Nat.gcd p s.natAbs : Nat) : Int) ∣ v * p := Int.dvd_mul_of_dvd_right (Int.natCast_dvd_natCast.2 (Nat.gcd_dvd_left _ _))
      have d3 : ((Nat.gcd p s.natAbs : Nat) : Int) ∣ u * q := by
        have : u * q = s - v * p := by omega
        rw [this]; exact Int.dvd_sub d1 d2
      have := Int.ofNat_dvd_left.1 d3
      rw [Int.natAbs_mul] at this
      exact this
    have h6 : Nat.gcd p s.natAbs ∣ Nat.gcd p (u.natAbs * q) := Nat.dvd_gcd (Nat.gcd_dvd_left _ _) h5
    rw [h4] at h6
    exact Nat.dvd_one.1 h6
  have kx : Nat.Coprime x s.natAbs := key x y n m hs hnx (by rw [Nat.gcd_comm]; exact hxy)
  have ky : Nat.Coprime y s.natAbs := key y x m n (by rw [hs]; omega) hmy hxy
  have hden : c * (x * y) / e = x * (b / e) := by
    obtain ⟨k, hk⟩ := hedc
    rw [hy', hk, show e * k * (x * y) = e * (x * (k * y)) by grind, Nat.mul_div_cancel_left _ he1, Nat.mul_assoc e k y, Nat.mul_div_cancel_left _ he1]
  have hgs : Int.gcd s ((c * (x * y) : Nat) : Int) = e := by
    show Nat.gcd s.natAbs (c * (x * y)) = e
    rw [Nat.Coprime.gcd_mul_right_cancel_right c (Nat.Coprime.mul_right kx.symm ky.symm).symm, Nat.gcd_comm, hec]
  refine ⟨?_, he1, Nat.dvd_trans hedc ⟨y, hy'⟩, heds, hc1⟩
  unfold addF
  have e1 : n * (b : Int) + m * (a : Int) = (c : Int) * s := by rw [hs, hx', hy', Int.natCast_mul, Int.natCast_mul]; grind
  have e2 : (a : Int) * (b : Int) = (c : Int) * ((c * (x * y) : Nat) : Int) := by rw [hx', hy']; simp only [Int.natCast_mul]; grind
  have hcxy : 1 ≤ c * (x * y) := Nat.mul_pos hc1 (Nat.mul_pos hx1 hy1)
  show fr (n * (b : Int) + m * (a : Int)) ((a : Int) * (b : Int)) = _
  rw [e1, e2, fr_scale (c : Int) s _ (by omega) (by omega)]
  unfold fr
  rw [hgs, ← hden, Int.natCast_ediv]

end Go.Proofs.YtlobdeakgoicpaaDoor
