/- The walks of the package frac: sizes, common divisors, products of 64 bits, wide numbers, for fractions that are not too great. The walks of the package frac: the sum of two fractions that are not too great. The walk of frac.add. The walks of the package frac: Right, Add, Sum, Cmp, for fractions that are not too great. -/
import Derived.Test.YtlobdeakgoicpaaDoorFracW
import Derived.Test.YtlobdeakgoicpaaDoorScoMath
import Derived.Test.YtlobdeakgoicpaaDoorShelf
import Derived.Laws.Externs
import Derived.Shelf.Spec.BitsCarry
import Derived.Deep.CutBlock
import Derived.Deep.DeepMust
import Derived.Deep.DeepCutAuto
namespace Go.Proofs.YtlobdeakgoicpaaDoor
open Go.RowKit

/-! ### The walks of the package frac: sizes, common divisors, products of 64 bits, wide numbers, for fractions that are not too great. -/
theorem size_any (n : Int) (w : World) (h : -9223372036854775807 ≤ n ∧ n ≤ 9223372036854775807) :
    Calls Tryd.prog 58 #[.int .i64 n] w fun e w' => e = .returned (.int .u64 ((n.natAbs : Nat) : Int)) ∧ w' = w := by
  by_cases h0 : n < 0
  · rw [show ((n.natAbs : Nat) : Int) = -n by omega]
    exact (size_neg n w (by omega)).mono fun _ _ ⟨a, b⟩ => ⟨a, b.symm⟩
  · rw [show ((n.natAbs : Nat) : Int) = n by omega]
    exact (size_pos n w (by omega)).mono fun _ _ ⟨a, b⟩ => ⟨a, b.symm⟩

set_option maxHeartbeats 400000 in
theorem gcd_q (a b : Nat) (w : World) (ha : a ≤ 9223372036854775808) (hb : b ≤ 9223372036854775808) :
    Calls Tryd.prog 60 #[.int .u64 a, .int .u64 b] w fun e w' => e = .returned (.int .u64 (Nat.gcd a b)) ∧ ∃ n, w' = w.drewN n := by
  go_enter Tryd.func60, Tryd.ntmps60
  go_wp2
  go_loopw [0, 1] (fun x y wr => ∃ p q nq : Nat, p ≤ 9223372036854775808 ∧ q ≤ 9223372036854775808 ∧ x = .int .u64 (p : Int) ∧ y = .int .u64 (q : Int) ∧ Hid (Nat.gcd p q = Nat.gcd a b) ∧ wr = w.drewN nq) (fun _ y _ => (intOf y).toNat)
  case atStart => exact ⟨a, b, 0, ha, hb, rfl, rfl, rfl, rfl⟩
  case round =>
    obtain ⟨p, q, nq, hp, hq, rfl, rfl, hg, rfl⟩ := hrel
    by_cases h0 : q = 0
    · subst h0
      have hz : ((0 : Int) != 0) = false := rfl
      have Hg := Lib.hid (show p = Nat.gcd a b by rw [← hg.out, Nat.gcd_zero_right])
      go_wp2
      go_ret
      exact ⟨by rw [← Hg.out]; rfl, nq, rfl⟩
    · have hz : ((q : Int) != 0) = true := bne_iff_ne.2 (by omega)
      have hm : (p : Int) % (q : Int) = ((p % q : Nat) : Int) := (Int.natCast_emod p q).symm
      have hlt : p % q < q := Nat.mod_lt _ (by omega)
      have hq1 : (1 : Int) ≤ (q : Int) := by omega
      have Hg := Lib.hid (show Nat.gcd q (p % q) = Nat.gcd a b by rw [← hg.out, Nat.gcd_comm q, ← Nat.gcd_rec, Nat.gcd_comm])
      generalize p % q = r at *
      go_wp2
      go_quiet (fail)
      go_wp2
      go_roundw
      case rel => exact ⟨q, r, _, hq, by omega, rfl, int_eq hm, Hg, World.drewN_drewN _ _ _⟩
      case measure => simp [intOf]; omega

/-- A wide number that has no more than 64 bits. -/
def wV (x : Int) : Value := .agg #[.int .u64 0, .int .u64 x]

set_option maxHeartbeats 400000 in
theorem product_small (a b : Nat) (w : World) (ha : a ≤ 1000000000000000000) (hb : b ≤ 1000000000000000000) (h : a * b ≤ 1000000000000000000) :
    Calls Tryd.prog 57 #[.int .u64 a, .int .u64 b] w fun e w' => e = .returned (.agg #[.int .u64 0, .int .u64 ((a * b : Nat) : Int)]) ∧ Below w.heap.size w w' := by
  have HM := Lib.hid (fun W => Tryd.bits_Mul64 a b (by omega) (by omega) W)
  rw [show a * b / 18446744073709551616 = 0 by omega, show a * b % 18446744073709551616 = a * b by omega] at HM
  generalize a * b = m at *
  go_enter Tryd.func57, Tryd.ntmps57
  go_wp2_with fail
  refine (HM.out _).mono ?_
  rintro e _ ⟨rfl, rfl⟩
  go_wp2
  exact bodyPost_ret (v := .agg #[.int .u64 0, .int .u64 (m : Int)]) (by simp [results, Tryd.results57, go_sem]) rfl ⟨rfl, (by repeat (first | exact Below.refl _ _ | assumption | refine Below.drew ?_ | refine below_drewN ?_ _ | refine Below.alloc ?_ (by first | omega | (simp; done) | (simp; omega)) _ | refine Below.setCell ?_ (by first | omega | (simp; done) | (simp; omega)) _))⟩

theorem run_add (x y : Nat) (h : x + y ≤ 9223372036854775807) (W : World) :
    (callFunc 90 #[.int .u64 (x : Int), .int .u64 (y : Int), .int .u64 0]).run Tryd.prog W = .ok (.value (.tuple #[.int .u64 ((x + y : Nat) : Int), .int .u64 0])) W := by
  rw [run_callFunc_extern Tryd.func90 (by kernel_rfl) (by kernel_rfl) (by kernel_rfl) (e := add64Entry) (by kernel_rfl), run_add64 (x : Int) (y : Int) 0 (by omega) (by omega) (by omega) (by omega)]
  rw [show ((x : Int) + (y : Int) + 0) % 18446744073709551616 = ((x + y : Nat) : Int) by omega, show ((x : Int) + (y : Int) + 0) / 18446744073709551616 = 0 by omega]
  rfl
theorem run_sub (x y : Nat) (h : y ≤ x) (hx : x ≤ 9223372036854775807) (W : World) :
    (callFunc 91 #[.int .u64 (x : Int), .int .u64 (y : Int), .int .u64 0]).run Tryd.prog W = .ok (.value (.tuple #[.int .u64 ((x - y : Nat) : Int), .int .u64 0])) W := by
  have e := run_sub64 (P := Tryd.prog) x y 0 (by omega) W
  rw [show (x + 18446744073709551616 - y - 0) % 18446744073709551616 = x - y by omega, if_neg (by omega)] at e
  rw [run_callFunc_extern Tryd.func91 (by kernel_rfl) (by kernel_rfl) (by kernel_rfl) (e := sub64Entry) (by kernel_rfl)]
  rw [show ((sub64Entry #[.int .u64 (x : Int), .int .u64 (y : Int), .int .u64 0]).run Tryd.prog W) = _ from e]
  rfl

set_option maxHeartbeats 400000 in
theorem plus_small (a b : Nat) (w : World) (h : a + b ≤ 9223372036854775807) :
    Calls Tryd.prog 72 #[.agg #[.int .u64 0, .int .u64 a], .agg #[.int .u64 0, .int .u64 b]] w fun e w' => e = .returned (.agg #[.int .u64 0, .int .u64 ((a + b : Nat) : Int)]) ∧ Below w.heap.size w w' := by
  have r1 := fun W => run_add a b h W
  have r2 := fun W => run_add 0 0 (by omega) W
  rw [show ((0 : Nat) : Int) = 0 from rfl] at r2
  generalize a + b = m at *
  go_enter Tryd.func72, Tryd.ntmps72
  go_wp2_with fail
  exact bodyPost_ret (v := .agg #[.int .u64 0, .int .u64 (m : Int)]) (by simp [results, Tryd.results72, go_sem]) rfl ⟨rfl, (by repeat (first | exact Below.refl _ _ | assumption | refine Below.drew ?_ | refine below_drewN ?_ _ | refine Below.alloc ?_ (by first | omega | (simp; done) | (simp; omega)) _ | refine Below.setCell ?_ (by first | omega | (simp; done) | (simp; omega)) _))⟩

set_option maxHeartbeats 400000 in
theorem minus_small (a b : Nat) (w : World) (h : b ≤ a) (ha : a ≤ 9223372036854775807) :
    Calls Tryd.prog 73 #[.agg #[.int .u64 0, .int .u64 a], .agg #[.int .u64 0, .int .u64 b]] w fun e w' => e = .returned (.agg #[.int .u64 0, .int .u64 ((a - b : Nat) : Int)]) ∧ Below w.heap.size w w' := by
  have r1 := fun W => run_sub a b h ha W
  have r2 := fun W => run_sub 0 0 (by omega) (by omega) W
  rw [show ((0 : Nat) : Int) = 0 from rfl] at r2
  generalize a - b = m at *
  go_enter Tryd.func73, Tryd.ntmps73
  go_wp2_with fail
  exact bodyPost_ret (v := .agg #[.int .u64 0, .int .u64 (m : Int)]) (by simp [results, Tryd.results73, go_sem]) rfl ⟨rfl, (by repeat (first | exact Below.refl _ _ | assumption | refine Below.drew ?_ | refine below_drewN ?_ _ | refine Below.alloc ?_ (by first | omega | (simp; done) | (simp; omega)) _ | refine Below.setCell ?_ (by first | omega | (simp; done) | (simp; omega)) _))⟩

set_option maxHeartbeats 1000000 in
theorem wcmp_small (a b : Nat) (w : World) (_ : a ≤ 9223372036854775807) (hb : b ≤ 9223372036854775807) :
    Calls Tryd.prog 59 #[.agg #[.int .u64 0, .int .u64 a], .agg #[.int .u64 0, .int .u64 b]] w fun e w' => e = .returned (.int .i64 (if a < b then -1 else if b < a then 1 else 0)) ∧ Below w.heap.size w w' := by
  have i0 : ∀ W, (Instr.index 94 (.agg #[.int .u64 0, .int .u64 (a : Int)]) (.int .i64 0)).run Tryd.prog W = .ok (.int .u64 0) W := fun _ => by kernel_rfl
  have i1 : ∀ W, (Instr.index 94 (.agg #[.int .u64 0, .int .u64 (a : Int)]) (.int .i64 1)).run Tryd.prog W = .ok (.int .u64 (a : Int)) W := fun _ => by kernel_rfl
  obtain ⟨c, hc⟩ : ∃ c : Int, (if a < b then -1 else if b < a then 1 else 0) = c := ⟨_, rfl⟩
  rw [hc]
  have Hc := Lib.hid hc
  clear hc
  go_enter Tryd.func59, Tryd.ntmps59
  go_wp2_with fail
  go_loop [8] (fun i => i = .int .i64 0 ∨ i = .int .i64 1 ∨ (i = .int .i64 2 ∧ Hid (a = b))) (fun i => 2 - (intOf i).toNat)
  case atStart => exact .inl rfl
  case round =>
    rcases hrel with rfl | rfl | ⟨rfl, hab⟩
    · go_wp2
      go_round
      case rel => exact .inr (.inl rfl)
      case measure => simp [intOf]
    · rcases Nat.lt_trichotomy a b with h | h | h
      · have Hx := Lib.hid (show c = -1 by rw [← Hc.out, if_pos h])
        go_wp2
        go_ret
        exact ⟨ret_int Hx.out.symm, (by repeat (first | exact Below.refl _ _ | assumption | refine Below.drew ?_ | refine below_drewN ?_ _ | refine Below.alloc ?_ (by first | omega | (simp; done) | (simp; omega)) _ | refine Below.setCell ?_ (by first | omega | (simp; done) | (simp; omega)) _))⟩
      · have Hab := Lib.hid h
        subst h
        go_wp2
        go_round
        case rel => exact .inr (.inr ⟨rfl, by first | exact rfl | exact Lib.hid trivial⟩)
        case measure => simp [intOf]
      · have Hx := Lib.hid (show c = 1 by rw [← Hc.out, if_neg (by omega), if_pos h])
        go_wp2
        go_ret
        exact ⟨ret_int Hx.out.symm, (by repeat (first | exact Below.refl _ _ | assumption | refine Below.drew ?_ | refine below_drewN ?_ _ | refine Below.alloc ?_ (by first | omega | (simp; done) | (simp; omega)) _ | refine Below.setCell ?_ (by first | omega | (simp; done) | (simp; omega)) _))⟩
    · have Hx := Lib.hid (show c = 0 by have := hab.out; rw [← Hc.out, if_neg (by omega), if_neg (by omega)])
      go_wp2
      go_ret
      exact ⟨ret_int Hx.out.symm, (by repeat (first | exact Below.refl _ _ | assumption | refine Below.drew ?_ | refine below_drewN ?_ _ | refine Below.alloc ?_ (by first | omega | (simp; done) | (simp; omega)) _ | refine Below.setCell ?_ (by first | omega | (simp; done) | (simp; omega)) _))⟩

set_option maxHeartbeats 1000000 in
theorem div64_small (m d : Nat) (w : World) (hm : m ≤ 9223372036854775807) (hd : 1 ≤ d) (hd2 : d ≤ 9223372036854775807) :
    Calls Tryd.prog 92 #[.int .u64 0, .int .u64 m, .int .u64 d] w fun e w' => e = .returned (.tuple #[.int .u64 ((m / d : Nat) : Int), .int .u64 ((m % d : Nat) : Int)]) ∧ ∃ n, w' = w.drewN n := by
  have e1 : (m : Int) / (d : Int) = ((m / d : Nat) : Int) := (Int.natCast_ediv _ _).symm
  have e2 : (m : Int) % (d : Int) = ((m % d : Nat) : Int) := (Int.natCast_emod _ _).symm
  have q1 : m / d ≤ m := Nat.div_le_self _ _
  have q2 : m % d < d := Nat.mod_lt _ hd
  have z1 : ((d : Int) == 0) = false := beq_eq_false_iff_ne.2 (by omega)
  have z2 : ¬ d = 0 := by omega
  have z3 : ¬ (d : Int) ≤ 0 := by omega
  have z4 : decide ((d : Int) ≤ 0) = false := decide_eq_false z3
  generalize m / d = x at *
  generalize m % d = y at *
  have e3 : (m : Int).tdiv (d : Int) = (x : Int) := by rw [Int.tdiv_eq_ediv_of_nonneg (by omega)]; exact e1
  have e4 : (m : Int).tmod (d : Int) = (y : Int) := by rw [Int.tmod_eq_emod_of_nonneg (by omega)]; exact e2
  have i1 : IntKind.u64.wrap (x : Int) = (x : Int) := IntWalk.u64_in _ (by omega)
  have i2 : IntKind.u64.wrap (y : Int) = (y : Int) := IntWalk.u64_in _ (by omega)
  go_enter Tryd.func92, Tryd.ntmps92
  go_wp2
  go_quiet (fail)
  go_wp2
  go_ret2
  exact ⟨rfl, _, rfl⟩

set_option maxHeartbeats 1000000 in
theorem over_small (m d : Nat) (w : World) (hm : m ≤ 9223372036854775807) (hd : 1 ≤ d) (hd2 : d ≤ 9223372036854775807) :
    Calls Tryd.prog 74 #[.agg #[.int .u64 0, .int .u64 m], .int .u64 d] w fun e w' => e = .returned (.tuple #[.agg #[.int .u64 0, .int .u64 ((m / d : Nat) : Int)], .int .u64 ((m % d : Nat) : Int)]) ∧ Below w.heap.size w w' := by
  have HD := Lib.hid (fun W => div64_small m d W hm hd hd2)
  have z1 : ((d : Int) == 0) = false := beq_eq_false_iff_ne.2 (by omega)
  have z2 : ¬ d = 0 := by omega
  have e1 : (0 : Int) / (d : Int) = 0 := Int.zero_ediv _
  have e2 : (0 : Int) % (d : Int) = 0 := Int.zero_emod _
  have e3 : (0 : Int).tdiv (d : Int) = 0 := Int.zero_tdiv _
  have e4 : (0 : Int).tmod (d : Int) = 0 := Int.zero_tmod _
  generalize m / d = x at *
  generalize m % d = y at *
  go_enter Tryd.func74, Tryd.ntmps74
  go_wp2
  go_quiet (fail)
  go_wp2_with fail
  refine (HD.out _).mono ?_
  rintro e _ ⟨rfl, nq, rfl⟩
  go_wp2
  exact bodyPost_ret (v := .tuple #[.agg #[.int .u64 0, .int .u64 (x : Int)], .int .u64 (y : Int)]) (by simp [results, Tryd.results74, go_sem]) rfl ⟨rfl, (by repeat (first | exact Below.refl _ _ | assumption | refine Below.drew ?_ | refine below_drewN ?_ _ | refine Below.alloc ?_ (by first | omega | (simp; done) | (simp; omega)) _ | refine Below.setCell ?_ (by first | omega | (simp; done) | (simp; omega)) _))⟩

/-! ### pack, with either sign -/
set_option maxHeartbeats 400000 in
theorem pack_zero (y : Int) (w : World) (hy : 0 ≤ y ∧ y ≤ 9223372036854775807) :
    Calls Tryd.prog 75 #[.bool true, .agg #[.int .u64 0, .int .u64 0], .agg #[.int .u64 0, .int .u64 y]] w fun e w' => e = .returned (.tuple #[.agg #[.int .i64 0, .int .i64 y], .int .i64 0]) ∧ Below w.heap.size w w' := by
  go_enter Tryd.func75, Tryd.ntmps75
  go_wp2
  exact bodyPost_ret (v := .tuple #[.agg #[.int .i64 0, .int .i64 y], .int .i64 0]) (by simp [results, Tryd.results75, go_sem]) rfl ⟨rfl, (by repeat (first | exact Below.refl _ _ | assumption | refine Below.drew ?_ | refine below_drewN ?_ _ | refine Below.alloc ?_ (by first | omega | (simp; done) | (simp; omega)) _ | refine Below.setCell ?_ (by first | omega | (simp; done) | (simp; omega)) _))⟩

theorem pack_any (sg : Bool) (x y : Nat) (w : World) (hx : x ≤ 9223372036854775807) (hy : y ≤ 9223372036854775807) :
    Calls Tryd.prog 75 #[.bool sg, .agg #[.int .u64 0, .int .u64 x], .agg #[.int .u64 0, .int .u64 y]] w fun e w' => e = .returned (.tuple #[.agg #[.int .i64 (if sg then -(x : Int) else (x : Int)), .int .i64 y], .int .i64 0]) ∧ Below w.heap.size w w' := by
  cases sg with
  | false => exact pack_pos x y w (by omega) (by omega)
  | true =>
    by_cases h0 : x = 0
    · subst h0
      exact pack_zero y w (by omega)
    · exact pack_neg x y w (by omega) (by omega)

/-! ### The walks of the package frac: the sum of two fractions that are not too great. -/
/-- A fraction in lowest terms that is not too great. -/
def smF (f : Pt) : Prop := isF f ∧ (-1000000000 ≤ f.1 ∧ f.1 ≤ 1000000000) ∧ f.2 ≤ 1000000
/-- A fraction in lowest terms that may be greater: it may be added and compared, but not multiplied. -/
def wdF (f : Pt) : Prop := isF f ∧ (-30000000000 ≤ f.1 ∧ f.1 ≤ 30000000000) ∧ f.2 ≤ 30000000
theorem wd_of {f : Pt} (h : smF f) : wdF f := ⟨h.1, ⟨Int.le_trans (by decide) h.2.1.1, Int.le_trans h.2.1.2 (by decide)⟩, Int.le_trans h.2.2 (by decide)⟩

/-- How two fractions add up: the sign, and how far the sum by the common divisor is from 0. -/
def addWay (p q : Bool) (P1 P2 : Nat) (sg : Bool) (M : Nat) : Prop :=
  (p = q ∧ sg = p ∧ M = P1 + P2) ∨ (p ≠ q ∧ P2 ≤ P1 ∧ sg = p ∧ M = P1 - P2) ∨ (p ≠ q ∧ P1 < P2 ∧ sg = q ∧ M = P2 - P1)

theorem add_plan (n m : Int) (a b : Nat) (hf : wdF (n, (a : Int))) (hg : wdF (m, (b : Int))) :
    ∃ (c x y P1 P2 M e X Y : Nat) (sg : Bool), Nat.gcd a b = c ∧ a / c = x ∧ b / c = y ∧ n.natAbs * y = P1 ∧ m.natAbs * x = P2 ∧ addWay (decide (n < 0)) (decide (m < 0)) P1 P2 sg M ∧ Nat.gcd c (M % c) = e ∧ M / e = X ∧ b / e = Y ∧
      addF (n, (a : Int)) (m, (b : Int)) = ((if sg then -(X : Int) else (X : Int)), ((x * Y : Nat) : Int)) ∧
      1 ≤ c ∧ c ≤ 30000000 ∧ x ≤ 30000000 ∧ y ≤ 30000000 ∧ P1 ≤ 900000000000000000 ∧ P2 ≤ 900000000000000000 ∧ M ≤ 1800000000000000000 ∧ 1 ≤ e ∧ e ≤ 30000000 ∧ Y ≤ 30000000 ∧ x * Y ≤ 900000000000000 ∧ X ≤ 1800000000000000000 ∧ n.natAbs ≤ 30000000000 ∧ m.natAbs ≤ 30000000000 ∧ 1 ≤ a ∧ a ≤ 30000000 ∧ 1 ≤ b ∧ b ≤ 30000000 := by
  obtain ⟨⟨ha1, hga⟩, hn, ha⟩ := hf
  obtain ⟨⟨hb1, hgb⟩, hm, hb⟩ := hg
  dsimp only at *
  obtain ⟨c, hc⟩ : ∃ c, Nat.gcd a b = c := ⟨_, rfl⟩
  obtain ⟨x, hx⟩ : ∃ x, a / c = x := ⟨_, rfl⟩
  obtain ⟨y, hy⟩ : ∃ y, b / c = y := ⟨_, rfl⟩
  have hc1 : 1 ≤ c := by rw [← hc]; exact Nat.gcd_pos_of_pos_left _ (by omega)
  have hca : c ≤ a := by rw [← hc]; exact Nat.gcd_le_left _ (by omega)
  have hxa : x ≤ a := by rw [← hx]; exact Nat.div_le_self _ _
  have hyb : y ≤ b := by rw [← hy]; exact Nat.div_le_self _ _
  obtain ⟨P1, hP1⟩ : ∃ P, n.natAbs * y = P := ⟨_, rfl⟩
  obtain ⟨P2, hP2⟩ : ∃ P, m.natAbs * x = P := ⟨_, rfl⟩
  have b1 : P1 ≤ 900000000000000000 := by rw [← hP1]; exact Nat.le_trans (Nat.mul_le_mul (show n.natAbs ≤ 30000000000 by omega) (show y ≤ 30000000 by omega)) (by decide)
  have b2 : P2 ≤ 900000000000000000 := by rw [← hP2]; exact Nat.le_trans (Nat.mul_le_mul (show m.natAbs ≤ 30000000000 by omega) (show x ≤ 30000000 by omega)) (by decide)
  have v1 : n * (y : Int) = if n < 0 then -(P1 : Int) else (P1 : Int) := by
    rw [← hP1, Int.natCast_mul]
    split
    · rw [show ((n.natAbs : Nat) : Int) = -n by omega, Int.neg_mul, Int.neg_neg]
    · rw [show ((n.natAbs : Nat) : Int) = n by omega]
  have v2 : m * (x : Int) = if m < 0 then -(P2 : Int) else (P2 : Int) := by
    rw [← hP2, Int.natCast_mul]
    split
    · rw [show ((m.natAbs : Nat) : Int) = -m by omega, Int.neg_mul, Int.neg_neg]
    · rw [show ((m.natAbs : Nat) : Int) = m by omega]
  obtain ⟨sg, M, hw, hs, hM⟩ : ∃ (sg : Bool) (M : Nat), addWay (decide (n < 0)) (decide (m < 0)) P1 P2 sg M ∧ (if sg then -(M : Int) else (M : Int)) = n * (y : Int) + m * (x : Int) ∧ M ≤ 1800000000000000000 := by
    rw [v1, v2]
    unfold addWay
    by_cases h1 : n < 0 <;> by_cases h2 : m < 0
    · exact ⟨true, P1 + P2, .inl (by simp [h1, h2]), by simp [h1, h2]; omega, by omega⟩
    · by_cases h3 : P2 ≤ P1
      · exact ⟨true, P1 - P2, .inr (.inl (by simp [h1, h2, h3])), by simp [h1, h2]; omega, by omega⟩
      · exact ⟨false, P2 - P1, .inr (.inr (by simp [h1, h2]; omega)), by simp [h1, h2]; omega, by omega⟩
    · by_cases h3 : P2 ≤ P1
      · exact ⟨false, P1 - P2, .inr (.inl (by simp [h1, h2, h3])), by simp [h1, h2]; omega, by omega⟩
      · exact ⟨true, P2 - P1, .inr (.inr (by simp [h1, h2]; omega)), by simp [h1, h2]; omega, by omega⟩
    · exact ⟨false, P1 + P2, .inl (by simp [h1, h2]), by simp [h1, h2], by omega⟩
  obtain ⟨e, he⟩ : ∃ e, Nat.gcd c (M % c) = e := ⟨_, rfl⟩
  have hsa : (n * (y : Int) + m * (x : Int)).natAbs = M := by rw [← hs]; split <;> omega
  obtain ⟨k1, k2, k3, k4, -⟩ := knuth a b x y n m c hc.symm (by omega) (by omega) hga hgb hx.symm hy.symm _ rfl e (by rw [hsa]; exact he.symm)
  have hec : e ≤ c := by rw [← he]; exact Nat.gcd_le_left _ (by omega)
  have hY : b / e ≤ b := Nat.div_le_self _ _
  have hX : M / e ≤ M := Nat.div_le_self _ _
  refine ⟨c, x, y, P1, P2, M, e, M / e, b / e, sg, hc, hx, hy, hP1, hP2, hw, he, rfl, rfl, ?_, hc1, by omega, by omega, by omega, b1, b2, hM, k2, by omega, by omega, Nat.le_trans (Nat.mul_le_mul (show x ≤ 30000000 by omega) (show b / e ≤ 30000000 by omega)) (by decide), by omega, by omega, by omega, by omega, by omega, by omega, by omega⟩
  rw [k1, ← hs]
  refine Prod.ext ?_ rfl
  show (if sg then -(M : Int) else (M : Int)) / (e : Int) = _
  have hed : (e : Int) ∣ (M : Int) := by
    rw [← hs] at k4
    cases sg
    · exact k4
    · exact (Int.dvd_neg.1 k4)
  cases sg
  · show (M : Int) / (e : Int) = ((M / e : Nat) : Int)
    exact (Int.natCast_ediv _ _).symm
  · show -(M : Int) / (e : Int) = -((M / e : Nat) : Int)
    rw [Int.neg_ediv_of_dvd hed, Int.natCast_ediv]

/-! ### The walk of frac.add. -/
theorem keepB {W w : World} {p : Addr} {v : Value} (hb : Below W.heap.size W w) (hp : p.block < W.heap.size) (h : W.cell? p = some v) : w.cell? p = some v := (hb.cell hp).trans h
theorem keepA {W w : World} {p : Addr} {v : Value} (hb : Below W.heap.size W w) (hp : p.block < W.heap.size) (h : W.cell? p = some v) (o : Obj) : (w.alloc o).cell? p = some v := by
  have h2 : w.cell? p = some v := (hb.cell hp).trans h
  rw [World.cell?_alloc_some w p o (by rw [h2]; rfl)]; exact h2
theorem keepC {W : World} {p : Addr} {v : Value} (h : W.cell? p = some v) (o : Obj) : (W.alloc o).cell? p = some v := by
  rw [World.cell?_alloc_some W p o (by rw [h]; rfl)]; exact h
theorem keepS {W : World} {p q : Addr} {v : Value} (h : W.cell? p = some v) (hq : q.block ≠ p.block) (u : Value) : (W.setCell q u).cell? p = some v := by
  have := Below.heap_setCell W q u p.block (by omega)
  unfold World.cell? at h ⊢
  rw [this]; exact h

set_option maxHeartbeats 4000000 in
set_option maxRecDepth 100000 in
theorem add_low (n m : Int) (a b : Nat) (hf : wdF (n, (a : Int))) (hg : wdF (m, (b : Int))) (w : World) :
    Calls Tryd.prog 50 #[.agg #[.int .i64 n, .int .i64 a], .agg #[.int .i64 m, .int .i64 b], .bool (decide (m < 0))] w fun e w' => e = .returned (.tuple #[.agg #[.int .i64 (addF (n, (a : Int)) (m, (b : Int))).1, .int .i64 (addF (n, (a : Int)) (m, (b : Int))).2], .int .i64 0]) ∧ Below w.heap.size w w' := by
  obtain ⟨c, x, y, P1, P2, M, e, X, Y, sg, hc, hx, hy, hP1, hP2, hw, he, hX, hY, hadd, c1, c2, x2, y2, p1, p2, m2, e1, e2, Y2, xY, X2, n2, mm2, a1, a2, b1, b2⟩ := add_plan n m a b hf hg
  rw [hadd]
  obtain ⟨D, hD⟩ : ∃ D : Int, (if sg then -(X : Int) else (X : Int)) = D := ⟨_, rfl⟩
  rw [hD]
  have HG1 := Lib.hid (fun W => gcd_any a b W (by omega) (by omega))
  have HG2 := Lib.hid (fun W => gcd_any c (M % c) W (by omega) (by have := Nat.mod_lt M c1; omega))
  have HO1 := Lib.hid (fun W => over_small M c W (by omega) (by omega) (by omega))
  have HO2 := Lib.hid (fun W => over_small M e W (by omega) (by omega) (by omega))
  have HP1 := Lib.hid (fun W => product_small n.natAbs y W (by omega) (by omega) (by omega))
  have HP2 := Lib.hid (fun W => product_small m.natAbs x W (by omega) (by omega) (by omega))
  have HP3 := Lib.hid (fun W => product_small x Y W (by omega) (by omega) (by omega))
  have HK := Lib.hid (fun W => pack_any sg X (x * Y) W (by omega) (by omega))
  have hq1 : M % c < c := Nat.mod_lt _ c1
  rw [hX] at HO2
  rw [hc] at HG1
  rw [he] at HG2
  rw [hP1] at HP1
  rw [hP2] at HP2
  rw [hD] at HK
  have e1' : (a : Int) / (c : Int) = (x : Int) := by rw [← hx]; exact (Int.natCast_ediv _ _).symm
  have e2' : (b : Int) / (c : Int) = (y : Int) := by rw [← hy]; exact (Int.natCast_ediv _ _).symm
  have e3' : (b : Int) / (e : Int) = (Y : Int) := by rw [← hY]; exact (Int.natCast_ediv _ _).symm
  generalize M / c = o1 at *
  generalize M % c = o2 at *
  generalize M % e = o3 at *
  generalize x * Y = z at *
  clear hf hg hadd hc hx hy hP1 hP2 he hX hY hD
  have T1 := Lib.hid (show (a : Int).tdiv (c : Int) = (x : Int) by rw [Int.tdiv_eq_ediv_of_nonneg (by omega)]; exact e1')
  have T2 := Lib.hid (show (b : Int).tdiv (c : Int) = (y : Int) by rw [Int.tdiv_eq_ediv_of_nonneg (by omega)]; exact e2')
  have T3 := Lib.hid (show (b : Int).tdiv (e : Int) = (Y : Int) by rw [Int.tdiv_eq_ediv_of_nonneg (by omega)]; exact e3')
  have E1 := Lib.hid e1'
  have E2 := Lib.hid e2'
  have E3 := Lib.hid e3'
  have I1 := Lib.hid (show IntKind.u64.wrap (x : Int) = (x : Int) from IntWalk.u64_in _ (by omega))
  have I2 := Lib.hid (show IntKind.u64.wrap (y : Int) = (y : Int) from IntWalk.u64_in _ (by omega))
  have I3 := Lib.hid (show IntKind.u64.wrap (Y : Int) = (Y : Int) from IntWalk.u64_in _ (by omega))
  clear e1' e2' e3'
  have cz : ((c : Int) == 0) = false := beq_eq_false_iff_ne.2 (by omega)
  have ez : ((e : Int) == 0) = false := beq_eq_false_iff_ne.2 (by omega)
  have cn : ¬ c = 0 := by omega
  have en : ¬ e = 0 := by omega
  have HSa := Lib.hid (fun W => size_any (a : Int) W (by omega))
  have HSb := Lib.hid (fun W => size_any (b : Int) W (by omega))
  have HSn := Lib.hid (fun W => size_any n W (by omega))
  have HSm := Lib.hid (fun W => size_any m W (by omega))
  rw [show (((a : Int).natAbs : Nat) : Int) = (a : Int) by omega] at HSa
  rw [show (((b : Int).natAbs : Nat) : Int) = (b : Int) by omega] at HSb
  go_enter Tryd.func50, Tryd.ntmps50
  go_upto_region 1 with fail
  obtain ⟨W0, hW0⟩ : ∃ W0, (((w.alloc (.cells #[.int .i64 n, .int .i64 a] 23)).alloc (.cells #[.int .i64 m, .int .i64 b] 23)).alloc (.cells #[.int .i64 0, .int .i64 0] 23)) = W0 := ⟨_, rfl⟩
  have hB0 : Below w.heap.size w W0 := by rw [← hW0]; exact (by repeat (first | exact Below.refl _ _ | assumption | refine Below.drew ?_ | refine below_drewN ?_ _ | refine Below.alloc ?_ (by first | omega | (simp; done) | (simp; omega)) _ | refine Below.setCell ?_ (by first | omega | (simp; done) | (simp; omega)) _))
  have k0 : W0.heap[w.heap.size]? = some (.cells #[.int .i64 n, .int .i64 a] 23) := by rw [← hW0]; exact blk_alloc (blk_alloc (blk_new _ rfl) _) _
  have k1 : W0.heap[w.heap.size + 1]? = some (.cells #[.int .i64 m, .int .i64 b] 23) := by rw [← hW0]; exact blk_alloc (blk_new _ (by simp)) _
  have k2 : W0.heap[w.heap.size + 2]? = some (.cells #[.int .i64 0, .int .i64 0] 23) := by rw [← hW0]; exact blk_new _ (by simp)
  have s0 : W0.heap.size = w.heap.size + 3 := by rw [← hW0]; simp
  rw [hW0]
  clear hW0
  have q0 := blk_cell k0 0
  have q1 := blk_cell k0 1
  have q2 := blk_cell k1 0
  have q3 := blk_cell k1 1
  go_region_held3 (fun w' => w'.cell? ⟨w.heap.size, 1, none⟩ = some (.int .i64 a) ∧ w'.cell? ⟨w.heap.size + 1, 1, none⟩ = some (.int .i64 b)) ((first | exact ⟨q1, q3⟩)) ((go_at_call 58; first | ((with_reducible refine (HSa.out _).mono ?_); rintro ee we ⟨rfl, rfl⟩) | ((with_reducible refine (HSb.out _).mono ?_); rintro ee we ⟨rfl, rfl⟩)))
  go_wp2_with fail
  refine (HG1.out _).mono ?_
  rintro ee W1 ⟨rfl, hb1⟩
  have hB1 : Below W0.heap.size W0 W1 := ((Below.refl _ _).drew).trans (hb1.mono (Nat.le_refl _))
  have s1 : W0.heap.size ≤ W1.heap.size := hB1.size
  have k0 : W1.heap[w.heap.size]? = _ := blk_below k0 hB1 (by omega)
  have k1 : W1.heap[w.heap.size + 1]? = _ := blk_below k1 hB1 (by omega)
  have k2 : W1.heap[w.heap.size + 2]? = _ := blk_below k2 hB1 (by omega)
  have hB1 : Below w.heap.size w W1 := hB0.trans (hB1.mono (by omega))
  clear q0 q1 q2 q3 hb1 hB0
  go_upto_region 3 with fail
  go_cut [11] (fun v wx => ∃ g : Nat, v = .pointer (some ⟨g, 0, none⟩) ∧ W1.heap.size ≤ g ∧ wx.cell? ⟨g, 0, none⟩ = some (.int .u64 0) ∧ wx.cell? ⟨g, 1, none⟩ = some (.int .u64 P1) ∧ g < wx.heap.size ∧ Below W1.heap.size W1 wx)
  case first =>
    have hlt : w.heap.size < W1.heap.size := by omega
    have q0 := blk_cell k0 0
    have hlt2 : ∀ o, w.heap.size < (W1.alloc o).heap.size := fun o => by simp; omega
    have hne : W1.heap.size ≠ w.heap.size := by omega
    have HF := Lib.hid ((HP1.out (W1.alloc (.cells #[.int .u64 0, .int .u64 0] 94)).drew).mono fun ee wa (h : ee = .returned (.agg #[.int .u64 0, .int .u64 (P1 : Int)]) ∧ Below (W1.alloc (.cells #[.int .u64 0, .int .u64 0] 94)).drew.heap.size (W1.alloc (.cells #[.int .u64 0, .int .u64 0] 94)).drew wa) =>
      (show (ee = .returned (.agg #[.int .u64 0, .int .u64 (P1 : Int)]) ∧ Below (W1.alloc (.cells #[.int .u64 0, .int .u64 0] 94)).drew.heap.size (W1.alloc (.cells #[.int .u64 0, .int .u64 0] 94)).drew wa ∧ _) from ⟨h.1, h.2, frame2 (W := W1.alloc (.cells #[.int .u64 0, .int .u64 0] 94)) (t := 94) (g := W1.heap.size) (x := .int .u64 0) (y := .int .u64 0) (blk_new _ rfl) h.2 (by simp)⟩))
    have e1' := E2.out
    have t1 := T2.out
    have i1 := I2.out
    clear HG1 HG2 HO1 HO2 HP2 HP3 HK hw hq1 k0 k1 k2 HSa HSb HSm T1 T3 E1 E3 I1 I3
    go_region_held3 (fun w' => w'.cell? ⟨w.heap.size, 0, none⟩ = some (.int .i64 n)) ((first | exact q0 | exact keepC q0 _ | exact keepB hba hlt q0 | exact keepB hba (hlt2 _) (keepC q0 _) | exact keepA hba hlt q0 _ | exact keepS (keepS (keepB hba (hlt2 _) (keepC q0 _)) hne _) hne _ | go_keep))
      ((first | (go_at_call 57; (refine HF.out.mono ?_); rintro ee wa ⟨rfl, hba, hblk2, hc0, hc1, hf0, hf1⟩) | (go_at_call 58; (with_reducible refine (HSn.out _).mono ?_); rintro ee we ⟨rfl, rfl⟩) | (go_at_call 57; (with_reducible refine (HP1.out _).mono ?_); rintro ee wa ⟨rfl, hba⟩)))
    all_goals (go_wp2_with fail)
    all_goals go_meet
    all_goals (first
      | exact ⟨wa.heap.size, rfl, hba.size, blk_cell (blk_new _ rfl) 0, blk_cell (blk_new _ rfl) 1, by simp, ((Below.refl _ _).drew.trans (hba.mono (Nat.le_refl _))).alloc hba.size _⟩
      | exact ⟨W1.heap.size, rfl, Nat.le_refl _, blk_cell (blk_set (blk_set hblk2 0 _) 1 _) 0, blk_cell (blk_set (blk_set hblk2 0 _) 1 _) 1, blk_lt (blk_set (blk_set hblk2 0 _) 1 _), ((((Below.refl _ _).alloc (Nat.le_refl _) _).drew.trans (hba.mono (by simp))).setCell (Nat.le_refl _) _).setCell (Nat.le_refl _) _⟩)
  case rest =>
    obtain ⟨g1, rfl, hg1, d0, d1, hl1, hBx⟩ := hcut
    rename World => W2
    have sx := hBx.size
    have k0 : W2.heap[w.heap.size]? = _ := blk_below k0 hBx (by omega)
    have k1 : W2.heap[w.heap.size + 1]? = _ := blk_below k1 hBx (by omega)
    have k2 : W2.heap[w.heap.size + 2]? = _ := blk_below k2 hBx (by omega)
    have hB2 : Below w.heap.size w W2 := hB1.trans (hBx.mono (by omega))
    have s2 : w.heap.size + 3 ≤ W2.heap.size := by omega
    clear HG1 HSa HSb HP1 HSn I2 T2 E2
    go_upto_region 4 with fail
    go_cut [12] (fun v wx => ∃ g : Nat, v = .pointer (some ⟨g, 0, none⟩) ∧ W2.heap.size ≤ g ∧ wx.cell? ⟨g, 0, none⟩ = some (.int .u64 0) ∧ wx.cell? ⟨g, 1, none⟩ = some (.int .u64 P2) ∧ g < wx.heap.size ∧ Below W2.heap.size W2 wx)
    case first =>
      have hlt : w.heap.size + 1 < W2.heap.size := by omega
      have q0 := blk_cell k1 0
      have hlt2 : ∀ o, w.heap.size + 1 < (W2.alloc o).heap.size := fun o => by simp; omega
      have hne : W2.heap.size ≠ w.heap.size + 1 := by omega
      have HF := Lib.hid ((HP2.out (W2.alloc (.cells #[.int .u64 0, .int .u64 0] 94)).drew).mono fun ee wa (h : ee = .returned (.agg #[.int .u64 0, .int .u64 (P2 : Int)]) ∧ Below (W2.alloc (.cells #[.int .u64 0, .int .u64 0] 94)).drew.heap.size (W2.alloc (.cells #[.int .u64 0, .int .u64 0] 94)).drew wa) =>
        (show (ee = .returned (.agg #[.int .u64 0, .int .u64 (P2 : Int)]) ∧ Below (W2.alloc (.cells #[.int .u64 0, .int .u64 0] 94)).drew.heap.size (W2.alloc (.cells #[.int .u64 0, .int .u64 0] 94)).drew wa ∧ _) from ⟨h.1, h.2, frame2 (W := W2.alloc (.cells #[.int .u64 0, .int .u64 0] 94)) (t := 94) (g := W2.heap.size) (x := .int .u64 0) (y := .int .u64 0) (blk_new _ rfl) h.2 (by simp)⟩))
      have e1' := E1.out
      have t1 := T1.out
      have i1 := I1.out
      clear HG2 HO1 HO2 HP3 HK hw hq1 k0 k1 k2 T3 E3 I3
      go_region_held3 (fun w' => w'.cell? ⟨w.heap.size + 1, 0, none⟩ = some (.int .i64 m)) ((first | exact q0 | exact keepC q0 _ | exact keepB hba hlt q0 | exact keepB hba (hlt2 _) (keepC q0 _) | exact keepA hba hlt q0 _ | exact keepS (keepS (keepB hba (hlt2 _) (keepC q0 _)) hne _) hne _ | go_keep))
        ((first | (go_at_call 57; (refine HF.out.mono ?_); rintro ee wa ⟨rfl, hba, hblk2, hc0, hc1, hf0, hf1⟩) | (go_at_call 58; (with_reducible refine (HSm.out _).mono ?_); rintro ee we ⟨rfl, rfl⟩) | (go_at_call 57; (with_reducible refine (HP2.out _).mono ?_); rintro ee wa ⟨rfl, hba⟩)))
      all_goals (go_wp2_with fail)
      all_goals go_meet
      all_goals (first
        | exact ⟨wa.heap.size, rfl, hba.size, blk_cell (blk_new _ rfl) 0, blk_cell (blk_new _ rfl) 1, by simp, ((Below.refl _ _).drew.trans (hba.mono (Nat.le_refl _))).alloc hba.size _⟩
        | exact ⟨W2.heap.size, rfl, Nat.le_refl _, blk_cell (blk_set (blk_set hblk2 0 _) 1 _) 0, blk_cell (blk_set (blk_set hblk2 0 _) 1 _) 1, blk_lt (blk_set (blk_set hblk2 0 _) 1 _), ((((Below.refl _ _).alloc (Nat.le_refl _) _).drew.trans (hba.mono (by simp))).setCell (Nat.le_refl _) _).setCell (Nat.le_refl _) _⟩)
    case rest =>
      obtain ⟨g2, rfl, hg2, f0, f1, hl2, hBy⟩ := hcut
      rename World => W3
      have sy := hBy.size
      have d0 : W3.cell? _ = _ := keepB hBy hl1 d0
      have d1 : W3.cell? _ = _ := keepB hBy hl1 d1
      have k0 : W3.heap[w.heap.size]? = _ := blk_below k0 hBy (by omega)
      have k2 : W3.heap[w.heap.size + 2]? = _ := blk_below k2 hBy (by omega)
      have hB3 : Below w.heap.size w W3 := hB2.trans (hBy.mono (by omega))
      have q0 := blk_cell k0 0
      have l1 : g1 < W3.heap.size := by omega
      have s3 : w.heap.size + 3 ≤ W3.heap.size := by omega
      have Hw := Lib.hid hw
      clear hB1 hB2 hBx hBy k1 k0 hw HP2 HSm hl1
      go_upto_block 0 with fail
      obtain ⟨W4, hW4⟩ : ∃ W4, W3.alloc (.cells #[.int .u64 0, .int .u64 0] 94) = W4 := ⟨_, rfl⟩
      have d0 : W4.cell? ⟨g1, 0, none⟩ = some (.int .u64 0) := by rw [← hW4]; exact keepC d0 _
      have d1 : W4.cell? ⟨g1, 1, none⟩ = some (.int .u64 P1) := by rw [← hW4]; exact keepC d1 _
      have f0 : W4.cell? ⟨g2, 0, none⟩ = some (.int .u64 0) := by rw [← hW4]; exact keepC f0 _
      have f1 : W4.cell? ⟨g2, 1, none⟩ = some (.int .u64 P2) := by rw [← hW4]; exact keepC f1 _
      have m0 : W4.heap[W3.heap.size]? = some (.cells #[.int .u64 0, .int .u64 0] 94) := by rw [← hW4]; exact blk_new _ rfl
      have s4 : W4.heap.size = W3.heap.size + 1 := by rw [← hW4]; simp
      have hB4 : Below W3.heap.size W3 W4 := by rw [← hW4]; exact (by repeat (first | exact Below.refl _ _ | assumption | refine Below.drew ?_ | refine below_drewN ?_ _ | refine Below.alloc ?_ (by first | omega | (simp; done) | (simp; omega)) _ | refine Below.setCell ?_ (by first | omega | (simp; done) | (simp; omega)) _))
      rw [hW4]
      clear hW4 q0
      have HL := Lib.hid (fun (wa : World) (hba : Below W4.heap.size W4 wa) => (show wa.heap[W3.heap.size]? = some (.cells #[.int .u64 0, .int .u64 0] 94) ∧ wa.cell? ⟨W3.heap.size, 0, none⟩ = some (.int .u64 0) ∧ wa.cell? ⟨W3.heap.size, 1, none⟩ = some (.int .u64 0) ∧ wa.frozen? ⟨W3.heap.size, 0, none⟩ = false ∧ wa.frozen? ⟨W3.heap.size, 1, none⟩ = false ∧ wa.cell? ⟨g1, 0, none⟩ = some (.int .u64 0) ∧ wa.cell? ⟨g1, 1, none⟩ = some (.int .u64 P1) ∧ wa.cell? ⟨g2, 0, none⟩ = some (.int .u64 0) ∧ wa.cell? ⟨g2, 1, none⟩ = some (.int .u64 P2) from
        have h2 := blk_below m0 hba (by omega)
        ⟨h2, blk_cell h2 0, blk_cell h2 1, blk_free h2 0, blk_free h2 1, keepB hba (show g1 < _ by omega) d0, keepB hba (show g1 < _ by omega) d1, keepB hba (show g2 < _ by omega) f0, keepB hba (show g2 < _ by omega) f1⟩))
      go_cut [13] (fun v wx => v = .bool sg ∧ wx.heap[W3.heap.size]? = some (.cells #[.int .u64 0, .int .u64 M] 94) ∧ Below W3.heap.size W3 wx)
      case first =>
        clear HG2 HO1 HO2 HP3 HK T3 E3 I3 T1 E1 I1
        rcases Hw.out with ⟨hp, rfl, rfl⟩ | ⟨hp, hle, rfl, rfl⟩ | ⟨hp, hlt, rfl, rfl⟩
        · have HC := Lib.hid (fun W => plus_small P1 P2 W (by omega))
          have hpe : (decide (n < 0) == decide (m < 0)) = true := by rw [hp]; exact beq_self_eq_true _
          generalize P1 + P2 = M at *
          go_wp2_with fail
          refine (HC.out _).mono ?_
          rintro ee wa ⟨rfl, hba⟩
          obtain ⟨m1, m2', m3, m4, m5, -⟩ := HL.out wa hba
          go_wp2_with fail
          go_meet
          exact ⟨by first | rfl | exact congrArg Value.bool hp.symm, blk_set (blk_set m1 0 _) 1 _, ((hB4.trans (hba.mono (by omega))).setCell (Nat.le_refl _) _).setCell (Nat.le_refl _) _⟩
        · have HC := Lib.hid (fun W => wcmp_small P1 P2 W (by omega) (by omega))
          have HD := Lib.hid (fun W => minus_small P1 P2 W hle (by omega))
          have hpe : (decide (n < 0) == decide (m < 0)) = false := beq_eq_false_iff_ne.2 hp
          obtain ⟨v, hv⟩ : ∃ v : Int, (if P1 < P2 then -1 else if P2 < P1 then 1 else 0) = v := ⟨_, rfl⟩
          have hv0 : decide (v ≥ 0) = true := decide_eq_true (by rw [← hv]; split; omega; split <;> omega)
          have hv1 : 0 ≤ v := by simpa using hv0
          rw [hv] at HC
          clear hv
          generalize P1 - P2 = M at *
          go_wp2_with fail
          refine (HC.out _).mono ?_
          rintro ee wa ⟨rfl, hba⟩
          obtain ⟨m1, m2', m3, m4, m5, r1, r2, r3, r4⟩ := HL.out wa hba
          go_wp2_with fail
          refine (HD.out _).mono ?_
          rintro ee wb ⟨rfl, hbb⟩
          obtain ⟨m1, m2', m3, m4, m5, -⟩ := HL.out wb (hba.trans (hbb.mono hba.size))
          go_wp2_with fail
          go_meet
          exact ⟨rfl, blk_set (blk_set m1 0 _) 1 _, (((hB4.trans (hba.mono (by omega))).trans (hbb.mono (by have := hba.size; omega))).setCell (Nat.le_refl _) _).setCell (Nat.le_refl _) _⟩
        · have HC := Lib.hid (fun W => wcmp_small P1 P2 W (by omega) (by omega))
          have HD := Lib.hid (fun W => minus_small P2 P1 W (by omega) (by omega))
          have hpe : (decide (n < 0) == decide (m < 0)) = false := beq_eq_false_iff_ne.2 hp
          rw [if_pos hlt] at HC
          generalize P2 - P1 = M at *
          go_wp2_with fail
          refine (HC.out _).mono ?_
          rintro ee wa ⟨rfl, hba⟩
          obtain ⟨m1, m2', m3, m4, m5, r1, r2, r3, r4⟩ := HL.out wa hba
          go_wp2_with fail
          refine (HD.out _).mono ?_
          rintro ee wb ⟨rfl, hbb⟩
          obtain ⟨m1, m2', m3, m4, m5, -⟩ := HL.out wb (hba.trans (hbb.mono hba.size))
          go_wp2_with fail
          go_meet
          exact ⟨rfl, blk_set (blk_set m1 0 _) 1 _, (((hB4.trans (hba.mono (by omega))).trans (hbb.mono (by have := hba.size; omega))).setCell (Nat.le_refl _) _).setCell (Nat.le_refl _) _⟩
      case rest =>
        obtain ⟨rfl, m1, hB5⟩ := hcut
        rename World => W5
        have k2 := blk_below k2 hB5 (by omega)
        have hB5' : Below w.heap.size w W5 := hB3.trans (hB5.mono (by omega))
        have s5 : W3.heap.size < W5.heap.size := blk_lt m1
        have q0 := blk_cell m1 0
        have q1 := blk_cell m1 1
        have s6 : w.heap.size + 2 < W3.heap.size := by omega
        clear hB5 hB3 hB4 Hw HL d0 d1 f0 f1 m0 s4
        go_wp2_with fail
        refine (HO1.out _).mono ?_
        rintro ee W6 ⟨rfl, hb6⟩
        have m1 := blk_below m1 hb6 s5
        have k2 := blk_below k2 hb6 (by omega)
        have hB6 : Below w.heap.size w W6 := hB5'.trans (hb6.mono hB5'.size)
        have s7 : W3.heap.size < W6.heap.size := blk_lt m1
        go_wp2_with fail
        refine (HG2.out _).mono ?_
        rintro ee W7 ⟨rfl, hb7⟩
        have m1 := blk_below (blk_alloc m1 _) hb7 (by simp; omega)
        have k2 := blk_below (blk_alloc k2 _) hb7 (by simp; omega)
        have hB7 : Below w.heap.size w W7 := (hB6.alloc hB6.size _).trans (hb7.mono (by have := hB6.size; simp; omega))
        have q0 := blk_cell m1 0
        have q1 := blk_cell m1 1
        have s8 : W3.heap.size < W7.heap.size := blk_lt m1
        clear hb7 hb6 hB6 hB5' s7 s5
        go_wp2_with fail
        refine (HO2.out _).mono ?_
        rintro ee W8 ⟨rfl, hb8⟩
        have m1 := blk_below m1 hb8 s8
        have k2 := blk_below k2 hb8 (by omega)
        have hB8 : Below w.heap.size w W8 := hB7.trans (hb8.mono hB7.size)
        have n1 := blk_cell m1 0
        have n2' := blk_cell m1 1
        have n3 := blk_free m1 0
        have n4 := blk_free m1 1
        clear hb8 hB7 q0 q1 s8
        go_upto_region 15 with fail
        obtain ⟨W9, hW9⟩ : ∃ W9, (W8.setCell ⟨W3.heap.size, 0, none⟩ (.int .u64 0)).setCell ⟨W3.heap.size, 1, none⟩ (.int .u64 X) = W9 := ⟨_, rfl⟩
        have m1 : W9.heap[W3.heap.size]? = some (.cells #[.int .u64 0, .int .u64 X] 94) := by rw [← hW9]; exact blk_set (blk_set m1 0 _) 1 _
        have k2 : W9.heap[w.heap.size + 2]? = some (.cells #[.int .i64 0, .int .i64 0] 23) := by rw [← hW9]; exact blk_far (blk_far k2 (by show _ ≠ W3.heap.size; omega) _) (by show _ ≠ W3.heap.size; omega) _
        have hB9 : Below w.heap.size w W9 := by rw [← hW9]; exact (hB8.setCell (by show _ ≤ W3.heap.size; omega) _).setCell (by show _ ≤ W3.heap.size; omega) _
        rw [hW9]
        clear hW9 hB8 n1 n2' n3 n4
        have s9 : W3.heap.size < W9.heap.size := blk_lt m1
        have q0 := blk_cell m1 0
        have q1 := blk_cell m1 1
        have HF := Lib.hid (fun (wa wb : World) (hba : Below W9.drew.heap.size W9.drew wa) (hbb : Below wa.heap.size wa wb) => (show Below w.heap.size w wb ∧ wb.heap[w.heap.size + 2]? = some (.cells #[.int .i64 0, .int .i64 0] 23) ∧ wb.cell? ⟨w.heap.size + 2, 0, none⟩ = some (.int .i64 0) ∧ wb.cell? ⟨w.heap.size + 2, 1, none⟩ = some (.int .i64 0) ∧ wb.frozen? ⟨w.heap.size + 2, 0, none⟩ = false ∧ wb.frozen? ⟨w.heap.size + 2, 1, none⟩ = false from
          have h1 : Below W9.heap.size W9 wb := ((Below.refl _ _).drew.trans (hba.mono (Nat.le_refl _))).trans (hbb.mono hba.size)
          have h2 := blk_below k2 h1 (by omega)
          ⟨hB9.trans (h1.mono hB9.size), h2, blk_cell h2 0, blk_cell h2 1, blk_free h2 0, blk_free h2 1⟩))
        have hne : w.heap.size + 1 + 1 ≠ W3.heap.size := by omega
        have t1 := T3.out
        have t2 := E3.out
        have i1 := I3.out
        have t3 := T1.out
        have t4 := E1.out
        have i2 := I1.out
        go_region_held3 (fun w' => w'.cell? ⟨W3.heap.size, 0, none⟩ = some (.int .u64 0) ∧ w'.cell? ⟨W3.heap.size, 1, none⟩ = some (.int .u64 X)) ((first | exact ⟨q0, q1⟩ | exact ⟨keepB hba s9 q0, keepB hba s9 q1⟩ | exact ⟨keepB hbb (Nat.lt_of_lt_of_le s9 hba.size) (keepB hba s9 q0), keepB hbb (Nat.lt_of_lt_of_le s9 hba.size) (keepB hba s9 q1)⟩ | exact ⟨keepS (keepS (keepB hbb (Nat.lt_of_lt_of_le s9 hba.size) (keepB hba s9 q0)) hne _) hne _, keepS (keepS (keepB hbb (Nat.lt_of_lt_of_le s9 hba.size) (keepB hba s9 q1)) hne _) hne _⟩ | go_keep))
          ((first | (go_at_call 57; (with_reducible refine (HP3.out _).mono ?_); rintro ee wa ⟨rfl, hba⟩) | (go_at_call 75; (with_reducible refine (HK.out _).mono ?_); rintro ee wb ⟨rfl, hbb⟩; obtain ⟨hBb, h2, hc0, hc1, hf0, hf1⟩ := HF.out wa wb hba hbb)))
        clear i1 t1 t2 i2 t3 t4
        all_goals go_wp2
        all_goals exact bodyPost_ret (v := .tuple #[.agg #[.int .i64 D, .int .i64 z], .int .i64 0]) (by simp [results, Tryd.results50, go_sem, hc0, hc1]) rfl ⟨rfl, (hBb.setCell (by show _ ≤ w.heap.size + 2; omega) _).setCell (by show _ ≤ w.heap.size + 2; omega) _⟩

/-! ### The walks of the package frac: Right, Add, Sum, Cmp, for fractions that are not too great. -/
set_option maxHeartbeats 1000000 in
theorem right_low (n : Int) (b : Nat) (hg : wdF (n, (b : Int))) (w : World) :
    Calls Tryd.prog 34 #[.agg #[.int .i64 n, .int .i64 b]] w fun e w' => e = .returned (.bool true) ∧ Below w.heap.size w w' := by
  obtain ⟨⟨b1, hgb⟩, hn, hb⟩ := hg
  dsimp only at *
  have HSb := Lib.hid (fun W => size_any (b : Int) W (by omega))
  have HSn := Lib.hid (fun W => size_any n W (by omega))
  rw [show (((b : Int).natAbs : Nat) : Int) = (b : Int) by omega] at HSb
  have HG := Lib.hid (fun W => gcd_any n.natAbs b W (by omega) (by omega))
  rw [show Nat.gcd n.natAbs b = 1 from hgb] at HG
  have hd : decide ((b : Int) > 0) = true := decide_eq_true (by omega)
  have hd1 : (0 : Int) < (b : Int) := by omega
  have hd3 : decide ((0 : Int) < (b : Int)) = true := decide_eq_true hd1
  have hd4 : 0 < b := by omega
  have hd5 : decide (0 < b) = true := decide_eq_true hd4
  have hd2 : ((1 : Nat) : Int) = 1 := rfl
  rw [hd2] at HG
  clear hgb
  go_enter Tryd.func34, Tryd.ntmps34
  go_upto_region 1 with fail
  have k0 : (w.alloc (.cells #[.int .i64 n, .int .i64 b] 23)).heap[w.heap.size]? = _ := blk_new _ rfl
  have q0 := blk_cell k0 0
  have q1 := blk_cell k0 1
  have hB0 : Below w.heap.size w (w.alloc (.cells #[.int .i64 n, .int .i64 b] 23)) := (by repeat (first | exact Below.refl _ _ | assumption | refine Below.drew ?_ | refine below_drewN ?_ _ | refine Below.alloc ?_ (by first | omega | (simp; done) | (simp; omega)) _ | refine Below.setCell ?_ (by first | omega | (simp; done) | (simp; omega)) _))
  have hlt : w.heap.size < (w.alloc (.cells #[.int .i64 n, .int .i64 b] 23)).heap.size := by simp
  generalize w.alloc (.cells #[.int .i64 n, .int .i64 b] 23) = W1 at *
  go_region_held3 (fun w' => w'.cell? ⟨w.heap.size, 0, none⟩ = some (.int .i64 n) ∧ w'.cell? ⟨w.heap.size, 1, none⟩ = some (.int .i64 b)) ((first | exact ⟨q0, q1⟩ | exact ⟨keepB hba hlt q0, keepB hba hlt q1⟩))
    ((first | (go_at_call 58; first | ((with_reducible refine (HSb.out _).mono ?_); rintro ee we ⟨rfl, rfl⟩) | ((with_reducible refine (HSn.out _).mono ?_); rintro ee we ⟨rfl, rfl⟩)) | (go_at_call 60; (with_reducible refine (HG.out _).mono ?_); rintro ee wa ⟨rfl, hba⟩)))
  all_goals go_wp2
  all_goals go_ret
  all_goals exact ⟨rfl, (hB0.drew).trans (hba.mono (hB0.size))⟩

set_option maxHeartbeats 1000000 in
theorem fadd_low (n m : Int) (a b : Nat) (hf : wdF (n, (a : Int))) (hg : wdF (m, (b : Int))) (w : World) :
    Calls Tryd.prog 25 #[.agg #[.int .i64 n, .int .i64 a], .agg #[.int .i64 m, .int .i64 b]] w fun e w' => e = .returned (.tuple #[.agg #[.int .i64 (addF (n, (a : Int)) (m, (b : Int))).1, .int .i64 (addF (n, (a : Int)) (m, (b : Int))).2], .int .i64 0]) ∧ Below w.heap.size w w' := by
  have HR1 := Lib.hid (fun W => right_low n a hf W)
  have HR2 := Lib.hid (fun W => right_low m b hg W)
  have HA := Lib.hid (fun W => add_low n m a b hf hg W)
  obtain ⟨f1, f2, hfe⟩ : ∃ f1 f2, addF (n, (a : Int)) (m, (b : Int)) = (f1, f2) := ⟨_, _, rfl⟩
  rw [hfe] at HA ⊢
  dsimp only at HA ⊢
  clear hfe hf hg
  go_enter Tryd.func25, Tryd.ntmps25
  go_upto_region 1 with fail
  obtain ⟨W0, hW0⟩ : ∃ W0, (((w.alloc (.cells #[.int .i64 n, .int .i64 a] 23)).alloc (.cells #[.int .i64 m, .int .i64 b] 23)).alloc (.cells #[.int .i64 0, .int .i64 0] 23)) = W0 := ⟨_, rfl⟩
  have hB0 : Below w.heap.size w W0 := by rw [← hW0]; exact (by repeat (first | exact Below.refl _ _ | assumption | refine Below.drew ?_ | refine below_drewN ?_ _ | refine Below.alloc ?_ (by first | omega | (simp; done) | (simp; omega)) _ | refine Below.setCell ?_ (by first | omega | (simp; done) | (simp; omega)) _))
  have k0 : W0.heap[w.heap.size]? = some (.cells #[.int .i64 n, .int .i64 a] 23) := by rw [← hW0]; exact blk_alloc (blk_alloc (blk_new _ rfl) _) _
  have k1 : W0.heap[w.heap.size + 1]? = some (.cells #[.int .i64 m, .int .i64 b] 23) := by rw [← hW0]; exact blk_alloc (blk_new _ (by simp)) _
  have k2 : W0.heap[w.heap.size + 2]? = some (.cells #[.int .i64 0, .int .i64 0] 23) := by rw [← hW0]; exact blk_new _ (by simp)
  have s0 : W0.heap.size = w.heap.size + 3 := by rw [← hW0]; simp
  rw [hW0]
  clear hW0
  have HL := Lib.hid (fun (wa : World) (hba : Below W0.heap.size W0 wa) => (show Below w.heap.size w wa ∧ wa.cell? ⟨w.heap.size, 0, none⟩ = some (.int .i64 n) ∧ wa.cell? ⟨w.heap.size, 1, none⟩ = some (.int .i64 a) ∧ wa.cell? ⟨w.heap.size + 1, 0, none⟩ = some (.int .i64 m) ∧ wa.cell? ⟨w.heap.size + 1, 1, none⟩ = some (.int .i64 b) ∧ wa.cell? ⟨w.heap.size + 2, 0, none⟩ = some (.int .i64 0) ∧ wa.cell? ⟨w.heap.size + 2, 1, none⟩ = some (.int .i64 0) ∧ wa.frozen? ⟨w.heap.size + 2, 0, none⟩ = false ∧ wa.frozen? ⟨w.heap.size + 2, 1, none⟩ = false from
    have h0 := blk_below k0 hba (by omega)
    have h1 := blk_below k1 hba (by omega)
    have h2 := blk_below k2 hba (by omega)
    ⟨hB0.trans (hba.mono (by omega)), blk_cell h0 0, blk_cell h0 1, blk_cell h1 0, blk_cell h1 1, blk_cell h2 0, blk_cell h2 1, blk_free h2 0, blk_free h2 1⟩))
  obtain ⟨-, c0, c1, c2, c3, -⟩ := HL.out W0 (Below.refl _ _)
  clear k0 k1 k2 hB0
  go_wp2_with fail
  refine (HR1.out _).mono ?_
  rintro ee W1 ⟨rfl, hb1⟩
  obtain ⟨-, c0, c1, c2, c3, -⟩ := HL.out W1 hb1
  go_wp2_with fail
  refine (HR2.out _).mono ?_
  rintro ee W2 ⟨rfl, hb2⟩
  have hb2 : Below W0.heap.size W0 W2 := hb1.trans (hb2.mono hb1.size)
  obtain ⟨-, c0, c1, c2, c3, -⟩ := HL.out W2 hb2
  go_wp2_with fail
  refine (HA.out _).mono ?_
  rintro ee W3 ⟨rfl, hb3⟩
  obtain ⟨hB3, c0, c1, c2, c3, c4, c5, c6, c7⟩ := HL.out W3 (hb2.trans (hb3.mono hb2.size))
  go_wp2
  exact bodyPost_ret (v := .tuple #[.agg #[.int .i64 f1, .int .i64 f2], .int .i64 0]) (by simp [results, Tryd.results25, go_sem, c4, c5]) rfl ⟨rfl, (hB3.setCell (by show _ ≤ w.heap.size + 2; omega) _).setCell (by show _ ≤ w.heap.size + 2; omega) _⟩

end Go.Proofs.YtlobdeakgoicpaaDoor
