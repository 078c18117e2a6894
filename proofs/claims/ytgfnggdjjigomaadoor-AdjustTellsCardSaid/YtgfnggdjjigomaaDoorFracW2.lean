/- The walks of the package frac: sizes, common divisors, products of 64 bits, wide numbers, for fractions that are not too great. -/
import Derived.Test.YtgfnggdjjigomaaDoorFracW
import Derived.Test.YtgfnggdjjigomaaDoorFracMath
import Derived.Test.YtgfnggdjjigomaaDoorShelf
import Derived.Laws.Externs
import Derived.Shelf.Spec.BitsCarry
namespace Go.Proofs.YtgfnggdjjigomaaDoor
open Go.RowKit

theorem size_any (n : Int) (w : World) (h : -9223372036854775807 ≤ n ∧ n ≤ 9223372036854775807) :
    Calls Tryd.prog 51 #[.int .i64 n] w fun e w' => e = .returned (.int .u64 ((n.natAbs : Nat) : Int)) ∧ w' = w := by
  by_cases h0 : n < 0
  · rw [show ((n.natAbs : Nat) : Int) = -n by omega]
    exact (size_neg n w (by omega)).mono fun _ _ ⟨a, b⟩ => ⟨a, b.symm⟩
  · rw [show ((n.natAbs : Nat) : Int) = n by omega]
    exact (size_pos n w (by omega)).mono fun _ _ ⟨a, b⟩ => ⟨a, b.symm⟩

set_option maxHeartbeats 400000 in
theorem gcd_q (a b : Nat) (w : World) (ha : a ≤ 9223372036854775808) (hb : b ≤ 9223372036854775808) :
    Calls Tryd.prog 72 #[.int .u64 a, .int .u64 b] w fun e w' => e = .returned (.int .u64 (Nat.gcd a b)) ∧ ∃ n, w' = w.drewN n := by
  go_enter Tryd.func72, Tryd.ntmps72
  go_wp2
  go_loopw [0, 1] (fun x y wr => ∃ p q nq : Nat, p ≤ 9223372036854775808 ∧ q ≤ 9223372036854775808 ∧ x = .int .u64 (p : Int) ∧ y = .int .u64 (q : Int) ∧ Hid (Nat.gcd p q = Nat.gcd a b) ∧ wr = w.drewN nq) (fun _ y _ => (intOf y).toNat)
  case atStart => exact ⟨a, b, 0, ha, hb, rfl, rfl, rfl, rfl⟩
  case round =>
    obtain ⟨p, q, nq, hp, hq, rfl, rfl, hg, rfl⟩ := hrel
    by_cases h0 : q = 0
    · subst h0
      have hz : ((0 : Int) != 0) = false := rfl
      have Hg := Lib.hid (show p = Nat.gcd a b by rw [← hg.out, Nat.gcd_zero_right])
      go_wp2
      go_ret
      exact ⟨by rw [← Hg.out]; rfl, nq, rfl⟩
    · have hz : ((q : Int) != 0) = true := bne_iff_ne.2 (by omega)
      have hm : (p : Int) % (q : Int) = ((p % q : Nat) : Int) := (Int.natCast_emod p q).symm
      have hlt : p % q < q := Nat.mod_lt _ (by omega)
      have hq1 : (1 : Int) ≤ (q : Int) := by omega
      have Hg := Lib.hid (show Nat.gcd q (p % q) = Nat.gcd a b by rw [← hg.out, Nat.gcd_comm q, ← Nat.gcd_rec, Nat.gcd_comm])
      generalize p % q = r at *
      go_wp2
      go_quiet (fail)
      go_wp2
      go_roundw
      case rel => exact ⟨q, r, _, hq, by omega, rfl, int_eq hm, Hg, World.drewN_drewN _ _ _⟩
      case measure => simp [intOf]; omega

/-- A wide number that has no more than 64 bits. -/
def wV (x : Int) : Value := .agg #[.int .u64 0, .int .u64 x]

set_option maxHeartbeats 400000 in
theorem product_small (a b : Nat) (w : World) (ha : a ≤ 1000000000000000000) (hb : b ≤ 1000000000000000000) (h : a * b ≤ 1000000000000000000) :
    Calls Tryd.prog 50 #[.int .u64 a, .int .u64 b] w fun e w' => e = .returned (.agg #[.int .u64 0, .int .u64 ((a * b : Nat) : Int)]) ∧ Below w.heap.size w w' := by
  have HM := Lib.hid (fun W => Tryd.bits_Mul64 a b (by omega) (by omega) W)
  rw [show a * b / 18446744073709551616 = 0 by omega, show a * b % 18446744073709551616 = a * b by omega] at HM
  generalize a * b = m at *
  go_enter Tryd.func50, Tryd.ntmps50
  go_wp2_with fail
  refine (HM.out _).mono ?_
  rintro e _ ⟨rfl, rfl⟩
  go_wp2
  exact bodyPost_ret (v := .agg #[.int .u64 0, .int .u64 (m : Int)]) (by simp [results, Tryd.results50, go_sem]) rfl ⟨rfl, (by repeat (first | exact Below.refl _ _ | assumption | refine Below.drew ?_ | refine below_drewN ?_ _ | refine Below.alloc ?_ (by first | omega | (simp; done) | (simp; omega)) _ | refine Below.setCell ?_ (by first | omega | (simp; done) | (simp; omega)) _))⟩

theorem run_add (x y : Nat) (h : x + y ≤ 9223372036854775807) (W : World) :
    (callFunc 91 #[.int .u64 (x : Int), .int .u64 (y : Int), .int .u64 0]).run Tryd.prog W = .ok (.value (.tuple #[.int .u64 ((x + y : Nat) : Int), .int .u64 0])) W := by
  rw [run_callFunc_extern Tryd.func91 (by kernel_rfl) (by kernel_rfl) (by kernel_rfl) (e := add64Entry) (by kernel_rfl), run_add64 (x : Int) (y : Int) 0 (by omega) (by omega) (by omega) (by omega)]
  rw [show ((x : Int) + (y : Int) + 0) % 18446744073709551616 = ((x + y : Nat) : Int) by omega, show ((x : Int) + (y : Int) + 0) / 18446744073709551616 = 0 by omega]
  rfl
theorem run_sub (x y : Nat) (h : y ≤ x) (hx : x ≤ 9223372036854775807) (W : World) :
    (callFunc 92 #[.int .u64 (x : Int), .int .u64 (y : Int), .int .u64 0]).run Tryd.prog W = .ok (.value (.tuple #[.int .u64 ((x - y : Nat) : Int), .int .u64 0])) W := by
  have e := run_sub64 (P := Tryd.prog) x y 0 (by omega) W
  rw [show (x + 18446744073709551616 - y - 0) % 18446744073709551616 = x - y by omega, if_neg (by omega)] at e
  rw [run_callFunc_extern Tryd.func92 (by kernel_rfl) (by kernel_rfl) (by kernel_rfl) (e := sub64Entry) (by kernel_rfl)]
  rw [show ((sub64Entry #[.int .u64 (x : Int), .int .u64 (y : Int), .int .u64 0]).run Tryd.prog W) = _ from e]
  rfl

set_option maxHeartbeats 400000 in
theorem plus_small (a b : Nat) (w : World) (h : a + b ≤ 9223372036854775807) :
    Calls Tryd.prog 74 #[.agg #[.int .u64 0, .int .u64 a], .agg #[.int .u64 0, .int .u64 b]] w fun e w' => e = .returned (.agg #[.int .u64 0, .int .u64 ((a + b : Nat) : Int)]) ∧ Below w.heap.size w w' := by
  have r1 := fun W => run_add a b h W
  have r2 := fun W => run_add 0 0 (by omega) W
  rw [show ((0 : Nat) : Int) = 0 from rfl] at r2
  generalize a + b = m at *
  go_enter Tryd.func74, Tryd.ntmps74
  go_wp2_with fail
  exact bodyPost_ret (v := .agg #[.int .u64 0, .int .u64 (m : Int)]) (by simp [results, Tryd.results74, go_sem]) rfl ⟨rfl, (by repeat (first | exact Below.refl _ _ | assumption | refine Below.drew ?_ | refine below_drewN ?_ _ | refine Below.alloc ?_ (by first | omega | (simp; done) | (simp; omega)) _ | refine Below.setCell ?_ (by first | omega | (simp; done) | (simp; omega)) _))⟩

set_option maxHeartbeats 400000 in
theorem minus_small (a b : Nat) (w : World) (h : b ≤ a) (ha : a ≤ 9223372036854775807) :
    Calls Tryd.prog 75 #[.agg #[.int .u64 0, .int .u64 a], .agg #[.int .u64 0, .int .u64 b]] w fun e w' => e = .returned (.agg #[.int .u64 0, .int .u64 ((a - b : Nat) : Int)]) ∧ Below w.heap.size w w' := by
  have r1 := fun W => run_sub a b h ha W
  have r2 := fun W => run_sub 0 0 (by omega) (by omega) W
  rw [show ((0 : Nat) : Int) = 0 from rfl] at r2
  generalize a - b = m at *
  go_enter Tryd.func75, Tryd.ntmps75
  go_wp2_with fail
  exact bodyPost_ret (v := .agg #[.int .u64 0, .int .u64 (m : Int)]) (by simp [results, Tryd.results75, go_sem]) rfl ⟨rfl, (by repeat (first | exact Below.refl _ _ | assumption | refine Below.drew ?_ | refine below_drewN ?_ _ | refine Below.alloc ?_ (by first | omega | (simp; done) | (simp; omega)) _ | refine Below.setCell ?_ (by first | omega | (simp; done) | (simp; omega)) _))⟩

set_option maxHeartbeats 1000000 in
theorem wcmp_small (a b : Nat) (w : World) (_ : a ≤ 9223372036854775807) (hb : b ≤ 9223372036854775807) :
    Calls Tryd.prog 52 #[.agg #[.int .u64 0, .int .u64 a], .agg #[.int .u64 0, .int .u64 b]] w fun e w' => e = .returned (.int .i64 (if a < b then -1 else if b < a then 1 else 0)) ∧ Below w.heap.size w w' := by
  have i0 : ∀ W, (Instr.index 94 (.agg #[.int .u64 0, .int .u64 (a : Int)]) (.int .i64 0)).run Tryd.prog W = .ok (.int .u64 0) W := fun _ => by kernel_rfl
  have i1 : ∀ W, (Instr.index 94 (.agg #[.int .u64 0, .int .u64 (a : Int)]) (.int .i64 1)).run Tryd.prog W = .ok (.int .u64 (a : Int)) W := fun _ => by kernel_rfl
  obtain ⟨c, hc⟩ : ∃ c : Int, (if a < b then -1 else if b < a then 1 else 0) = c := ⟨_, rfl⟩
  rw [hc]
  have Hc := Lib.hid hc
  clear hc
  go_enter Tryd.func52, Tryd.ntmps52
  go_wp2_with fail
  go_loop [8] (fun i => i = .int .i64 0 ∨ i = .int .i64 1 ∨ (i = .int .i64 2 ∧ Hid (a = b))) (fun i => 2 - (intOf i).toNat)
  case atStart => exact .inl rfl
  case round =>
    rcases hrel with rfl | rfl | ⟨rfl, hab⟩
    · go_wp2
      go_round
      case rel => exact .inr (.inl rfl)
      case measure => simp [intOf]
    · rcases Nat.lt_trichotomy a b with h | h | h
      · have Hx := Lib.hid (show c = -1 by rw [← Hc.out, if_pos h])
        go_wp2
        go_ret
        exact ⟨ret_int Hx.out.symm, (by repeat (first | exact Below.refl _ _ | assumption | refine Below.drew ?_ | refine below_drewN ?_ _ | refine Below.alloc ?_ (by first | omega | (simp; done) | (simp; omega)) _ | refine Below.setCell ?_ (by first | omega | (simp; done) | (simp; omega)) _))⟩
      · have Hab := Lib.hid h
        subst h
        go_wp2
        go_round
        case rel => exact .inr (.inr ⟨rfl, by first | exact rfl | exact Lib.hid trivial⟩)
        case measure => simp [intOf]
      · have Hx := Lib.hid (show c = 1 by rw [← Hc.out, if_neg (by omega), if_pos h])
        go_wp2
        go_ret
        exact ⟨ret_int Hx.out.symm, (by repeat (first | exact Below.refl _ _ | assumption | refine Below.drew ?_ | refine below_drewN ?_ _ | refine Below.alloc ?_ (by first | omega | (simp; done) | (simp; omega)) _ | refine Below.setCell ?_ (by first | omega | (simp; done) | (simp; omega)) _))⟩
    · have Hx := Lib.hid (show c = 0 by have := hab.out; rw [← Hc.out, if_neg (by omega), if_neg (by omega)])
      go_wp2
      go_ret
      exact ⟨ret_int Hx.out.symm, (by repeat (first | exact Below.refl _ _ | assumption | refine Below.drew ?_ | refine below_drewN ?_ _ | refine Below.alloc ?_ (by first | omega | (simp; done) | (simp; omega)) _ | refine Below.setCell ?_ (by first | omega | (simp; done) | (simp; omega)) _))⟩

set_option maxHeartbeats 1000000 in
theorem div64_small (m d : Nat) (w : World) (hm : m ≤ 9223372036854775807) (hd : 1 ≤ d) (hd2 : d ≤ 9223372036854775807) :
    Calls Tryd.prog 93 #[.int .u64 0, .int .u64 m, .int .u64 d] w fun e w' => e = .returned (.tuple #[.int .u64 ((m / d : Nat) : Int), .int .u64 ((m % d : Nat) : Int)]) ∧ ∃ n, w' = w.drewN n := by
  have e1 : (m : Int) / (d : Int) = ((m / d : Nat) : Int) := (Int.natCast_ediv _ _).symm
  have e2 : (m : Int) % (d : Int) = ((m % d : Nat) : Int) := (Int.natCast_emod _ _).symm
  have q1 : m / d ≤ m := Nat.div_le_self _ _
  have q2 : m % d < d := Nat.mod_lt _ hd
  have z1 : ((d : Int) == 0) = false := beq_eq_false_iff_ne.2 (by omega)
  have z2 : ¬ d = 0 := by omega
  have z3 : ¬ (d : Int) ≤ 0 := by omega
  have z4 : decide ((d : Int) ≤ 0) = false := decide_eq_false z3
  generalize m / d = x at *
  generalize m % d = y at *
  have e3 : (m : Int).tdiv (d : Int) = (x : Int) := by rw [Int.tdiv_eq_ediv_of_nonneg (by omega)]; exact e1
  have e4 : (m : Int).tmod (d : Int) = (y : Int) := by rw [Int.tmod_eq_emod_of_nonneg (by omega)]; exact e2
  have i1 : IntKind.u64.wrap (x : Int) = (x : Int) := IntWalk.u64_in _ (by omega)
  have i2 : IntKind.u64.wrap (y : Int) = (y : Int) := IntWalk.u64_in _ (by omega)
  go_enter Tryd.func93, Tryd.ntmps93
  go_wp2
  go_quiet (fail)
  go_wp2
  go_ret2
  exact ⟨rfl, _, rfl⟩

set_option maxHeartbeats 1000000 in
theorem over_small (m d : Nat) (w : World) (hm : m ≤ 9223372036854775807) (hd : 1 ≤ d) (hd2 : d ≤ 9223372036854775807) :
    Calls Tryd.prog 76 #[.agg #[.int .u64 0, .int .u64 m], .int .u64 d] w fun e w' => e = .returned (.tuple #[.agg #[.int .u64 0, .int .u64 ((m / d : Nat) : Int)], .int .u64 ((m % d : Nat) : Int)]) ∧ Below w.heap.size w w' := by
  have HD := Lib.hid (fun W => div64_small m d W hm hd hd2)
  have z1 : ((d : Int) == 0) = false := beq_eq_false_iff_ne.2 (by omega)
  have z2 : ¬ d = 0 := by omega
  have e1 : (0 : Int) / (d : Int) = 0 := Int.zero_ediv _
  have e2 : (0 : Int) % (d : Int) = 0 := Int.zero_emod _
  have e3 : (0 : Int).tdiv (d : Int) = 0 := Int.zero_tdiv _
  have e4 : (0 : Int).tmod (d : Int) = 0 := Int.zero_tmod _
  generalize m / d = x at *
  generalize m % d = y at *
  go_enter Tryd.func76, Tryd.ntmps76
  go_wp2
  go_quiet (fail)
  go_wp2_with fail
  refine (HD.out _).mono ?_
  rintro e _ ⟨rfl, nq, rfl⟩
  go_wp2
  exact bodyPost_ret (v := .tuple #[.agg #[.int .u64 0, .int .u64 (x : Int)], .int .u64 (y : Int)]) (by simp [results, Tryd.results76, go_sem]) rfl ⟨rfl, (by repeat (first | exact Below.refl _ _ | assumption | refine Below.drew ?_ | refine below_drewN ?_ _ | refine Below.alloc ?_ (by first | omega | (simp; done) | (simp; omega)) _ | refine Below.setCell ?_ (by first | omega | (simp; done) | (simp; omega)) _))⟩

/-! ### pack, with either sign -/
set_option maxHeartbeats 400000 in
theorem pack_zero (y : Int) (w : World) (hy : 0 ≤ y ∧ y ≤ 9223372036854775807) :
    Calls Tryd.prog 77 #[.bool true, .agg #[.int .u64 0, .int .u64 0], .agg #[.int .u64 0, .int .u64 y]] w fun e w' => e = .returned (.tuple #[.agg #[.int .i64 0, .int .i64 y], .int .i64 0]) ∧ Below w.heap.size w w' := by
  go_enter Tryd.func77, Tryd.ntmps77
  go_wp2
  exact bodyPost_ret (v := .tuple #[.agg #[.int .i64 0, .int .i64 y], .int .i64 0]) (by simp [results, Tryd.results77, go_sem]) rfl ⟨rfl, (by repeat (first | exact Below.refl _ _ | assumption | refine Below.drew ?_ | refine below_drewN ?_ _ | refine Below.alloc ?_ (by first | omega | (simp; done) | (simp; omega)) _ | refine Below.setCell ?_ (by first | omega | (simp; done) | (simp; omega)) _))⟩

theorem pack_any (sg : Bool) (x y : Nat) (w : World) (hx : x ≤ 9223372036854775807) (hy : y ≤ 9223372036854775807) :
    Calls Tryd.prog 77 #[.bool sg, .agg #[.int .u64 0, .int .u64 x], .agg #[.int .u64 0, .int .u64 y]] w fun e w' => e = .returned (.tuple #[.agg #[.int .i64 (if sg then -(x : Int) else (x : Int)), .int .i64 y], .int .i64 0]) ∧ Below w.heap.size w w' := by
  cases sg with
  | false => exact pack_pos x y w (by omega) (by omega)
  | true =>
    by_cases h0 : x = 0
    · subst h0
      exact pack_zero y w (by omega)
    · exact pack_neg x y w (by omega) (by omega)

end Go.Proofs.YtgfnggdjjigomaaDoor
