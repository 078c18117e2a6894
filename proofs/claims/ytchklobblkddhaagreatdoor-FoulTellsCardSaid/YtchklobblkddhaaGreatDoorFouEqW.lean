/- Equal entries, equal lines. -/
import Derived.Test.YtchklobblkddhaaGreatDoorAdjAwakeW
import Derived.Test.YtchklobblkddhaaGreatDoorBase
namespace Go.Proofs.YtchklobblkddhaaGreatDoor
open Go.RowKit

theorem eqCt (d : Nat) (a b c e a' b' c' e' : Int) (w : World) : (Op.equalIn (d + 2) 45 (.agg #[.int .u8 a, .int .u8 b, .int .u8 c, .int .u8 e]) (.agg #[.int .u8 a', .int .u8 b', .int .u8 c', .int .u8 e'])).run Tryz.prog w = .ok (a == a' && b == b' && c == c' && e == e') w := by
  rw [run_equalIn_agg w (d + 1) 45 _ _ (by kernel_rfl) (by kernel_rfl)]
  go_simp
  by_cases h1 : a = a' <;> by_cases h2 : b = b' <;> by_cases h3 : c = c' <;> by_cases h4 : e = e' <;> simp [h1, h2, h3, h4]
def ocB (x y : Oc) : Bool := (x.l == y.l && x.d == y.d && x.r == y.r && x.s == y.s) && (x.t == y.t && x.w == y.w)
theorem ocB_eq {x y : Oc} (h : ocB x y = true) : x = y := by
  cases x; cases y
  simp [ocB] at h
  obtain ⟨⟨⟨⟨h1, h2⟩, h3⟩, h4⟩, h5, h6⟩ := h
  subst h1 h2 h3 h4 h5 h6; rfl
def ocL (x : Oc) : List Value := [.int .u8 x.l, .int .u8 x.d, .int .u8 x.r, .int .u8 x.s, .int .i64 x.t, .int .i64 x.w]
theorem eqOc (d : Nat) (x y : Oc) (w : World) : (Op.equalIn (d + 3) 47 (.agg #[.int .u8 x.l, .int .u8 x.d, .int .u8 x.r, .int .u8 x.s, .int .i64 x.t, .int .i64 x.w]) (.agg #[.int .u8 y.l, .int .u8 y.d, .int .u8 y.r, .int .u8 y.s, .int .i64 y.t, .int .i64 y.w])).run Tryz.prog w = .ok (ocB x y) w := by
  rw [run_equalIn_agg w (d + 2) 47 _ _ (by kernel_rfl) (by kernel_rfl)]
  unfold ocB
  generalize x.l = l, x.d = dd, x.r = r, x.s = s, x.t = t, x.w = wt
  generalize y.l = l', y.d = dd', y.r = r', y.s = s', y.t = t', y.w = wt'
  go_simp
  by_cases h1 : l = l' <;> by_cases h2 : dd = dd' <;> by_cases h3 : r = r' <;> by_cases h4 : s = s' <;> by_cases h5 : t = t' <;> by_cases h6 : wt = wt' <;> simp [h1, h2, h3, h4, h5, h6]

def ocA (x : Oc) : Array Value := #[.int .u8 x.l, .int .u8 x.d, .int .u8 x.r, .int .u8 x.s, .int .i64 x.t, .int .i64 x.w]
theorem part_oc (xs : Array Value) (off : Nat) (w : World) : (part 47 xs off).run Tryz.prog w = .ok (.agg (xs.extract off (off + 6))) w := by
  simp [part, isAgg, run_underlying Tryz.underlying47]
theorem eqOcA (d : Nat) (x y : Oc) (w : World) : (Op.equalIn (d + 3) 47 (.agg (ocA x)) (.agg (ocA y))).run Tryz.prog w = .ok (ocB x y) w := eqOc d x y w
theorem eqFour (d : Nat) (o o' : Nat → Oc) (w : World) : (Op.equalIn (d + 4) 48 (.agg (fourA o)) (.agg (fourA o'))).run Tryz.prog w = .ok (ocB (o 0) (o' 0) && (ocB (o 1) (o' 1) && (ocB (o 2) (o' 2) && ocB (o 3) (o' 3)))) w := by
  obtain ⟨i, hi⟩ := info_of_underlying Tryz.underlying47
  have hc : Tryz.prog.cellsOf 47 = 6 := by kernel_rfl
  rw [run_equalIn_array w (d + 3) _ _ Tryz.underlying48 hi, hc, show List.range 4 = [0, 1, 2, 3] from rfl]
  have p0 : ∀ o w, (part 47 (fourA o) (0 * 6)).run Tryz.prog w = .ok (.agg (ocA (o 0))) w := fun o w => part_oc _ _ _
  have r1 : ∀ o w, (part 47 (fourA o) 6).run Tryz.prog w = .ok (.agg (ocA (o 1))) w := fun o w => part_oc _ _ _
  have r2 : ∀ o w, (part 47 (fourA o) 12).run Tryz.prog w = .ok (.agg (ocA (o 2))) w := fun o w => part_oc _ _ _
  have r3 : ∀ o w, (part 47 (fourA o) 18).run Tryz.prog w = .ok (.agg (ocA (o 3))) w := fun o w => part_oc _ _ _
  have hq := fun x y => eqOcA d x y w
  simp only [Op.eqItems, Sem.run_bind, p0, Result.andThen_ok, hq]
  cases g0 : ocB (o 0) (o' 0) <;> cases g1 : ocB (o 1) (o' 1) <;> cases g2 : ocB (o 2) (o' 2) <;> cases g3 : ocB (o 3) (o' 3) <;> simp [hq, r1, r2, r3, g1, g2, g3]
theorem eqTwo (d : Nat) (a b a' b' : Int) (w : World) : (Op.equalIn (d + 2) 49 (.agg #[.int .i64 a, .int .i64 b]) (.agg #[.int .i64 a', .int .i64 b'])).run Tryz.prog w = .ok (a == a' && b == b') w := by
  have u3 := Tryz.underlying3
  have a3 := Tryz.isAgg3
  have z3 := Tryz.sizeOf3
  rw [show d + 2 = (d + 1) + 1 from rfl, Op.equalIn]
  simp only [Sem.run_bind, run_underlying Tryz.underlying49, Result.andThen_ok]
  simp only [Std.Legacy.Range.forIn_eq_forIn_range', Std.Legacy.Range.size, Nat.sub_zero, Nat.add_sub_cancel, Nat.div_one, List.range'_succ, List.range'_zero, List.forIn_cons, List.forIn_nil]
  go_simp
  by_cases h1 : a = a' <;> by_cases h2 : b = b' <;> simp [h1, h2]
theorem enCells_congr4 (k f : Int) (o o' : Nat → Oc) (a0 a1 : Int) (h0 : o 0 = o' 0) (h1 : o 1 = o' 1) (h2 : o 2 = o' 2) (h3 : o 3 = o' 3) : enCells k f o a0 a1 = enCells k f o' a0 a1 := by
  unfold enCells
  rw [h0, h1, h2, h3]
theorem ext7 (k f : Int) (o : Nat → Oc) (a0 a1 : Int) : (enCells k f o a0 a1).extract 7 31 = fourA o := by kernel_rfl
theorem ext31 (k f : Int) (o : Nat → Oc) (a0 a1 : Int) : (enCells k f o a0 a1).extract 31 33 = #[.int .i64 a0, .int .i64 a1] := by kernel_rfl
theorem eqE_val (k f : Int) (o : Nat → Oc) (a0 a1 : Int) (k' f' : Int) (o' : Nat → Oc) (a0' a1' : Int) (w : World) :
    (Op.equalIn 10000 51 (.agg (enCells k f o a0 a1)) (.agg (enCells k' f' o' a0' a1'))).run Tryz.prog w = .ok ((k == k' && f == f') && ((ocB (o 0) (o' 0) && (ocB (o 1) (o' 1) && (ocB (o 2) (o' 2) && ocB (o 3) (o' 3)))) && (a0 == a0' && a1 == a1'))) w := by
  have h4 := eqFour 9995 o o' w
  have h2 := eqTwo 9997 a0 a1 a0' a1' w
  have q0 := fun (k f : Int) (o : Nat → Oc) (a0 a1 : Int) => (show (enCells k f o a0 a1)[0]? = some (.int .i64 0) from rfl)
  have q1 := fun (k f : Int) (o : Nat → Oc) (a0 a1 : Int) => (show (enCells k f o a0 a1)[1]? = some (.int .i64 0) from rfl)
  have q2 := fun (k f : Int) (o : Nat → Oc) (a0 a1 : Int) => (show (enCells k f o a0 a1)[2]? = some (.int .i64 0) from rfl)
  have q3 := fun (k f : Int) (o : Nat → Oc) (a0 a1 : Int) => (show (enCells k f o a0 a1)[3]? = some (.int .i64 0) from rfl)
  have q4 := fun (k f : Int) (o : Nat → Oc) (a0 a1 : Int) => (show (enCells k f o a0 a1)[4]? = some (.int .u8 k) from rfl)
  have q5 := fun (k f : Int) (o : Nat → Oc) (a0 a1 : Int) => (show (enCells k f o a0 a1)[5]? = some (.int .u8 f) from rfl)
  have q6 := fun (k f : Int) (o : Nat → Oc) (a0 a1 : Int) => (show (enCells k f o a0 a1)[6]? = some (.bool false) from rfl)
  have q7 := fun (k f : Int) (o : Nat → Oc) (a0 a1 : Int) => ext7 k f o a0 a1
  have q8 := fun (k f : Int) (o : Nat → Oc) (a0 a1 : Int) => ext31 k f o a0 a1
  rw [run_equalIn_agg w 9999 51 _ _ (by kernel_rfl) (by kernel_rfl)]
  go_simp
  by_cases h0 : k = k' <;> by_cases h1 : f = f' <;> cases g0 : ocB (o 0) (o' 0) <;> cases g1 : ocB (o 1) (o' 1) <;> cases g2 : ocB (o 2) (o' 2) <;> cases g3 : ocB (o 3) (o' 3) <;> by_cases h5 : a0 = a0' <;> by_cases h6 : a1 = a1' <;> simp [h0, h1, h5, h6]
/-- Two entries are told to be the same, or not to be. -/
theorem eqE (k f : Int) (o : Nat → Oc) (a0 a1 : Int) (k' f' : Int) (o' : Nat → Oc) (a0' a1' : Int) :
    ∃ r : Bool, (∀ w, (Op.equalIn 10000 51 (.agg (enCells k f o a0 a1)) (.agg (enCells k' f' o' a0' a1'))).run Tryz.prog w = .ok r w) ∧ (r = true → enCells k f o a0 a1 = enCells k' f' o' a0' a1') := by
  refine ⟨_, fun w => eqE_val k f o a0 a1 k' f' o' a0' a1' w, fun h => ?_⟩
  simp only [Bool.and_eq_true, beq_iff_eq] at h
  obtain ⟨⟨h1, h2⟩, ⟨g0, g1, g2, g3⟩, h3, h4⟩ := h
  rw [h1, h2, h3, h4]
  refine enCells_congr4 _ _ _ _ _ _ (ocB_eq g0) (ocB_eq g1) (ocB_eq g2) (ocB_eq g3)

end Go.Proofs.YtchklobblkddhaaGreatDoor
