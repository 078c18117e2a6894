/- The walks of the helpers of layer 22's statements: q, is, spades, awake. (Written by genawake22.py.) -/
import Derived.Test.YtgfnggdjjigomaaDoorAdjAwardW
import Derived.Deep.WholeRow
namespace Go.Proofs.YtgfnggdjjigomaaDoor
open Go.RowKit

theorem q22_any (n d : Int) (w : World) : Calls Tryd.prog 26 #[.int .i64 n, .int .i64 d] w fun e w' => e = .returned (.agg #[.int .i64 n, .int .i64 d]) ∧ Below w.heap.size w w' := by
  go_enter Tryd.func26, Tryd.ntmps26
  go_wp2
  exact bodyPost_ret (v := .agg #[.int .i64 n, .int .i64 d]) (by simp [results, Tryd.results26, go_sem]) rfl ⟨rfl, (by repeat (first | exact Below.refl _ _ | assumption | refine Below.drew ?_ | refine below_drewN ?_ _ | refine Below.alloc ?_ (by first | omega | (simp; done) | (simp; omega)) _ | refine Below.setCell ?_ (by first | omega | (simp; done) | (simp; omega)) _))⟩

theorem spades_any (l t x : Int) (w : World) : Calls Tryd.prog 24 #[.int .u8 l, .int .i64 t, .int .i64 x] w fun e w' => e = .returned (.agg #[.int .u8 l, .int .u8 3, .int .u8 0, .int .u8 0, .int .i64 t, .int .i64 x]) ∧ Below w.heap.size w w' := by
  go_enter Tryd.func24, Tryd.ntmps24
  go_wp2
  exact bodyPost_ret (v := .agg #[.int .u8 l, .int .u8 3, .int .u8 0, .int .u8 0, .int .i64 t, .int .i64 x]) (by simp [results, Tryd.results24, go_sem]) rfl ⟨rfl, (by repeat (first | exact Below.refl _ _ | assumption | refine Below.drew ?_ | refine below_drewN ?_ _ | refine Below.alloc ?_ (by first | omega | (simp; done) | (simp; omega)) _ | refine Below.setCell ?_ (by first | omega | (simp; done) | (simp; omega)) _))⟩

set_option maxHeartbeats 1000000 in
theorem is_any (p : Int) (A : Option Addr) (n c : Nat) (hn : n = 1) (w : World) (h : Rd w w.heap.size 2 A n (pC [(p, 100)])) :
    Calls Tryd.prog 46 #[.slice A n c, .int .i64 p] w fun e w' => e = .returned (.bool true) ∧ w = w' := by
  subst hn
  obtain ⟨b, off, rfl, hbw, hc1, hc2⟩ := rd_p (l := [(p, 100)]) h 0 (by simp)
  have hc1 : w.cell? ⟨b, off, none⟩ = some (.int .i64 p) := by simpa using hc1
  have hc2 : w.cell? ⟨b, off + 1, none⟩ = some (.int .i64 100) := by simpa using hc2
  clear h
  go_enter Tryd.func46, Tryd.ntmps46
  go_wp2
  go_ret
  exact ⟨rfl, rfl⟩

/-! ### Entries of up to two outcomes -/
def zO : Oc := ⟨0, 0, 0, 0, 0, 0⟩
def oo (a b : Oc) : Nat → Oc
  | 0 => a
  | 1 => b
  | _ => zO
/-- The cells of an entry. -/
def enCells (k f : Int) (o : Nat → Oc) (a0 a1 : Int) : Array Value :=
  #[.int .i64 0, .int .i64 0, .int .i64 0, .int .i64 0, .int .u8 k, .int .u8 f, .bool false, .int .u8 (o 0).l, .int .u8 (o 0).d, .int .u8 (o 0).r, .int .u8 (o 0).s, .int .i64 (o 0).t, .int .i64 (o 0).w, .int .u8 (o 1).l, .int .u8 (o 1).d, .int .u8 (o 1).r, .int .u8 (o 1).s, .int .i64 (o 1).t, .int .i64 (o 1).w, .int .u8 (o 2).l, .int .u8 (o 2).d, .int .u8 (o 2).r, .int .u8 (o 2).s, .int .i64 (o 2).t, .int .i64 (o 2).w, .int .u8 (o 3).l, .int .u8 (o 3).d, .int .u8 (o 3).r, .int .u8 (o 3).s, .int .i64 (o 3).t, .int .i64 (o 3).w, .int .i64 a0, .int .i64 a1]
theorem enCells_ok (k f : Int) (o : Nat → Oc) (a0 a1 : Int) : EnC (enCells k f o a0 a1) k f o a0 a1 := by
  refine ⟨rfl, rfl, rfl, rfl, rfl, fun i hi => ?_⟩
  obtain rfl | rfl | rfl | rfl : i = 0 ∨ i = 1 ∨ i = 2 ∨ i = 3 := by omega
  all_goals exact ⟨rfl, rfl, rfl, rfl, rfl, rfl⟩
def fourA (o : Nat → Oc) : Array Value := #[.int .u8 (o 0).l, .int .u8 (o 0).d, .int .u8 (o 0).r, .int .u8 (o 0).s, .int .i64 (o 0).t, .int .i64 (o 0).w, .int .u8 (o 1).l, .int .u8 (o 1).d, .int .u8 (o 1).r, .int .u8 (o 1).s, .int .i64 (o 1).t, .int .i64 (o 1).w, .int .u8 (o 2).l, .int .u8 (o 2).d, .int .u8 (o 2).r, .int .u8 (o 2).s, .int .i64 (o 2).t, .int .i64 (o 2).w, .int .u8 (o 3).l, .int .u8 (o 3).d, .int .u8 (o 3).r, .int .u8 (o 3).s, .int .i64 (o 3).t, .int .i64 (o 3).w]
theorem enCells_one (k f : Int) (o : Nat → Oc) (a0 a1 : Int) : (enCells k f o a0 a1).all (·.oneCell') = true := by simp [enCells, Value.oneCell']

theorem wpList_build_to {P : Program} {ops : Array Oper} {rest : List Oper} {o : Oper} {a : Act} {w : World} {Q : Exit → Act → World → Prop} (hg : o.guard = none) (t : TypeId) (parts : Array (Nat × Operand)) (ho : o.op = .build t parts)
    (C : Array Value) (hf : P.built t (parts.map fun (i, x) => (i, a.eval x)).toList = some C)
    (h : wpList P ops Q rest (a.put o.dst (.agg C)) w) : wpList P ops Q (o :: rest) a w := by
  refine wpList_build hg t parts ho (by rw [hf]; rfl) ?_
  rw [hf]; exact h
/-- A value stored whole into the variable that was made last. -/
theorem wpList_store_new {P : Program} {ops : Array Oper} {rest : List Oper} {o : Oper} {a : Act} {w : World} {Q : Exit → Act → World → Prop} (hgd : o.guard = none) (ty : TypeId) (x y : Operand) (ho : o.op = .store ty x y)
    (cells : Array Value) (t : TypeId) (old : Array Value) (hx : a.eval x = .pointer (some ⟨w.heap.size, 0, none⟩)) (hy : a.eval y = .agg cells)
    (hi : (P.info? ty).map (·.size) = some cells.size) (hold : old.size = cells.size) (h1 : cells.all (·.oneCell') = true)
    (h : wpList P ops Q rest (a.put o.dst undef) (w.alloc (.cells cells t))) : wpList P ops Q (o :: rest) a (w.alloc (.cells old t)) := by
  refine wpList_store_row hgd ty x y ho w.heap.size cells hx hy t old (heap_alloc_last w _) hi hold h1 ?_
  rw [World.setRow_alloc_new]; exact h

def ex1 : Nat → Oc := oo ⟨2, 3, 0, 0, 8, 0⟩ zO
def ex2 : Nat → Oc := oo ⟨4, 3, 0, 0, 10, 60⟩ ⟨4, 3, 0, 0, 9, 40⟩
def ex3 : Nat → Oc := oo ⟨4, 3, 0, 0, 10, 0⟩ ⟨4, 3, 0, 0, 9, 0⟩
def ex0 : Nat → Oc := oo zO zO
theorem oo_ok {a b : Oc} (ha : OcOk a) (hb : OcOk b) : ∀ i, i < 4 → OcOk (oo a b i) := fun i _ => by
  match i with
  | 0 => exact ha
  | 1 => exact hb
  | n + 2 => exact (show OcOk zO by unfold OcOk zO; decide)

set_option maxRecDepth 100000 in
set_option maxHeartbeats 4000000 in
theorem awake22 (w : World) (hL : LaidS w) : Calls Tryd.prog 19 #[] w fun e w' => e = .returned (.bool true) ∧ Below w.heap.size w w' := by
  have HL := Lib.hid hL
  have HS := Lib.hid spades_any
  have hsz : ∀ k f o a0 a1, (Tryd.prog.info? 29).map (·.size) = some (enCells k f o a0 a1).size := fun k f o a0 a1 => (enCells_ok k f o a0 a1).size
  have HZ := Lib.hid hsz
  have HSd1 := Lib.hid (fun W hW => sides_some (enCells 1 0 ex1 0 0) 1 0 0 0 0 ex1 (enCells_ok _ _ _ _ _) (oo_ok (by unfold OcOk; decide) (by unfold OcOk zO; decide)) (by decide) (by decide) (by decide) (by decide) (by decide) W hW)
  have HMe := Lib.hid (fun W hW => mean_some (enCells 2 0 ex2 0 0) 2 0 0 0 0 ex2 (enCells_ok _ _ _ _ _) (oo_ok (by unfold OcOk; decide) (by unfold OcOk; decide)) (by decide) (by decide) (by decide) (by decide) (by decide) W hW)
  have HSd3 := Lib.hid (fun W hW => sides_some (enCells 3 0 ex3 0 0) 3 0 0 0 0 ex3 (enCells_ok _ _ _ _ _) (oo_ok (by unfold OcOk; decide) (by unfold OcOk; decide)) (by decide) (by decide) (by decide) (by decide) (by decide) W hW)
  have HAw := Lib.hid (fun W hW => award_some (enCells 4 0 ex0 60 40) 0 60 40 5 ex0 (enCells_ok _ _ _ _ _) (oo_ok (by unfold OcOk zO; decide) (by unfold OcOk zO; decide)) (by decide) (by decide) (by decide) W hW)
  have HSd0 := Lib.hid (fun W hW => sides_none (enCells 0 0 ex0 0 0) 0 0 0 0 0 ex0 (enCells_ok _ _ _ _ _) (oo_ok (by unfold OcOk zO; decide) (by unfold OcOk zO; decide)) (by decide) (by decide) (by decide) (by decide) (by decide) W hW)
  have HRi := Lib.hid (fun W hW => eright_any (enCells 2 0 ex2 0 0) 2 0 0 0 ex2 (enCells_ok _ _ _ _ _) (oo_ok (by unfold OcOk; decide) (by unfold OcOk; decide)) (by decide) (by decide) W hW)
  rw [show rightE 2 0 ex2 0 0 = true by decide] at HRi
  have p1 : wPts (sideA 1 ex1) 0 = [(110, 100)] := by decide
  have p2 : negP (wPts (sideB 1 ex1) 0) = [(-110, 100)] := by decide
  have p3 : wPts (sideA 3 ex3) 0 = [(420, 100)] := by decide
  have p4 : negP (wPts (sideB 3 ex3) 0) = [(50, 100)] := by decide
  have p5 : meanF (wPts (sideA 2 ex2) 0) = (232, 1) := by decide
  have p6 : meanF (negP (wPts (sideB 2 ex2) 0)) = (-232, 1) := by decide
  have p7 : awardF 60 5 = (24, 5) := by decide
  have p8 : awardF 40 5 = (16, 5) := by decide
  unfold SRes at HSd1 HSd3
  rw [p1, p2] at HSd1
  rw [p3, p4] at HSd3
  rw [p5, p6] at HMe
  rw [p7, p8] at HAw
  unfold fV at HMe HAw
  dsimp only at HMe HAw
  clear hL hsz p1 p2 p3 p4 p5 p6 p7 p8
  go_enter Tryd.func19, Tryd.ntmps19
  go_wp2_with fail
  refine (HS.out _ _ _ _).mono ?_
  rintro ee w1 ⟨rfl, hb1⟩
  go_wp2_with (first | (refine wpList_build_to rfl 26 _ rfl (fourA ex1) (by kernel_rfl) ?_) | (refine wpList_build_to rfl 29 _ rfl (enCells 1 0 ex1 0 0) (by kernel_rfl) ?_) | (refine wpList_store_new rfl 29 _ _ rfl (enCells 1 0 ex1 0 0) _ _ rfl rfl (HZ.out _ _ _ _ _) rfl (enCells_one _ _ _ _ _) ?_))
  obtain ⟨W1, hW1⟩ : ∃ W1, w1.alloc (.cells (enCells 1 0 ex1 0 0) 29) = W1 := ⟨_, rfl⟩
  obtain ⟨g1, hg1⟩ : ∃ g, w1.heap.size = g := ⟨_, rfl⟩
  have K1 := Lib.hid (show W1.heap[g1]? = some (.cells (enCells 1 0 ex1 0 0) 29) by rw [← hW1]; exact blk_new _ hg1.symm)
  have hB1 : Below w.heap.size w W1 := by rw [← hW1]; exact hb1.alloc hb1.size _
  rw [hW1, hg1]
  clear hW1 hg1 hb1
  refine (HS.out _ _ _ _).mono ?_
  rintro ee w2 ⟨rfl, hb2⟩
  go_wp2_with fail
  refine (HS.out _ _ _ _).mono ?_
  rintro ee w3 ⟨rfl, hb3⟩
  have hb13 := hb2.trans (hb3.mono hb2.size)
  have hB3 := below_via hB1 hb13
  go_wp2_with (first | (refine wpList_build_to rfl 26 _ rfl (fourA ex2) (by kernel_rfl) ?_) | (refine wpList_build_to rfl 29 _ rfl (enCells 2 0 ex2 0 0) (by kernel_rfl) ?_) | (refine wpList_store_new rfl 29 _ _ rfl (enCells 2 0 ex2 0 0) _ _ rfl rfl (HZ.out _ _ _ _ _) rfl (enCells_one _ _ _ _ _) ?_))
  obtain ⟨W2, hW2⟩ : ∃ W1, w3.alloc (.cells (enCells 2 0 ex2 0 0) 29) = W1 := ⟨_, rfl⟩
  obtain ⟨g2, hg2⟩ : ∃ g, w3.heap.size = g := ⟨_, rfl⟩
  have K2 := Lib.hid (show W2.heap[g2]? = some (.cells (enCells 2 0 ex2 0 0) 29) by rw [← hW2]; exact blk_new _ hg2.symm)
  have K1 := Lib.hid (show W2.heap[g1]? = some (.cells (enCells 1 0 ex1 0 0) 29) by rw [← hW2]; exact blk_alloc (blk_below K1.out hb13 (blk_lt K1.out)) _)
  have hB2 : Below w.heap.size w W2 := by rw [← hW2]; exact hB3.alloc hB3.size _
  rw [hW2, hg2]
  clear hW2 hg2 hb2 hb3 hb13 hB3 hB1
  refine (HS.out _ _ _ _).mono ?_
  rintro ee w4 ⟨rfl, hb4⟩
  go_wp2_with fail
  refine (HS.out _ _ _ _).mono ?_
  rintro ee w5 ⟨rfl, hb5⟩
  have hb25 := hb4.trans (hb5.mono hb4.size)
  have hB5 := below_via hB2 hb25
  have K3 := Lib.hid (show (w5.alloc (.cells (enCells 3 0 ex3 0 0) 29)).heap[w5.heap.size]? = some (.cells (enCells 3 0 ex3 0 0) 29) from blk_new _ rfl)
  have K1 := Lib.hid (show (w5.alloc (.cells (enCells 3 0 ex3 0 0) 29)).heap[g1]? = some (.cells (enCells 1 0 ex1 0 0) 29) from blk_alloc (blk_below K1.out hb25 (blk_lt K1.out)) _)
  have K2 := Lib.hid (show (w5.alloc (.cells (enCells 3 0 ex3 0 0) 29)).heap[g2]? = some (.cells (enCells 2 0 ex2 0 0) 29) from blk_alloc (blk_below K2.out hb25 (blk_lt K2.out)) _)
  have hB3 : Below w.heap.size w (w5.alloc (.cells (enCells 3 0 ex3 0 0) 29)) := hB5.alloc hB5.size _
  clear hb4 hb5 hb25 hB5 hB2
  go_wp2_with (first | (refine wpList_build_to rfl 26 _ rfl (fourA ex3) (by kernel_rfl) ?_) | (refine wpList_build_to rfl 29 _ rfl (enCells 3 0 ex3 0 0) (by kernel_rfl) ?_) | (refine wpList_store_new rfl 29 _ _ rfl (enCells 3 0 ex3 0 0) _ _ rfl rfl (HZ.out _ _ _ _ _) rfl (enCells_one _ _ _ _ _) ?_) | (refine wpList_load_row rfl 29 (.tmp 1) rfl g1 rfl 29 (enCells 1 0 ex1 0 0) _ _ K1.out Tryd.underlying29 rfl (HZ.out _ _ _ _ _) ?_))
  obtain ⟨W3, hW3⟩ : ∃ W1, w5.alloc (.cells (enCells 3 0 ex3 0 0) 29) = W1 := ⟨_, rfl⟩
  obtain ⟨g3, hg3⟩ : ∃ g, w5.heap.size = g := ⟨_, rfl⟩
  rw [hW3, hg3] at K3
  rw [hW3] at K1 K2 hB3
  rw [hW3, hg3]
  clear hW3 hg3
  refine (HSd1.out _ (HL.out.go hB3)).mono ?_
  rintro ee w6 ⟨v1, v2, rfl, o1, o2, -, hb6⟩
  obtain ⟨A1, c1, rfl⟩ := own_form o1
  obtain ⟨A2, c2, rfl⟩ := own_form o2
  have R1 := Lib.hid (Rd.of_own o1)
  have R2 := Lib.hid (Rd.of_own o2)
  have K1 := Lib.hid (blk_below K1.out hb6 (blk_lt K1.out))
  have K2 := Lib.hid (blk_below K2.out hb6 (blk_lt K2.out))
  have K3 := Lib.hid (blk_below K3.out hb6 (blk_lt K3.out))
  have hB6 := below_via hB3 hb6
  clear o1 o2 hb6 hB3 HSd1
  go_wp2_with (refine wpList_load_row rfl 29 (.tmp 2) rfl g2 rfl 29 (enCells 2 0 ex2 0 0) _ _ K2.out Tryd.underlying29 rfl (HZ.out _ _ _ _ _) ?_)
  refine (HMe.out _ (HL.out.go hB6)).mono ?_
  rintro ee w7 ⟨rfl, hb7⟩
  go_upto_region 6 with fail
  obtain ⟨W7, hW7⟩ : ∃ W1, (w7.alloc (.cells #[.int .i64 232, .int .i64 1] 40)).alloc (.cells #[.int .i64 (-232), .int .i64 1] 40) = W1 := ⟨_, rfl⟩
  obtain ⟨g7, hg7⟩ : ∃ g, w7.heap.size = g := ⟨_, rfl⟩
  have hb67 : Below w6.heap.size w6 W7 := by rw [← hW7]; exact (hb7.alloc hb7.size _).alloc (by have := hb7.size; simp; omega) _
  have N7 := Lib.hid (show W7.heap[g7]? = some (.cells #[.int .i64 232, .int .i64 1] 40) by rw [← hW7]; exact blk_alloc (blk_new _ hg7.symm) _)
  have N8 := Lib.hid (show W7.heap[g7 + 1]? = some (.cells #[.int .i64 (-232), .int .i64 1] 40) by rw [← hW7]; exact blk_new _ (by simp; omega))
  rw [hW7, hg7]
  have R1 := Lib.hid (R1.out.go hb67)
  have R2 := Lib.hid (R2.out.go hb67)
  have K2 := Lib.hid (blk_below K2.out hb67 (blk_lt K2.out))
  have K3 := Lib.hid (blk_below K3.out hb67 (blk_lt K3.out))
  have hB7 := below_via hB6 hb67
  clear hW7 hg7 hb7 hb67 hB6 HMe K1
  go_wp2_with (refine wpList_load_row rfl 29 (.tmp 3) rfl g3 rfl 29 (enCells 3 0 ex3 0 0) _ _ K3.out Tryd.underlying29 rfl (HZ.out _ _ _ _ _) ?_)
  refine (HSd3.out _ (HL.out.go hB7)).mono ?_
  rintro ee w8 ⟨v3, v4, rfl, o3, o4, -, hb8⟩
  obtain ⟨A3, c3, rfl⟩ := own_form o3
  obtain ⟨A4, c4, rfl⟩ := own_form o4
  have R3 := Lib.hid (Rd.of_own o3)
  have R4 := Lib.hid (Rd.of_own o4)
  have R1 := Lib.hid (R1.out.go hb8)
  have R2 := Lib.hid (R2.out.go hb8)
  have K2 := Lib.hid (blk_below K2.out hb8 (blk_lt K2.out))
  have N7 := Lib.hid (blk_below N7.out hb8 (blk_lt N7.out))
  have N8 := Lib.hid (blk_below N8.out hb8 (blk_lt N8.out))
  have hB8 := below_via hB7 hb8
  clear o3 o4 hb8 hB7 HSd3 K3
  go_wp2_with (refine wpList_build_to rfl 29 _ rfl (enCells 4 0 ex0 60 40) (by kernel_rfl) ?_)
  refine (HAw.out _ (HL.out.go hB8)).mono ?_
  rintro ee w9 ⟨rfl, hb9⟩
  go_upto_region 8 with fail
  obtain ⟨W9, hW9⟩ : ∃ W1, (w9.alloc (.cells #[.int .i64 24, .int .i64 5] 40)).alloc (.cells #[.int .i64 16, .int .i64 5] 40) = W1 := ⟨_, rfl⟩
  obtain ⟨g9, hg9⟩ : ∃ g, w9.heap.size = g := ⟨_, rfl⟩
  have hb89 : Below w8.heap.size w8 W9 := by rw [← hW9]; exact (hb9.alloc hb9.size _).alloc (by have := hb9.size; simp; omega) _
  have N9 := Lib.hid (show W9.heap[g9]? = some (.cells #[.int .i64 24, .int .i64 5] 40) by rw [← hW9]; exact blk_alloc (blk_new _ hg9.symm) _)
  have NA := Lib.hid (show W9.heap[g9 + 1]? = some (.cells #[.int .i64 16, .int .i64 5] 40) by rw [← hW9]; exact blk_new _ (by simp; omega))
  rw [hW9, hg9]
  have R1 := Lib.hid (R1.out.go hb89)
  have R2 := Lib.hid (R2.out.go hb89)
  have R3 := Lib.hid (R3.out.go hb89)
  have R4 := Lib.hid (R4.out.go hb89)
  have K2 := Lib.hid (blk_below K2.out hb89 (blk_lt K2.out))
  have N7 := Lib.hid (blk_below N7.out hb89 (blk_lt N7.out))
  have N8 := Lib.hid (blk_below N8.out hb89 (blk_lt N8.out))
  have hB9 := below_via hB8 hb89
  clear hW9 hg9 hb9 hb89 hB8 HAw
  go_wp2_with (refine wpList_build_to rfl 29 _ rfl (enCells 0 0 ex0 0 0) (by kernel_rfl) ?_)
  refine (HSd0.out _ (HL.out.go hB9)).mono ?_
  rintro ee wa ⟨rfl, hba⟩
  have R1 := Lib.hid (R1.out.go hba)
  have R2 := Lib.hid (R2.out.go hba)
  have R3 := Lib.hid (R3.out.go hba)
  have R4 := Lib.hid (R4.out.go hba)
  have K2 := Lib.hid (blk_below K2.out hba (blk_lt K2.out))
  have N7 := blk_below N7.out hba (blk_lt N7.out)
  have N8 := blk_below N8.out hba (blk_lt N8.out)
  have N9 := blk_below N9.out hba (blk_lt N9.out)
  have NA := blk_below NA.out hba (blk_lt NA.out)
  have hBa := below_via hB9 hba
  clear hba hB9 HSd0
  go_upto_region 9 with fail
  have q0 := blk_cell N7 0
  have q1 := blk_cell N7 1
  have q2 := blk_cell N8 0
  have q3 := blk_cell N8 1
  have q4 := blk_cell N9 0
  have q5 := blk_cell N9 1
  have q6 := blk_cell NA 0
  have q7 := blk_cell NA 1
  have l7 := blk_lt N7
  have l8 := blk_lt N8
  have l9 := blk_lt N9
  have lA := blk_lt NA
  have l2 := blk_lt K2.out
  have rg : wa.rangeAt g2 0 (enCells 2 0 ex2 0 0).toList := fun j v hv => by rw [Nat.zero_add, blk_cell K2.out]; simpa using hv
  have HSS := Lib.hid (fun (W : World) (hb : Below wa.heap.size wa W) => (show W.cell? ⟨g7, 0, none⟩ = some (.int .i64 232) ∧ W.cell? ⟨g7, 1, none⟩ = some (.int .i64 1) ∧ W.cell? ⟨g7 + 1, 0, none⟩ = some (.int .i64 (-232)) ∧ W.cell? ⟨g7 + 1, 1, none⟩ = some (.int .i64 1) ∧ W.cell? ⟨g9, 0, none⟩ = some (.int .i64 24) ∧ W.cell? ⟨g9, 1, none⟩ = some (.int .i64 5) ∧ W.cell? ⟨g9 + 1, 0, none⟩ = some (.int .i64 16) ∧ W.cell? ⟨g9 + 1, 1, none⟩ = some (.int .i64 5) ∧ W.rangeAt g2 0 (enCells 2 0 ex2 0 0).toList from ⟨keepB0 hb l7 q0, keepB0 hb l7 q1, keepB0 hb l8 q2, keepB0 hb l8 q3, keepB0 hb l9 q4, keepB0 hb l9 q5, keepB0 hb lA q6, keepB0 hb lA q7, fun j v hv => keepB0 hb l2 (rg j v hv)⟩))
  have HI1 := Lib.hid (fun (W : World) (hb : Below wa.heap.size wa W) => is_any 110 A1 1 c1 rfl W (R1.out.go hb))
  have HI2 := Lib.hid (fun (W : World) (hb : Below wa.heap.size wa W) => is_any (-110) A2 1 c2 rfl W (R2.out.go hb))
  have HI3 := Lib.hid (fun (W : World) (hb : Below wa.heap.size wa W) => is_any 420 A3 1 c3 rfl W (R3.out.go hb))
  have HI4 := Lib.hid (fun (W : World) (hb : Below wa.heap.size wa W) => is_any 50 A4 1 c4 rfl W (R4.out.go hb))
  have HQ := Lib.hid q22_any
  have hd : Below wa.heap.size wa wa.drew := (Below.refl _ _).drew
  have hu := Tryd.underlying29
  have hi : (Tryd.prog.info? 29).map (·.size) = some (enCells 2 0 ex2 0 0).toList.length := (by rw [info_entry]; rfl)
  have HRi1 := Lib.hid (fun (W : World) (hb : Below wa.heap.size wa W) => HRi.out W (HL.out.go (below_via hBa hb)))
  clear R1 R2 R3 R4 N7 N8 N9 NA K2 HRi HS
  refine wp_region_held_drew (S := (fun w' => w'.cell? ⟨g7, 0, none⟩ = some (.int .i64 232) ∧ w'.cell? ⟨g7, 1, none⟩ = some (.int .i64 1) ∧ w'.cell? ⟨g7 + 1, 0, none⟩ = some (.int .i64 (-232)) ∧ w'.cell? ⟨g7 + 1, 1, none⟩ = some (.int .i64 1) ∧ w'.cell? ⟨g9, 0, none⟩ = some (.int .i64 24) ∧ w'.cell? ⟨g9, 1, none⟩ = some (.int .i64 5) ∧ w'.cell? ⟨g9 + 1, 0, none⟩ = some (.int .i64 16) ∧ w'.cell? ⟨g9 + 1, 1, none⟩ = some (.int .i64 5) ∧ w'.rangeAt g2 0 (enCells 2 0 ex2 0 0).toList)) (by kernel_rfl) (HSS.out _ hd) (fun hHeld => ?_)
  refine take_named (i := 0) (d := 61) (v := ?v0) rfl (by kernel_rfl) (by kernel_rfl) (by kernel_rfl) (by kernel_rfl) (fun _ _ _ h => h) (Or.inl ⟨by kernel_rfl, ?y0⟩) (by assumption) ?_
  case y0 => intro wq hSw; (try dsimp only at hSw); go_simp; (try with_reducible rfl)
  (try simp only [Act.put, List.setIfInBounds_toArray, List.set_cons_zero, List.set_cons_succ])
  refine take_named (i := 1) (d := 62) (v := ?v1) rfl (by kernel_rfl) (by kernel_rfl) (by kernel_rfl) (by kernel_rfl) (fun _ _ _ h => h) (Or.inl ⟨by kernel_rfl, ?y1⟩) (by assumption) ?_
  case y1 => intro wq hSw; (try dsimp only at hSw); go_simp; (try with_reducible rfl)
  (try simp only [Act.put, List.setIfInBounds_toArray, List.set_cons_zero, List.set_cons_succ])
  refine take_named (i := 2) (d := 63) (v := ?v2) rfl (by kernel_rfl) (by kernel_rfl) (by kernel_rfl) (by kernel_rfl) (fun _ _ _ h => h) (Or.inl ⟨by kernel_rfl, ?y2⟩) (by assumption) ?_
  case y2 => intro wq hSw; (try dsimp only at hSw); go_simp; (try with_reducible rfl)
  (try simp only [Act.put, List.setIfInBounds_toArray, List.set_cons_zero, List.set_cons_succ])
  refine take_named (i := 3) (d := 64) (v := ?v3) rfl (by kernel_rfl) (by kernel_rfl) (by kernel_rfl) (by kernel_rfl) (fun _ _ _ h => h) (Or.inl ⟨by kernel_rfl, ?y3⟩) (by assumption) ?_
  case y3 => intro wq hSw; (try dsimp only at hSw); go_simp; (try with_reducible rfl)
  (try simp only [Act.put, List.setIfInBounds_toArray, List.set_cons_zero, List.set_cons_succ])
  refine take_named (i := 4) (d := 65) (v := ?v4) rfl (by kernel_rfl) (by kernel_rfl) (by kernel_rfl) (by kernel_rfl) (fun _ _ _ h => h) (Or.inl ⟨by kernel_rfl, ?y4⟩) (by assumption) ?_
  case y4 => intro wq hSw; (try dsimp only at hSw); go_simp; (try with_reducible rfl)
  (try simp only [Act.put, List.setIfInBounds_toArray, List.set_cons_zero, List.set_cons_succ])
  refine take_named (i := 5) (d := 66) (v := ?v5) rfl (by kernel_rfl) (by kernel_rfl) (by kernel_rfl) (by kernel_rfl) (fun _ _ _ h => h) (Or.inl ⟨by kernel_rfl, ?y5⟩) (by assumption) ?_
  case y5 => intro wq hSw; (try dsimp only at hSw); go_simp; (try with_reducible rfl)
  (try simp only [Act.put, List.setIfInBounds_toArray, List.set_cons_zero, List.set_cons_succ])
  refine take_named (i := 6) (d := 67) (v := ?v6) rfl (by kernel_rfl) (by kernel_rfl) (by kernel_rfl) (by kernel_rfl) (fun _ _ _ h => h) (Or.inl ⟨by kernel_rfl, ?y6⟩) (by assumption) ?_
  case y6 => intro wq hSw; (try dsimp only at hSw); go_simp; (try with_reducible rfl)
  (try simp only [Act.put, List.setIfInBounds_toArray, List.set_cons_zero, List.set_cons_succ])
  refine take_named (i := 7) (d := 68) (v := ?v7) rfl (by kernel_rfl) (by kernel_rfl) (by kernel_rfl) (by kernel_rfl) (fun _ _ _ h => h) (Or.inl ⟨by kernel_rfl, ?y7⟩) (by assumption) ?_
  case y7 => intro wq hSw; (try dsimp only at hSw); go_simp; (try with_reducible rfl)
  (try simp only [Act.put, List.setIfInBounds_toArray, List.set_cons_zero, List.set_cons_succ])
  refine take_named (i := 8) (d := 69) (v := ?v8) rfl (by kernel_rfl) (by kernel_rfl) (by kernel_rfl) (by kernel_rfl) (fun _ _ _ h => h) (Or.inl ⟨by kernel_rfl, ?y8⟩) (by assumption) ?_
  case y8 => intro wq hSw; (try dsimp only at hSw); go_simp; (try with_reducible rfl)
  (try simp only [Act.put, List.setIfInBounds_toArray, List.set_cons_zero, List.set_cons_succ])
  refine take_named (i := 9) (d := 70) (v := ?v9) rfl (by kernel_rfl) (by kernel_rfl) (by kernel_rfl) (by kernel_rfl) (fun _ _ _ h => h) (Or.inl ⟨by kernel_rfl, ?y9⟩) (by assumption) ?_
  case y9 => intro wq hSw; (try dsimp only at hSw); go_simp; (try with_reducible rfl)
  (try simp only [Act.put, List.setIfInBounds_toArray, List.set_cons_zero, List.set_cons_succ])
  refine take_named (i := 10) (d := 71) (v := ?v10) rfl (by kernel_rfl) (by kernel_rfl) (by kernel_rfl) (by kernel_rfl) (fun _ _ _ h => h) (Or.inl ⟨by kernel_rfl, ?y10⟩) (by assumption) ?_
  case y10 => intro wq hSw; (try dsimp only at hSw); go_simp; (try with_reducible rfl)
  (try simp only [Act.put, List.setIfInBounds_toArray, List.set_cons_zero, List.set_cons_succ])
  refine take_named (i := 11) (d := 72) (v := ?v11) rfl (by kernel_rfl) (by kernel_rfl) (by kernel_rfl) (by kernel_rfl) (fun _ _ _ h => h) (Or.inl ⟨by kernel_rfl, ?y11⟩) (by assumption) ?_
  case y11 => intro wq hSw; (try dsimp only at hSw); go_simp; (try with_reducible rfl)
  (try simp only [Act.put, List.setIfInBounds_toArray, List.set_cons_zero, List.set_cons_succ])
  refine take_named (i := 12) (d := 73) (v := ?v12) rfl (by kernel_rfl) (by kernel_rfl) (by kernel_rfl) (by kernel_rfl) (fun _ _ _ h => h) (Or.inl ⟨by kernel_rfl, ?y12⟩) (by assumption) ?_
  case y12 => intro wq hSw; (try dsimp only at hSw); go_simp; (try with_reducible rfl)
  (try simp only [Act.put, List.setIfInBounds_toArray, List.set_cons_zero, List.set_cons_succ])
  refine take_named (i := 13) (d := 74) (v := ?v13) rfl (by kernel_rfl) (by kernel_rfl) (by kernel_rfl) (by kernel_rfl) (fun _ _ _ h => h) (Or.inl ⟨by kernel_rfl, ?y13⟩) (by assumption) ?_
  case y13 => intro wq hSw; (try dsimp only at hSw); go_simp; (try with_reducible rfl)
  (try simp only [Act.put, List.setIfInBounds_toArray, List.set_cons_zero, List.set_cons_succ])
  refine wpAnyH_ready (rs := [14]) (by kernel_rfl) (by simp) ?_
  refine AllReadyH.cons rfl (fun K hK => ?_) AllReadyH.nil
  go_simp
  refine (HI1.out _ hd).mono ?_
  rintro ee wz ⟨rfl, rfl⟩
  refine hK.out _ _ hHeld (fun hHeld1 => ?_)
  clear hK K hHeld
  (try simp only [Act.put, List.setIfInBounds_toArray, List.set_cons_zero, List.set_cons_succ])
  refine take_named (i := 15) (d := 76) (v := ?v15) rfl (by kernel_rfl) (by kernel_rfl) (by kernel_rfl) (by kernel_rfl) (fun _ _ _ h => h) (Or.inl ⟨by kernel_rfl, ?y15⟩) (by assumption) ?_
  case y15 => intro wq hSw; (try dsimp only at hSw); go_simp; (try with_reducible rfl)
  (try simp only [Act.put, List.setIfInBounds_toArray, List.set_cons_zero, List.set_cons_succ])
  refine take_named (i := 16) (d := 77) (v := ?v16) rfl (by kernel_rfl) (by kernel_rfl) (by kernel_rfl) (by kernel_rfl) (fun _ _ _ h => h) (Or.inl ⟨by kernel_rfl, ?y16⟩) (by assumption) ?_
  case y16 => intro wq hSw; (try dsimp only at hSw); go_simp; (try with_reducible rfl)
  (try simp only [Act.put, List.setIfInBounds_toArray, List.set_cons_zero, List.set_cons_succ])
  refine take_named (i := 17) (d := 78) (v := ?v17) rfl (by kernel_rfl) (by kernel_rfl) (by kernel_rfl) (by kernel_rfl) (fun _ _ _ h => h) (Or.inl ⟨by kernel_rfl, ?y17⟩) (by assumption) ?_
  case y17 => intro wq hSw; (try dsimp only at hSw); go_simp; (try with_reducible rfl)
  (try simp only [Act.put, List.setIfInBounds_toArray, List.set_cons_zero, List.set_cons_succ])
  refine wpAnyH_ready (rs := [18]) (by kernel_rfl) (by simp) ?_
  refine AllReadyH.cons rfl (fun K hK => ?_) AllReadyH.nil
  go_simp
  refine (HI2.out _ hd).mono ?_
  rintro ee wz ⟨rfl, rfl⟩
  refine hK.out _ _ hHeld1 (fun hHeld2 => ?_)
  clear hK K hHeld1
  (try simp only [Act.put, List.setIfInBounds_toArray, List.set_cons_zero, List.set_cons_succ])
  refine take_named (i := 19) (d := 80) (v := ?v19) rfl (by kernel_rfl) (by kernel_rfl) (by kernel_rfl) (by kernel_rfl) (fun _ _ _ h => h) (Or.inl ⟨by kernel_rfl, ?y19⟩) (by assumption) ?_
  case y19 => intro wq hSw; (try dsimp only at hSw); go_simp; (try with_reducible rfl)
  (try simp only [Act.put, List.setIfInBounds_toArray, List.set_cons_zero, List.set_cons_succ])
  refine take_named (i := 20) (d := 81) (v := ?v20) rfl (by kernel_rfl) (by kernel_rfl) (by kernel_rfl) (by kernel_rfl) (fun _ _ _ h => h) (Or.inl ⟨by kernel_rfl, ?y20⟩) (by assumption) ?_
  case y20 => intro wq hSw; (try dsimp only at hSw); go_simp; (try with_reducible rfl)
  (try simp only [Act.put, List.setIfInBounds_toArray, List.set_cons_zero, List.set_cons_succ])
  refine take_named (i := 21) (d := 82) (v := ?v21) rfl (by kernel_rfl) (by kernel_rfl) (by kernel_rfl) (by kernel_rfl) (fun _ _ _ h => h) (Or.inl ⟨by kernel_rfl, ?y21⟩) (by assumption) ?_
  case y21 => intro wq hSw; (try dsimp only at hSw); go_simp; (try with_reducible rfl)
  (try simp only [Act.put, List.setIfInBounds_toArray, List.set_cons_zero, List.set_cons_succ])
  refine wpAnyH_ready (rs := [22]) (by kernel_rfl) (by simp) ?_
  refine AllReadyH.cons rfl (fun K hK => ?_) AllReadyH.nil
  go_simp
  refine (HQ.out _ _ _).mono ?_
  rintro ee wq1 ⟨rfl, hq1⟩
  have hb1 := hd.trans (hq1.mono hd.size)
  refine hK.out _ _ (HSS.out _ hb1) (fun hHeld3 => ?_)
  clear hK K hHeld2
  (try simp only [Act.put, List.setIfInBounds_toArray, List.set_cons_zero, List.set_cons_succ])
  refine take_named (i := 23) (d := 84) (v := ?v23) rfl (by kernel_rfl) (by kernel_rfl) (by kernel_rfl) (by kernel_rfl) (fun _ _ _ h => h) (Or.inl ⟨by kernel_rfl, ?y23⟩) (by assumption) ?_
  case y23 => intro wq hSw; (try dsimp only at hSw); go_simp; (try with_reducible rfl)
  (try simp only [Act.put, List.setIfInBounds_toArray, List.set_cons_zero, List.set_cons_succ])
  refine take_named (i := 24) (d := 85) (v := ?v24) rfl (by kernel_rfl) (by kernel_rfl) (by kernel_rfl) (by kernel_rfl) (fun _ _ _ h => h) (Or.inl ⟨by kernel_rfl, ?y24⟩) (by assumption) ?_
  case y24 => intro wq hSw; (try dsimp only at hSw); go_simp; (try with_reducible rfl)
  (try simp only [Act.put, List.setIfInBounds_toArray, List.set_cons_zero, List.set_cons_succ])
  refine take_named (i := 25) (d := 86) (v := ?v25) rfl (by kernel_rfl) (by kernel_rfl) (by kernel_rfl) (by kernel_rfl) (fun _ _ _ h => h) (Or.inl ⟨by kernel_rfl, ?y25⟩) (by assumption) ?_
  case y25 => intro wq hSw; (try dsimp only at hSw); go_simp; (try with_reducible rfl)
  (try simp only [Act.put, List.setIfInBounds_toArray, List.set_cons_zero, List.set_cons_succ])
  refine take_named (i := 26) (d := 87) (v := ?v26) rfl (by kernel_rfl) (by kernel_rfl) (by kernel_rfl) (by kernel_rfl) (fun _ _ _ h => h) (Or.inl ⟨by kernel_rfl, ?y26⟩) (by assumption) ?_
  case y26 => intro wq hSw; (try dsimp only at hSw); go_simp; (try with_reducible rfl)
  (try simp only [Act.put, List.setIfInBounds_toArray, List.set_cons_zero, List.set_cons_succ])
  refine wpAnyH_ready (rs := [27]) (by kernel_rfl) (by simp) ?_
  refine AllReadyH.cons rfl (fun K hK => ?_) AllReadyH.nil
  go_simp
  refine (HQ.out _ _ _).mono ?_
  rintro ee wq2 ⟨rfl, hq2⟩
  have hb2 := hb1.trans (hq2.mono hb1.size)
  refine hK.out _ _ (HSS.out _ hb2) (fun hHeld4 => ?_)
  clear hK K hHeld3
  (try simp only [Act.put, List.setIfInBounds_toArray, List.set_cons_zero, List.set_cons_succ])
  refine take_named (i := 28) (d := 89) (v := ?v28) rfl (by kernel_rfl) (by kernel_rfl) (by kernel_rfl) (by kernel_rfl) (fun _ _ _ h => h) (Or.inl ⟨by kernel_rfl, ?y28⟩) (by assumption) ?_
  case y28 => intro wq hSw; (try dsimp only at hSw); go_simp; (try with_reducible rfl)
  (try simp only [Act.put, List.setIfInBounds_toArray, List.set_cons_zero, List.set_cons_succ])
  refine take_named (i := 29) (d := 90) (v := ?v29) rfl (by kernel_rfl) (by kernel_rfl) (by kernel_rfl) (by kernel_rfl) (fun _ _ _ h => h) (Or.inl ⟨by kernel_rfl, ?y29⟩) (by assumption) ?_
  case y29 => intro wq hSw; (try dsimp only at hSw); go_simp; (try with_reducible rfl)
  (try simp only [Act.put, List.setIfInBounds_toArray, List.set_cons_zero, List.set_cons_succ])
  refine take_named (i := 30) (d := 91) (v := ?v30) rfl (by kernel_rfl) (by kernel_rfl) (by kernel_rfl) (by kernel_rfl) (fun _ _ _ h => h) (Or.inl ⟨by kernel_rfl, ?y30⟩) (by assumption) ?_
  case y30 => intro wq hSw; (try dsimp only at hSw); go_simp; (try with_reducible rfl)
  (try simp only [Act.put, List.setIfInBounds_toArray, List.set_cons_zero, List.set_cons_succ])
  refine take_named (i := 31) (d := 92) (v := ?v31) rfl (by kernel_rfl) (by kernel_rfl) (by kernel_rfl) (by kernel_rfl) (fun _ _ _ h => h) (Or.inl ⟨by kernel_rfl, ?y31⟩) (by assumption) ?_
  case y31 => intro wq hSw; (try dsimp only at hSw); go_simp; (try with_reducible rfl)
  (try simp only [Act.put, List.setIfInBounds_toArray, List.set_cons_zero, List.set_cons_succ])
  refine wpAnyH_ready (rs := [32]) (by kernel_rfl) (by simp) ?_
  refine AllReadyH.cons rfl (fun K hK => ?_) AllReadyH.nil
  go_simp
  refine (HI3.out _ hb2).mono ?_
  rintro ee wz ⟨rfl, rfl⟩
  refine hK.out _ _ hHeld4 (fun hHeld5 => ?_)
  clear hK K hHeld4
  (try simp only [Act.put, List.setIfInBounds_toArray, List.set_cons_zero, List.set_cons_succ])
  refine take_named (i := 33) (d := 94) (v := ?v33) rfl (by kernel_rfl) (by kernel_rfl) (by kernel_rfl) (by kernel_rfl) (fun _ _ _ h => h) (Or.inl ⟨by kernel_rfl, ?y33⟩) (by assumption) ?_
  case y33 => intro wq hSw; (try dsimp only at hSw); go_simp; (try with_reducible rfl)
  (try simp only [Act.put, List.setIfInBounds_toArray, List.set_cons_zero, List.set_cons_succ])
  refine take_named (i := 34) (d := 95) (v := ?v34) rfl (by kernel_rfl) (by kernel_rfl) (by kernel_rfl) (by kernel_rfl) (fun _ _ _ h => h) (Or.inl ⟨by kernel_rfl, ?y34⟩) (by assumption) ?_
  case y34 => intro wq hSw; (try dsimp only at hSw); go_simp; (try with_reducible rfl)
  (try simp only [Act.put, List.setIfInBounds_toArray, List.set_cons_zero, List.set_cons_succ])
  refine take_named (i := 35) (d := 96) (v := ?v35) rfl (by kernel_rfl) (by kernel_rfl) (by kernel_rfl) (by kernel_rfl) (fun _ _ _ h => h) (Or.inl ⟨by kernel_rfl, ?y35⟩) (by assumption) ?_
  case y35 => intro wq hSw; (try dsimp only at hSw); go_simp; (try with_reducible rfl)
  (try simp only [Act.put, List.setIfInBounds_toArray, List.set_cons_zero, List.set_cons_succ])
  refine wpAnyH_ready (rs := [36]) (by kernel_rfl) (by simp) ?_
  refine AllReadyH.cons rfl (fun K hK => ?_) AllReadyH.nil
  go_simp
  refine (HI4.out _ hb2).mono ?_
  rintro ee wz ⟨rfl, rfl⟩
  refine hK.out _ _ hHeld5 (fun hHeld6 => ?_)
  clear hK K hHeld5
  (try simp only [Act.put, List.setIfInBounds_toArray, List.set_cons_zero, List.set_cons_succ])
  refine take_named (i := 37) (d := 98) (v := ?v37) rfl (by kernel_rfl) (by kernel_rfl) (by kernel_rfl) (by kernel_rfl) (fun _ _ _ h => h) (Or.inl ⟨by kernel_rfl, ?y37⟩) (by assumption) ?_
  case y37 => intro wq hSw; (try dsimp only at hSw); go_simp; (try with_reducible rfl)
  (try simp only [Act.put, List.setIfInBounds_toArray, List.set_cons_zero, List.set_cons_succ])
  refine take_named (i := 38) (d := 99) (v := ?v38) rfl (by kernel_rfl) (by kernel_rfl) (by kernel_rfl) (by kernel_rfl) (fun _ _ _ h => h) (Or.inl ⟨by kernel_rfl, ?y38⟩) (by assumption) ?_
  case y38 => intro wq hSw; (try dsimp only at hSw); go_simp; (try with_reducible rfl)
  (try simp only [Act.put, List.setIfInBounds_toArray, List.set_cons_zero, List.set_cons_succ])
  refine take_named (i := 39) (d := 100) (v := ?v39) rfl (by kernel_rfl) (by kernel_rfl) (by kernel_rfl) (by kernel_rfl) (fun _ _ _ h => h) (Or.inl ⟨by kernel_rfl, ?y39⟩) (by assumption) ?_
  case y39 => intro wq hSw; (try dsimp only at hSw); go_simp; (try with_reducible rfl)
  (try simp only [Act.put, List.setIfInBounds_toArray, List.set_cons_zero, List.set_cons_succ])
  refine wpAnyH_ready (rs := [40]) (by kernel_rfl) (by simp) ?_
  refine AllReadyH.cons rfl (fun K hK => ?_) AllReadyH.nil
  go_simp
  refine (HQ.out _ _ _).mono ?_
  rintro ee wq3 ⟨rfl, hq3⟩
  have hb3 := hb2.trans (hq3.mono hb2.size)
  refine hK.out _ _ (HSS.out _ hb3) (fun hHeld7 => ?_)
  clear hK K hHeld6
  (try simp only [Act.put, List.setIfInBounds_toArray, List.set_cons_zero, List.set_cons_succ])
  refine take_named (i := 41) (d := 102) (v := ?v41) rfl (by kernel_rfl) (by kernel_rfl) (by kernel_rfl) (by kernel_rfl) (fun _ _ _ h => h) (Or.inl ⟨by kernel_rfl, ?y41⟩) (by assumption) ?_
  case y41 => intro wq hSw; (try dsimp only at hSw); go_simp; (try with_reducible rfl)
  (try simp only [Act.put, List.setIfInBounds_toArray, List.set_cons_zero, List.set_cons_succ])
  refine take_named (i := 42) (d := 103) (v := ?v42) rfl (by kernel_rfl) (by kernel_rfl) (by kernel_rfl) (by kernel_rfl) (fun _ _ _ h => h) (Or.inl ⟨by kernel_rfl, ?y42⟩) (by assumption) ?_
  case y42 => intro wq hSw; (try dsimp only at hSw); go_simp; (try with_reducible rfl)
  (try simp only [Act.put, List.setIfInBounds_toArray, List.set_cons_zero, List.set_cons_succ])
  refine take_named (i := 43) (d := 104) (v := ?v43) rfl (by kernel_rfl) (by kernel_rfl) (by kernel_rfl) (by kernel_rfl) (fun _ _ _ h => h) (Or.inl ⟨by kernel_rfl, ?y43⟩) (by assumption) ?_
  case y43 => intro wq hSw; (try dsimp only at hSw); go_simp; (try with_reducible rfl)
  (try simp only [Act.put, List.setIfInBounds_toArray, List.set_cons_zero, List.set_cons_succ])
  refine take_named (i := 44) (d := 105) (v := ?v44) rfl (by kernel_rfl) (by kernel_rfl) (by kernel_rfl) (by kernel_rfl) (fun _ _ _ h => h) (Or.inl ⟨by kernel_rfl, ?y44⟩) (by assumption) ?_
  case y44 => intro wq hSw; (try dsimp only at hSw); go_simp; (try with_reducible rfl)
  (try simp only [Act.put, List.setIfInBounds_toArray, List.set_cons_zero, List.set_cons_succ])
  refine wpAnyH_ready (rs := [45]) (by kernel_rfl) (by simp) ?_
  refine AllReadyH.cons rfl (fun K hK => ?_) AllReadyH.nil
  go_simp
  refine (HQ.out _ _ _).mono ?_
  rintro ee wq4 ⟨rfl, hq4⟩
  have hb4 := hb3.trans (hq4.mono hb3.size)
  refine hK.out _ _ (HSS.out _ hb4) (fun hHeld8 => ?_)
  clear hK K hHeld7
  (try simp only [Act.put, List.setIfInBounds_toArray, List.set_cons_zero, List.set_cons_succ])
  refine take_named (i := 46) (d := 107) (v := ?v46) rfl (by kernel_rfl) (by kernel_rfl) (by kernel_rfl) (by kernel_rfl) (fun _ _ _ h => h) (Or.inl ⟨by kernel_rfl, ?y46⟩) (by assumption) ?_
  case y46 => intro wq hSw; (try dsimp only at hSw); go_simp; (try with_reducible rfl)
  (try simp only [Act.put, List.setIfInBounds_toArray, List.set_cons_zero, List.set_cons_succ])
  refine take_named (i := 47) (d := 108) (v := ?v47) rfl (by kernel_rfl) (by kernel_rfl) (by kernel_rfl) (by kernel_rfl) (fun _ _ _ h => h) (Or.inl ⟨by kernel_rfl, ?y47⟩) (by assumption) ?_
  case y47 => intro wq hSw; (try dsimp only at hSw); go_simp; (try with_reducible rfl)
  (try simp only [Act.put, List.setIfInBounds_toArray, List.set_cons_zero, List.set_cons_succ])
  refine take_named (i := 48) (d := 109) (v := ?v48) rfl (by kernel_rfl) (by kernel_rfl) (by kernel_rfl) (by kernel_rfl) (fun _ _ _ h => h) (Or.inl ⟨by kernel_rfl, ?y48⟩) (by assumption) ?_
  case y48 => intro wq hSw; (try dsimp only at hSw); go_simp; (try with_reducible rfl)
  (try simp only [Act.put, List.setIfInBounds_toArray, List.set_cons_zero, List.set_cons_succ])
  refine take_named (i := 49) (d := 110) (v := .agg ((enCells 2 0 ex2 0 0).toList).toArray) rfl (by kernel_rfl) (by kernel_rfl) (by kernel_rfl) (by kernel_rfl) (fun _ _ _ h => h) (yieldsIf_load_mid (by kernel_rfl) 29 (.tmp 2) rfl g2 0 rfl ((enCells 2 0 ex2 0 0).toList) _ (fun w h => h.2.2.2.2.2.2.2.2) hu rfl hi) (by assumption) ?_
  (try simp only [Act.put, List.setIfInBounds_toArray, List.set_cons_zero, List.set_cons_succ])
  (try simp only [Array.toArray_toList])
  refine wpAnyH_ready (rs := [50]) (by kernel_rfl) (by simp) ?_
  refine AllReadyH.cons rfl (fun K hK => ?_) AllReadyH.nil
  go_simp
  refine (HRi1.out _ hb4).mono ?_
  rintro ee wq5 ⟨rfl, hq5⟩
  have hb5 := hb4.trans (hq5.mono hb4.size)
  refine hK.out _ _ (HSS.out _ hb5) (fun hHeld9 => ?_)
  clear hK K hHeld8
  (try simp only [Act.put, List.setIfInBounds_toArray, List.set_cons_zero, List.set_cons_succ])
  refine take_named (i := 51) (d := 112) (v := ?v51) rfl (by kernel_rfl) (by kernel_rfl) (by kernel_rfl) (by kernel_rfl) (fun _ _ _ h => h) (Or.inl ⟨by kernel_rfl, ?y51⟩) (by assumption) ?_
  case y51 => intro wq hSw; (try dsimp only at hSw); go_simp; (try with_reducible rfl)
  (try simp only [Act.put, List.setIfInBounds_toArray, List.set_cons_zero, List.set_cons_succ])
  refine take_named (i := 52) (d := 0) (v := ?v52) rfl (by kernel_rfl) (by kernel_rfl) (by kernel_rfl) (by kernel_rfl) (fun _ _ _ h => h) (Or.inl ⟨by kernel_rfl, ?y52⟩) (by assumption) ?_
  case y52 => intro wq hSw; (try dsimp only at hSw); go_simp; (try with_reducible rfl)
  (try simp only [Act.put, List.setIfInBounds_toArray, List.set_cons_zero])
  refine wpAnyH_done (by kernel_rfl) ?_ _
  go_wp2
  go_ret
  exact ⟨rfl, below_via hBa hb5⟩

end Go.Proofs.YtgfnggdjjigomaaDoor
