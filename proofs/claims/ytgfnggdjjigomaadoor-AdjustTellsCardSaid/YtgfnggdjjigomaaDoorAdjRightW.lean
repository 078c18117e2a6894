/- The walks of the package adjust: unawarded, void, out, whole, played, split, parts, weighted, awarded, Right. -/
import Derived.Test.YtgfnggdjjigomaaDoorAdjW
import Derived.Test.YtgfnggdjjigomaaDoorScoPtsW
import Derived.Deep.MidRow
namespace Go.Proofs.YtgfnggdjjigomaaDoor
open Go.RowKit

theorem EnC.size {C : Array Value} {k f a0 a1 : Int} {o : Nat → Oc} (h : EnC C k f o a0 a1) : (Tryd.prog.info? 29).map (·.size) = some C.size := by rw [info_entry, h.1]
/-- The load of a whole variable, behind a guard that is met. -/
theorem wpList_load_row_w {P : Program} {ops : Array Oper} {rest : List Oper} {o : Oper} {a : Act} {w : World} {Q : Exit → Act → World → Prop} (hw : Region.wanted o (yielded ops a.tmps) = true) (ty : TypeId) (x : Operand) (ho : o.op = .load ty x)
    (g : Nat) (hx : a.eval x = .pointer (some ⟨g, 0, none⟩)) (t : TypeId) (cs : Array Value) (fr : Nat × Nat) (d : TypeDesc) (hg : w.heap[g]? = some (.cells cs t fr))
    (hu : P.underlying ty = some d) (hd : (match d with | .struct _ | .array _ _ => true | _ => false) = true) (hi : (P.info? ty).map (·.size) = some cs.size)
    (h : wpList P ops Q rest (a.put o.dst (.agg cs)) w) : wpList P ops Q (o :: rest) a w :=
  wpList_step fun K hK => by simp only [hw, if_true]; exact wp_load_row ty x ho g hx t cs fr d hg hu hd hi (hK _ _ h)
theorem eq2 (a b c d : Int) (w : World) : (Op.equalIn 10000 27 (.agg #[.int .i64 a, .int .i64 b]) (.agg #[.int .i64 c, .int .i64 d])).run Tryd.prog w = .ok (a == c && b == d) w := by
  have u3 := Tryd.underlying3
  have a3 := Tryd.isAgg3
  have z3 := Tryd.sizeOf3
  rw [show (10000 : Nat) = 9999 + 1 from rfl, Op.equalIn]
  simp only [Sem.run_bind, run_underlying Tryd.underlying27, Result.andThen_ok]
  simp only [Std.Legacy.Range.forIn_eq_forIn_range', Std.Legacy.Range.size, Nat.sub_zero, Nat.add_sub_cancel, Nat.div_one, List.range'_succ, List.range'_zero, List.forIn_cons, List.forIn_nil]
  go_simp
  by_cases h1 : a = c <;> by_cases h2 : b = d <;> simp [h1, h2]
theorem eq2z (a b : Int) (N : Bool) (h : decide (a = 0 ∧ b = 0) = N) (w : World) : (Op.equalIn 10000 27 (.agg #[.int .i64 a, .int .i64 b]) (.agg #[.int .i64 0, .int .i64 0])).run Tryd.prog w = .ok N w := by
  rw [eq2, ← h]
  by_cases h1 : a = 0 <;> by_cases h2 : b = 0 <;> simp [h1, h2]
set_option maxRecDepth 100000 in
set_option maxHeartbeats 1000000 in
theorem unaw_any (C : Array Value) (k f a0 a1 : Int) (o : Nat → Oc) (hC : EnC C k f o a0 a1) (w : World) :
    Calls Tryd.prog 66 #[.agg C] w fun e w' => e = .returned (.bool (decide (a0 = 0 ∧ a1 = 0))) ∧ Below w.heap.size w w' := by
  obtain ⟨N, hN⟩ : ∃ N, decide (a0 = 0 ∧ a1 = 0) = N := ⟨_, rfl⟩
  rw [hN]
  have HE := eq2z a0 a1 N hN
  have d0 := hC.2.2.2.1
  have d1 := hC.2.2.2.2.1
  clear hN hC
  go_enter Tryd.func66, Tryd.ntmps66
  go_upto_region 1 with fail
  obtain ⟨W1, hW1⟩ : ∃ W1, w.alloc (.cells C 29) = W1 := ⟨_, rfl⟩
  have k1 : W1.heap[w.heap.size]? = some (.cells C 29) := by rw [← hW1]; exact blk_new _ rfl
  have hB1 : Below w.heap.size w W1 := by rw [← hW1]; exact (by repeat (first | exact Below.refl _ _ | assumption | refine Below.drew ?_ | refine below_drewN ?_ _ | refine Below.alloc ?_ (by first | omega | (simp; done) | (simp; omega)) _ | refine Below.setCell ?_ (by first | omega | (simp; done) | (simp; omega)) _))
  rw [hW1]
  have e0 := (blk_cell k1 31).trans d0
  have e1 := (blk_cell k1 32).trans d1
  clear hW1 k1 d0 d1
  go_wp2
  go_ret
  exact ⟨rfl, hB1⟩

set_option maxRecDepth 100000 in
set_option maxHeartbeats 1000000 in
theorem void_any (C : Array Value) (k f a0 a1 : Int) (o : Nat → Oc) (hC : EnC C k f o a0 a1) (w : World) :
    Calls Tryd.prog 39 #[.agg C] w fun e w' => e = .returned (.bool (voidB o a0 a1)) ∧ Below w.heap.size w w' := by
  obtain ⟨x, hx⟩ : ∃ x, restB o 0 = x := ⟨_, rfl⟩
  obtain ⟨y, hy⟩ : ∃ y, decide (a0 = 0 ∧ a1 = 0) = y := ⟨_, rfl⟩
  have HR := Lib.hid (fun W => rest_any C k f a0 a1 o 0 hC (by decide) W)
  have HU := Lib.hid (fun W => unaw_any C k f a0 a1 o hC W)
  have hi := hC.size
  unfold voidB
  rw [hx] at HR ⊢
  rw [hy] at HU ⊢
  clear hx hy hC
  go_enter Tryd.func39, Tryd.ntmps39
  go_upto_region 1 with fail
  obtain ⟨W1, hW1⟩ : ∃ W1, w.alloc (.cells C 29) = W1 := ⟨_, rfl⟩
  have k1 : W1.heap[w.heap.size]? = some (.cells C 29) := by rw [← hW1]; exact blk_new _ rfl
  have hB1 : Below w.heap.size w W1 := by rw [← hW1]; exact (by repeat (first | exact Below.refl _ _ | assumption | refine Below.drew ?_ | refine below_drewN ?_ _ | refine Below.alloc ?_ (by first | omega | (simp; done) | (simp; omega)) _ | refine Below.setCell ?_ (by first | omega | (simp; done) | (simp; omega)) _))
  rw [hW1]
  have HK := Lib.hid k1
  have HI := Lib.hid hi
  have g1 := blk_lt k1
  clear hW1 k1 hi
  go_wp2_with (refine wpList_load_row rfl 29 (.tmp 1) rfl w.heap.size rfl 29 C _ _ HK.out Tryd.underlying29 rfl HI.out ?_)
  refine (HR.out _).mono ?_
  rintro ee w2 ⟨rfl, hb2⟩
  have HK2 := Lib.hid (blk_below HK.out hb2 g1)
  have hB2 := below_via hB1 hb2
  cases x
  · go_wp2
    go_ret
    exact ⟨rfl, hB2⟩
  · go_wp2_with (refine wpList_load_row_w (by rfl) 29 (.tmp 1) rfl w.heap.size rfl 29 C _ _ HK2.out Tryd.underlying29 rfl HI.out ?_)
    refine (HU.out _).mono ?_
    rintro ee w3 ⟨rfl, hb3⟩
    go_wp2
    go_ret
    exact ⟨rfl, below_via hB2 hb3⟩

set_option maxHeartbeats 1000000 in
theorem out_any (x : Oc) (hx : OcOk x) (w : World) (hL : LaidS w) :
    Calls Tryd.prog 68 #[.agg #[.int .u8 x.l, .int .u8 x.d, .int .u8 x.r, .int .u8 x.s, .int .i64 x.t, .int .i64 x.w]] w fun e w' => e = .returned (.bool (outB x)) ∧ Below w.heap.size w w' := by
  obtain ⟨N, hN⟩ : ∃ N, outB x = N := ⟨_, rfl⟩
  rw [hN]
  obtain ⟨h1, h2, h3, h4, h5, h6⟩ := hx
  have hres : resultC x.l x.d x.r x.s x.t = N := hN
  have h0 := hL.lt
  have HL := Lib.hid hL
  cases N
  · have HP := Lib.hid (fun v W => spts_bad x.l x.d x.r x.s x.t v h1 h2 h3 h4 hres W)
    clear hN hres hL
    go_enter Tryd.func68, Tryd.ntmps68
    go_wp2_with fail
    refine (HP.out _ _).mono ?_
    rintro ee w1 ⟨rfl, hb⟩
    have hb0 := below_box hb
    go_wp2
    go_ret
    exact ⟨rfl, hb0⟩
  · have HP := Lib.hid (fun v W hW => spts_ok x.l x.d x.r x.s x.t v h1 h2 h3 h4 hres W hW)
    clear hN hres hL
    generalize ptsI _ _ _ _ = pp at HP
    go_enter Tryd.func68, Tryd.ntmps68
    go_wp2_with fail
    refine (HP.out _ _ (HL.out.go (by repeat (first | exact Below.refl _ _ | assumption | refine Below.drew ?_ | refine below_drewN ?_ _ | refine Below.alloc ?_ (by first | omega | (simp; done) | (simp; omega)) _ | refine Below.setCell ?_ (by first | omega | (simp; done) | (simp; omega)) _)))).mono ?_
    rintro ee w1 ⟨rfl, hb⟩
    have hb0 := below_box hb
    go_wp2
    go_ret
    exact ⟨rfl, hb0⟩

set_option maxHeartbeats 1000000 in
theorem whole_any (x : Oc) (hx : OcOk x) (w : World) (hL : LaidS w) :
    Calls Tryd.prog 67 #[.agg #[.int .u8 x.l, .int .u8 x.d, .int .u8 x.r, .int .u8 x.s, .int .i64 x.t, .int .i64 x.w]] w fun e w' => e = .returned (.bool (wholeB x)) ∧ Below w.heap.size w w' := by
  have HO := Lib.hid (fun W hW => out_any x hx W hW)
  have HL := Lib.hid hL
  unfold wholeB
  obtain ⟨N, hN⟩ : ∃ N, outB x = N := ⟨_, rfl⟩
  rw [hN] at HO ⊢
  clear hN hL hx
  obtain ⟨x1, x2, x3, x4, x5, x6⟩ := x
  dsimp only at HO ⊢
  go_enter Tryd.func67, Tryd.ntmps67
  go_wp2_with fail
  refine (HO.out _ (HL.out.go (by repeat (first | exact Below.refl _ _ | assumption | refine Below.drew ?_ | refine below_drewN ?_ _ | refine Below.alloc ?_ (by first | omega | (simp; done) | (simp; omega)) _ | refine Below.setCell ?_ (by first | omega | (simp; done) | (simp; omega)) _)))).mono ?_
  rintro ee w1 ⟨rfl, hb⟩
  have k1 := blk_below (blk_new (w := w) (.cells #[.int .u8 x1, .int .u8 x2, .int .u8 x3, .int .u8 x4, .int .i64 x5, .int .i64 x6] 25) rfl) hb (by simp)
  have hb0 := below_box hb
  have q5 := blk_cell k1 5
  clear hb k1
  cases N
  · go_wp2
    go_ret
    exact ⟨rfl, hb0⟩
  · go_wp2
    go_ret
    exact ⟨ret_bool (by rw [Bool.true_and]; rfl), hb0⟩

/-- What an entry's boxed variable gives a walk. -/
theorem EnC.cells {C : Array Value} {k f a0 a1 : Int} {o : Nat → Oc} (h : EnC C k f o a0 a1) {w : World} {g t : Nat} {fr : Nat × Nat} (hg : w.heap[g]? = some (.cells C t fr)) (i : Nat) (hi : i < 4) :
    w.cell? ⟨g, 7 + i * 6, none⟩ = some (.int .u8 (o i).l) ∧ w.cell? ⟨g, 7 + i * 6 + 1, none⟩ = some (.int .u8 (o i).d) ∧ w.cell? ⟨g, 7 + i * 6 + 2, none⟩ = some (.int .u8 (o i).r) ∧ w.cell? ⟨g, 7 + i * 6 + 3, none⟩ = some (.int .u8 (o i).s) ∧ w.cell? ⟨g, 7 + i * 6 + 4, none⟩ = some (.int .i64 (o i).t) ∧ w.cell? ⟨g, 7 + i * 6 + 5, none⟩ = some (.int .i64 (o i).w) := by
  obtain ⟨d0, d1, d2, d3, d4, d5⟩ := h.2.2.2.2.2 i hi
  exact ⟨(blk_cell hg _).trans d0, (blk_cell hg _).trans d1, (blk_cell hg _).trans d2, (blk_cell hg _).trans d3, (blk_cell hg _).trans d4, (blk_cell hg _).trans d5⟩

set_option maxRecDepth 100000 in
set_option maxHeartbeats 1000000 in
theorem played_any (C : Array Value) (k f a0 a1 : Int) (o : Nat → Oc) (hC : EnC C k f o a0 a1) (ho : ∀ i, i < 4 → OcOk (o i)) (w : World) (hL : LaidS w) :
    Calls Tryd.prog 40 #[.agg C] w fun e w' => e = .returned (.bool (playedB o a0 a1)) ∧ Below w.heap.size w w' := by
  have HR := Lib.hid (fun W => rest_any C k f a0 a1 o 1 hC (by decide) W)
  have HU := Lib.hid (fun W => unaw_any C k f a0 a1 o hC W)
  have HW := Lib.hid (fun W hW => whole_any (o 0) (ho 0 (by decide)) W hW)
  have HI := Lib.hid hC.size
  have HC := Lib.hid hC
  have HL := Lib.hid hL
  unfold playedB
  generalize restB o 1 = x at HR ⊢
  generalize decide (a0 = 0 ∧ a1 = 0) = y at HU ⊢
  generalize wholeB (o 0) = z at HW ⊢
  clear hC ho hL
  go_enter Tryd.func40, Tryd.ntmps40
  go_upto_region 1 with fail
  obtain ⟨W1, hW1⟩ : ∃ W1, w.alloc (.cells C 29) = W1 := ⟨_, rfl⟩
  have k1 : W1.heap[w.heap.size]? = some (.cells C 29) := by rw [← hW1]; exact blk_new _ rfl
  have hB1 : Below w.heap.size w W1 := by rw [← hW1]; exact (by repeat (first | exact Below.refl _ _ | assumption | refine Below.drew ?_ | refine below_drewN ?_ _ | refine Below.alloc ?_ (by first | omega | (simp; done) | (simp; omega)) _ | refine Below.setCell ?_ (by first | omega | (simp; done) | (simp; omega)) _))
  rw [hW1]
  have HK := Lib.hid k1
  have g1 := blk_lt k1
  obtain ⟨e0, e1, e2, e3, e4, e5⟩ := HC.out.cells k1 0 (by decide)
  clear hW1 k1
  go_wp2_with fail
  refine (HW.out _ (HL.out.go hB1)).mono ?_
  rintro ee w2 ⟨rfl, hb2⟩
  have HK2 := Lib.hid (blk_below HK.out hb2 g1)
  have g2 := blk_lt HK2.out
  have hB2 := below_via hB1 hb2
  clear e0 e1 e2 e3 e4 e5 hB1 hb2 HK g1
  cases z
  · go_wp2
    go_ret
    exact ⟨rfl, hB2⟩
  go_wp2_with (refine wpList_load_row_w (by rfl) 29 (.tmp 1) rfl w.heap.size rfl 29 C _ _ HK2.out Tryd.underlying29 rfl HI.out ?_)
  refine (HR.out _).mono ?_
  rintro ee w3 ⟨rfl, hb3⟩
  have HK3 := Lib.hid (blk_below HK2.out hb3 g2)
  have hB3 := below_via hB2 hb3
  clear hB2 hb3 HK2 g2
  cases x
  · go_wp2
    go_ret
    exact ⟨rfl, hB3⟩
  · go_wp2_with (refine wpList_load_row_w (by rfl) 29 (.tmp 1) rfl w.heap.size rfl 29 C _ _ HK3.out Tryd.underlying29 rfl HI.out ?_)
    refine (HU.out _).mono ?_
    rintro ee w4 ⟨rfl, hb4⟩
    go_wp2
    go_ret
    exact ⟨rfl, below_via hB3 hb4⟩

set_option maxRecDepth 100000 in
set_option maxHeartbeats 1000000 in
theorem split_any (C : Array Value) (k f a0 a1 : Int) (o : Nat → Oc) (hC : EnC C k f o a0 a1) (ho : ∀ i, i < 4 → OcOk (o i)) (w : World) (hL : LaidS w) :
    Calls Tryd.prog 42 #[.agg C] w fun e w' => e = .returned (.bool (splitB o a0 a1)) ∧ Below w.heap.size w w' := by
  have HR := Lib.hid (fun W => rest_any C k f a0 a1 o 2 hC (by decide) W)
  have HU := Lib.hid (fun W => unaw_any C k f a0 a1 o hC W)
  have HW := Lib.hid (fun W hW => whole_any (o 0) (ho 0 (by decide)) W hW)
  have HV := Lib.hid (fun W hW => whole_any (o 1) (ho 1 (by decide)) W hW)
  have HI := Lib.hid hC.size
  have HC := Lib.hid hC
  have HL := Lib.hid hL
  unfold splitB
  generalize restB o 2 = x at HR ⊢
  generalize decide (a0 = 0 ∧ a1 = 0) = y at HU ⊢
  generalize wholeB (o 0) = z at HW ⊢
  generalize wholeB (o 1) = z2 at HV ⊢
  clear hC ho hL
  go_enter Tryd.func42, Tryd.ntmps42
  go_upto_region 1 with fail
  obtain ⟨W1, hW1⟩ : ∃ W1, w.alloc (.cells C 29) = W1 := ⟨_, rfl⟩
  have k1 : W1.heap[w.heap.size]? = some (.cells C 29) := by rw [← hW1]; exact blk_new _ rfl
  have hB1 : Below w.heap.size w W1 := by rw [← hW1]; exact (by repeat (first | exact Below.refl _ _ | assumption | refine Below.drew ?_ | refine below_drewN ?_ _ | refine Below.alloc ?_ (by first | omega | (simp; done) | (simp; omega)) _ | refine Below.setCell ?_ (by first | omega | (simp; done) | (simp; omega)) _))
  rw [hW1]
  have HK := Lib.hid k1
  have g1 := blk_lt k1
  obtain ⟨e0, e1, e2, e3, e4, e5⟩ := HC.out.cells k1 0 (by decide)
  clear hW1 k1
  go_wp2_with fail
  refine (HW.out _ (HL.out.go hB1)).mono ?_
  rintro ee w2 ⟨rfl, hb2⟩
  have HK2 := Lib.hid (blk_below HK.out hb2 g1)
  have g2 := blk_lt HK2.out
  have hB2 := below_via hB1 hb2
  clear e0 e1 e2 e3 e4 e5 hB1 hb2 HK g1
  cases z
  · go_wp2
    go_ret
    exact ⟨rfl, hB2⟩
  obtain ⟨e0, e1, e2, e3, e4, e5⟩ := HC.out.cells HK2.out 1 (by decide)
  go_wp2_with fail
  refine (HV.out _ (HL.out.go hB2)).mono ?_
  rintro ee w6 ⟨rfl, hb6⟩
  have HK6 := Lib.hid (blk_below HK2.out hb6 g2)
  have g6 := blk_lt HK6.out
  have hB6 := below_via hB2 hb6
  clear e0 e1 e2 e3 e4 e5 hB2 hb6 HK2 g2
  cases z2
  · go_wp2
    go_ret
    exact ⟨rfl, hB6⟩
  go_wp2_with (refine wpList_load_row_w (by rfl) 29 (.tmp 1) rfl w.heap.size rfl 29 C _ _ HK6.out Tryd.underlying29 rfl HI.out ?_)
  refine (HR.out _).mono ?_
  rintro ee w3 ⟨rfl, hb3⟩
  have HK3 := Lib.hid (blk_below HK6.out hb3 g6)
  have hB3 := below_via hB6 hb3
  clear hB6 hb3 HK6 g6
  cases x
  · go_wp2
    go_ret
    exact ⟨rfl, hB3⟩
  · go_wp2_with (refine wpList_load_row_w (by rfl) 29 (.tmp 1) rfl w.heap.size rfl 29 C _ _ HK3.out Tryd.underlying29 rfl HI.out ?_)
    refine (HU.out _).mono ?_
    rintro ee w4 ⟨rfl, hb4⟩
    go_wp2
    go_ret
    exact ⟨rfl, below_via hB3 hb4⟩

end Go.Proofs.YtgfnggdjjigomaaDoor
