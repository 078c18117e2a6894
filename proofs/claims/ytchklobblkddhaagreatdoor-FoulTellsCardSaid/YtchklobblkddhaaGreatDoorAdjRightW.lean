/- The walks of the package adjust: rest, unawarded, void, .. The walks of the package adjust: unawarded, void, out, whole, played, split, parts, weighted, awarded, Right. The walks of the package adjust: parts, weighted, awarded, Right. -/
import Derived.Test.YtchklobblkddhaaGreatDoorScoMath
import Derived.Test.YtchklobblkddhaaGreatDoorScoW
import Derived.Laws.Rows
import Derived.Deep.DeepCutAuto
import Derived.Test.YtchklobblkddhaaGreatDoorScoPtsW
import Derived.Deep.MidRow
namespace Go.Proofs.YtchklobblkddhaaGreatDoor
open Go.RowKit

/-! ### The walks of the package adjust: rest, unawarded, void, .. -/
theorem info_entry : (Tryz.prog.info? 51).map (·.size) = some 33 := by kernel_rfl

set_option maxRecDepth 100000 in
set_option maxHeartbeats 1000000 in
theorem rest_any (C : Array Value) (k f a0 a1 : Int) (o : Nat → Oc) (n : Nat) (hC : EnC C k f o a0 a1) (hn : n ≤ 4) (w : World) :
    Calls Tryz.prog 59 #[.agg C, .int .i64 (n : Int)] w fun e w' => e = .returned (.bool (restB o n)) ∧ Below w.heap.size w w' := by
  obtain ⟨N, hN⟩ : ∃ N, restB o n = N := ⟨_, rfl⟩
  rw [hN]
  have HN := Lib.hid hN
  have HC := Lib.hid hC
  clear hN hC
  go_enter Tryz.func59, Tryz.ntmps59
  go_upto_region 1 with fail
  obtain ⟨W1, hW1⟩ : ∃ W1, w.alloc (.cells C 51) = W1 := ⟨_, rfl⟩
  obtain ⟨g, hg⟩ : ∃ g, w.heap.size = g := ⟨_, rfl⟩
  have k1 : W1.heap[g]? = some (.cells C 51) := by rw [← hW1]; exact blk_new _ hg.symm
  have hB1 : Below g w W1 := by rw [← hW1, ← hg]; exact (by repeat (first | exact Below.refl _ _ | assumption | refine Below.drew ?_ | refine below_drewN ?_ _ | refine Below.alloc ?_ (by first | omega | (simp; done) | (simp; omega)) _ | refine Below.setCell ?_ (by first | omega | (simp; done) | (simp; omega)) _))
  have s1 : g < W1.heap.size := blk_lt k1
  rw [hW1, hg]
  have HK := Lib.hid k1
  have HG := Lib.hid hg
  clear hW1 k1 hg
  have c0 : (0 : Int) ≤ (n : Int) := by omega
  have c1 : (n : Int) ≤ 4 := by omega
  by_cases h4 : n = 4
  · subst h4
    obtain rfl : true = N := by rw [← HN.out]; exact ((restB_iff o 4).2 (fun i h1 h2 => by omega)).symm
    have Hb := Lib.hid (show Below w.heap.size w W1 by rw [HG.out]; exact hB1)
    go_wp2
    go_loopw [11] (fun i wr => i = .int .i64 0 ∧ wr = W1) (fun _ _ => 0)
    case atStart => exact ⟨rfl, rfl⟩
    case round =>
      obtain ⟨rfl, rfl⟩ := hrel
      go_wp2
      go_ret
      exact ⟨rfl, Hb.out⟩
  · have c2 : ¬ 4 = n := by omega
    clear h4
    go_wp2
    go_loopw [11] (fun i wr => ∃ j : Nat, j ≤ 4 - n ∧ i = .int .i64 (j : Int) ∧ Hid (∀ i, i < 4 → n ≤ i → i < n + j → zB (o i) = true) ∧ Below (g + 1) W1 wr) (fun i _ => 4 - n - (intOf i).toNat)
    case atStart => exact ⟨0, by omega, rfl, (fun i h1 h2 h3 => by omega : ∀ i, i < 4 → n ≤ i → i < n + 0 → zB (o i) = true), Below.refl _ _⟩
    case round =>
      obtain ⟨j, hj, rfl, hz, hbel⟩ := hrel
      have hsr := hbel.size
      have hBr : Below g w wr := hB1.trans (hbel.mono (by omega))
      have HB := Lib.hid (show ∀ W, Below (g + 1) W1 W → Below w.heap.size w W from fun W h => by rw [HG.out]; exact hB1.trans (h.mono (by omega)))
      by_cases hlt : j < 4 - n
      · have kr := blk_below HK.out hbel (by omega)
        obtain ⟨d0, d1, d2, d3, d4, d5⟩ := HC.out.2.2.2.2.2 (n + j) (by omega)
        have hoff : 7 + n * 6 + j * 6 = 7 + (n + j) * 6 := by omega
        have e0 := (blk_cell kr (7 + n * 6 + j * 6)).trans ((congrArg (fun x => C[x]?) hoff).trans d0)
        have e1 := (blk_cell kr (7 + n * 6 + j * 6 + 1)).trans ((congrArg (fun x => C[x + 1]?) hoff).trans d1)
        have e2 := (blk_cell kr (7 + n * 6 + j * 6 + 2)).trans ((congrArg (fun x => C[x + 2]?) hoff).trans d2)
        have e3 := (blk_cell kr (7 + n * 6 + j * 6 + 3)).trans ((congrArg (fun x => C[x + 3]?) hoff).trans d3)
        have e4 := (blk_cell kr (7 + n * 6 + j * 6 + 4)).trans ((congrArg (fun x => C[x + 4]?) hoff).trans d4)
        have e5 := (blk_cell kr (7 + n * 6 + j * 6 + 5)).trans ((congrArg (fun x => C[x + 5]?) hoff).trans d5)
        have HX := Lib.hid (show zB (o (n + j)) = decide ((o (n + j)).l = 0 ∧ (o (n + j)).d = 0 ∧ (o (n + j)).r = 0 ∧ (o (n + j)).s = 0 ∧ (o (n + j)).t = 0 ∧ (o (n + j)).w = 0) from rfl)
        clear d0 d1 d2 d3 d4 d5 hoff kr
        obtain ⟨x, hx⟩ : ∃ x, o (n + j) = x := ⟨_, rfl⟩
        rw [hx] at e0 e1 e2 e3 e4 e5 HX
        have Hx := Lib.hid hx
        clear hx
        obtain ⟨x1, x2, x3, x4, x5, x6⟩ := x
        dsimp only at e0 e1 e2 e3 e4 e5 HX
        have c3 : (0 : Int) ≤ (j : Int) := by omega
        have c4 : (j : Int) < ((4 - n : Nat) : Int) := by omega
        by_cases hzz : x1 = 0 ∧ x2 = 0 ∧ x3 = 0 ∧ x4 = 0 ∧ x5 = 0 ∧ x6 = 0
        · obtain ⟨rfl, rfl, rfl, rfl, rfl, rfl⟩ := hzz
          have Hn : Hid (∀ i, i < 4 → n ≤ i → i < n + (j + 1) → zB (o i) = true) := Lib.hid (fun i h1 h2 h3 => by
            by_cases hi : i < n + j
            · exact hz.out i h1 h2 hi
            · obtain rfl : i = n + j := by omega
              rw [Hx.out, HX.out]; decide)
          have hb2 := hbel.alloc (by omega : g + 1 ≤ wr.heap.size) (.cells #[.int .u8 0, .int .u8 0, .int .u8 0, .int .u8 0, .int .i64 0, .int .i64 0] 47)
          go_wp2
          go_roundw
          case rel => exact ⟨j + 1, by omega, by go_num, Hn.out, hb2⟩
          case measure => simp [intOf]; omega
        · obtain rfl : false = N := by
            rw [← HN.out]
            cases hq : restB o n with
            | false => rfl
            | true =>
              have := (restB_iff o n).1 hq (n + j) (by omega) (by omega)
              rw [Hx.out, HX.out] at this
              exact absurd (of_decide_eq_true this) hzz
          have HZ := Lib.hid hzz
          clear hzz
          go_wp2
          all_goals first
            | exact absurd ⟨by assumption, by assumption, by assumption, by assumption, by assumption, by assumption⟩ HZ.out
            | (go_ret; exact ⟨rfl, HB.out _ (hbel.alloc (by omega : g + 1 ≤ wr.heap.size) _)⟩)
      · obtain rfl : j = 4 - n := by omega
        obtain rfl : true = N := by
          rw [← HN.out]; exact ((restB_iff o n).2 (fun i h1 h2 => hz.out i h1 h2 (by omega))).symm
        have t0 : decide (((4 - n : Nat) : Int) < ((4 - n : Nat) : Int)) = false := decide_eq_false (by omega)
        go_wp2
        go_ret
        exact ⟨rfl, HB.out _ hbel⟩

/-! ### The walks of the package adjust: unawarded, void, out, whole, played, split, parts, weighted, awarded, Right. -/
theorem EnC.size {C : Array Value} {k f a0 a1 : Int} {o : Nat → Oc} (h : EnC C k f o a0 a1) : (Tryz.prog.info? 51).map (·.size) = some C.size := by rw [info_entry, h.1]
/-- The load of a whole variable, behind a guard that is met. -/
theorem wpList_load_row_w {P : Program} {ops : Array Oper} {rest : List Oper} {o : Oper} {a : Act} {w : World} {Q : Exit → Act → World → Prop} (hw : Region.wanted o (yielded ops a.tmps) = true) (ty : TypeId) (x : Operand) (ho : o.op = .load ty x)
    (g : Nat) (hx : a.eval x = .pointer (some ⟨g, 0, none⟩)) (t : TypeId) (cs : Array Value) (fr : Nat × Nat) (d : TypeDesc) (hg : w.heap[g]? = some (.cells cs t fr))
    (hu : P.underlying ty = some d) (hd : (match d with | .struct _ | .array _ _ => true | _ => false) = true) (hi : (P.info? ty).map (·.size) = some cs.size)
    (h : wpList P ops Q rest (a.put o.dst (.agg cs)) w) : wpList P ops Q (o :: rest) a w :=
  wpList_step fun K hK => by simp only [hw, if_true]; exact wp_load_row ty x ho g hx t cs fr d hg hu hd hi (hK _ _ h)
theorem eq2 (a b c d : Int) (w : World) : (Op.equalIn 10000 49 (.agg #[.int .i64 a, .int .i64 b]) (.agg #[.int .i64 c, .int .i64 d])).run Tryz.prog w = .ok (a == c && b == d) w := by
  have u3 := Tryz.underlying3
  have a3 := Tryz.isAgg3
  have z3 := Tryz.sizeOf3
  rw [show (10000 : Nat) = 9999 + 1 from rfl, Op.equalIn]
  simp only [Sem.run_bind, run_underlying Tryz.underlying49, Result.andThen_ok]
  simp only [Std.Legacy.Range.forIn_eq_forIn_range', Std.Legacy.Range.size, Nat.sub_zero, Nat.add_sub_cancel, Nat.div_one, List.range'_succ, List.range'_zero, List.forIn_cons, List.forIn_nil]
  go_simp
  by_cases h1 : a = c <;> by_cases h2 : b = d <;> simp [h1, h2]
theorem eq2z (a b : Int) (N : Bool) (h : decide (a = 0 ∧ b = 0) = N) (w : World) : (Op.equalIn 10000 49 (.agg #[.int .i64 a, .int .i64 b]) (.agg #[.int .i64 0, .int .i64 0])).run Tryz.prog w = .ok N w := by
  rw [eq2, ← h]
  by_cases h1 : a = 0 <;> by_cases h2 : b = 0 <;> simp [h1, h2]
set_option maxRecDepth 100000 in
set_option maxHeartbeats 1000000 in
theorem unaw_any (C : Array Value) (k f a0 a1 : Int) (o : Nat → Oc) (hC : EnC C k f o a0 a1) (w : World) :
    Calls Tryz.prog 60 #[.agg C] w fun e w' => e = .returned (.bool (decide (a0 = 0 ∧ a1 = 0))) ∧ Below w.heap.size w w' := by
  obtain ⟨N, hN⟩ : ∃ N, decide (a0 = 0 ∧ a1 = 0) = N := ⟨_, rfl⟩
  rw [hN]
  have HE := eq2z a0 a1 N hN
  have d0 := hC.2.2.2.1
  have d1 := hC.2.2.2.2.1
  clear hN hC
  go_enter Tryz.func60, Tryz.ntmps60
  go_upto_region 1 with fail
  obtain ⟨W1, hW1⟩ : ∃ W1, w.alloc (.cells C 51) = W1 := ⟨_, rfl⟩
  have k1 : W1.heap[w.heap.size]? = some (.cells C 51) := by rw [← hW1]; exact blk_new _ rfl
  have hB1 : Below w.heap.size w W1 := by rw [← hW1]; exact (by repeat (first | exact Below.refl _ _ | assumption | refine Below.drew ?_ | refine below_drewN ?_ _ | refine Below.alloc ?_ (by first | omega | (simp; done) | (simp; omega)) _ | refine Below.setCell ?_ (by first | omega | (simp; done) | (simp; omega)) _))
  rw [hW1]
  have e0 := (blk_cell k1 31).trans d0
  have e1 := (blk_cell k1 32).trans d1
  clear hW1 k1 d0 d1
  go_wp2
  go_ret
  exact ⟨rfl, hB1⟩

set_option maxRecDepth 100000 in
set_option maxHeartbeats 1000000 in
theorem void_any (C : Array Value) (k f a0 a1 : Int) (o : Nat → Oc) (hC : EnC C k f o a0 a1) (w : World) :
    Calls Tryz.prog 38 #[.agg C] w fun e w' => e = .returned (.bool (voidB o a0 a1)) ∧ Below w.heap.size w w' := by
  obtain ⟨x, hx⟩ : ∃ x, restB o 0 = x := ⟨_, rfl⟩
  obtain ⟨y, hy⟩ : ∃ y, decide (a0 = 0 ∧ a1 = 0) = y := ⟨_, rfl⟩
  have HR := Lib.hid (fun W => rest_any C k f a0 a1 o 0 hC (by decide) W)
  have HU := Lib.hid (fun W => unaw_any C k f a0 a1 o hC W)
  have hi := hC.size
  unfold voidB
  rw [hx] at HR ⊢
  rw [hy] at HU ⊢
  clear hx hy hC
  go_enter Tryz.func38, Tryz.ntmps38
  go_upto_region 1 with fail
  obtain ⟨W1, hW1⟩ : ∃ W1, w.alloc (.cells C 51) = W1 := ⟨_, rfl⟩
  have k1 : W1.heap[w.heap.size]? = some (.cells C 51) := by rw [← hW1]; exact blk_new _ rfl
  have hB1 : Below w.heap.size w W1 := by rw [← hW1]; exact (by repeat (first | exact Below.refl _ _ | assumption | refine Below.drew ?_ | refine below_drewN ?_ _ | refine Below.alloc ?_ (by first | omega | (simp; done) | (simp; omega)) _ | refine Below.setCell ?_ (by first | omega | (simp; done) | (simp; omega)) _))
  rw [hW1]
  have HK := Lib.hid k1
  have HI := Lib.hid hi
  have g1 := blk_lt k1
  clear hW1 k1 hi
  go_wp2_with (refine wpList_load_row rfl 51 (.tmp 1) rfl w.heap.size rfl 51 C _ _ HK.out Tryz.underlying51 rfl HI.out ?_)
  refine (HR.out _).mono ?_
  rintro ee w2 ⟨rfl, hb2⟩
  have HK2 := Lib.hid (blk_below HK.out hb2 g1)
  have hB2 := below_via hB1 hb2
  cases x
  · go_wp2
    go_ret
    exact ⟨rfl, hB2⟩
  · go_wp2_with (refine wpList_load_row_w (by rfl) 51 (.tmp 1) rfl w.heap.size rfl 51 C _ _ HK2.out Tryz.underlying51 rfl HI.out ?_)
    refine (HU.out _).mono ?_
    rintro ee w3 ⟨rfl, hb3⟩
    go_wp2
    go_ret
    exact ⟨rfl, below_via hB2 hb3⟩

set_option maxHeartbeats 1000000 in
theorem out_any (x : Oc) (hx : OcOk x) (w : World) (hL : LaidS w) :
    Calls Tryz.prog 62 #[.agg #[.int .u8 x.l, .int .u8 x.d, .int .u8 x.r, .int .u8 x.s, .int .i64 x.t, .int .i64 x.w]] w fun e w' => e = .returned (.bool (outB x)) ∧ Below w.heap.size w w' := by
  obtain ⟨N, hN⟩ : ∃ N, outB x = N := ⟨_, rfl⟩
  rw [hN]
  obtain ⟨h1, h2, h3, h4, h5, h6⟩ := hx
  have hres : resultC x.l x.d x.r x.s x.t = N := hN
  have h0 := hL.lt
  have HL := Lib.hid hL
  cases N
  · have HP := Lib.hid (fun v W => spts_bad x.l x.d x.r x.s x.t v h1 h2 h3 h4 hres W)
    clear hN hres hL
    go_enter Tryz.func62, Tryz.ntmps62
    go_wp2_with fail
    refine (HP.out _ _).mono ?_
    rintro ee w1 ⟨rfl, hb⟩
    have hb0 := below_box hb
    go_wp2
    go_ret
    exact ⟨rfl, hb0⟩
  · have HP := Lib.hid (fun v W hW => spts_ok x.l x.d x.r x.s x.t v h1 h2 h3 h4 hres W hW)
    clear hN hres hL
    generalize ptsI _ _ _ _ = pp at HP
    go_enter Tryz.func62, Tryz.ntmps62
    go_wp2_with fail
    refine (HP.out _ _ (HL.out.go (by repeat (first | exact Below.refl _ _ | assumption | refine Below.drew ?_ | refine below_drewN ?_ _ | refine Below.alloc ?_ (by first | omega | (simp; done) | (simp; omega)) _ | refine Below.setCell ?_ (by first | omega | (simp; done) | (simp; omega)) _)))).mono ?_
    rintro ee w1 ⟨rfl, hb⟩
    have hb0 := below_box hb
    go_wp2
    go_ret
    exact ⟨rfl, hb0⟩

set_option maxHeartbeats 1000000 in
theorem whole_any (x : Oc) (hx : OcOk x) (w : World) (hL : LaidS w) :
    Calls Tryz.prog 61 #[.agg #[.int .u8 x.l, .int .u8 x.d, .int .u8 x.r, .int .u8 x.s, .int .i64 x.t, .int .i64 x.w]] w fun e w' => e = .returned (.bool (wholeB x)) ∧ Below w.heap.size w w' := by
  have HO := Lib.hid (fun W hW => out_any x hx W hW)
  have HL := Lib.hid hL
  unfold wholeB
  obtain ⟨N, hN⟩ : ∃ N, outB x = N := ⟨_, rfl⟩
  rw [hN] at HO ⊢
  clear hN hL hx
  obtain ⟨x1, x2, x3, x4, x5, x6⟩ := x
  dsimp only at HO ⊢
  go_enter Tryz.func61, Tryz.ntmps61
  go_wp2_with fail
  refine (HO.out _ (HL.out.go (by repeat (first | exact Below.refl _ _ | assumption | refine Below.drew ?_ | refine below_drewN ?_ _ | refine Below.alloc ?_ (by first | omega | (simp; done) | (simp; omega)) _ | refine Below.setCell ?_ (by first | omega | (simp; done) | (simp; omega)) _)))).mono ?_
  rintro ee w1 ⟨rfl, hb⟩
  have k1 := blk_below (blk_new (w := w) (.cells #[.int .u8 x1, .int .u8 x2, .int .u8 x3, .int .u8 x4, .int .i64 x5, .int .i64 x6] 47) rfl) hb (by simp)
  have hb0 := below_box hb
  have q5 := blk_cell k1 5
  clear hb k1
  cases N
  · go_wp2
    go_ret
    exact ⟨rfl, hb0⟩
  · go_wp2
    go_ret
    exact ⟨ret_bool (by rw [Bool.true_and]; rfl), hb0⟩

/-- What an entry's boxed variable gives a walk. -/
theorem EnC.cells {C : Array Value} {k f a0 a1 : Int} {o : Nat → Oc} (h : EnC C k f o a0 a1) {w : World} {g t : Nat} {fr : Nat × Nat} (hg : w.heap[g]? = some (.cells C t fr)) (i : Nat) (hi : i < 4) :
    w.cell? ⟨g, 7 + i * 6, none⟩ = some (.int .u8 (o i).l) ∧ w.cell? ⟨g, 7 + i * 6 + 1, none⟩ = some (.int .u8 (o i).d) ∧ w.cell? ⟨g, 7 + i * 6 + 2, none⟩ = some (.int .u8 (o i).r) ∧ w.cell? ⟨g, 7 + i * 6 + 3, none⟩ = some (.int .u8 (o i).s) ∧ w.cell? ⟨g, 7 + i * 6 + 4, none⟩ = some (.int .i64 (o i).t) ∧ w.cell? ⟨g, 7 + i * 6 + 5, none⟩ = some (.int .i64 (o i).w) := by
  obtain ⟨d0, d1, d2, d3, d4, d5⟩ := h.2.2.2.2.2 i hi
  exact ⟨(blk_cell hg _).trans d0, (blk_cell hg _).trans d1, (blk_cell hg _).trans d2, (blk_cell hg _).trans d3, (blk_cell hg _).trans d4, (blk_cell hg _).trans d5⟩

set_option maxRecDepth 100000 in
set_option maxHeartbeats 1000000 in
theorem played_any (C : Array Value) (k f a0 a1 : Int) (o : Nat → Oc) (hC : EnC C k f o a0 a1) (ho : ∀ i, i < 4 → OcOk (o i)) (w : World) (hL : LaidS w) :
    Calls Tryz.prog 39 #[.agg C] w fun e w' => e = .returned (.bool (playedB o a0 a1)) ∧ Below w.heap.size w w' := by
  have HR := Lib.hid (fun W => rest_any C k f a0 a1 o 1 hC (by decide) W)
  have HU := Lib.hid (fun W => unaw_any C k f a0 a1 o hC W)
  have HW := Lib.hid (fun W hW => whole_any (o 0) (ho 0 (by decide)) W hW)
  have HI := Lib.hid hC.size
  have HC := Lib.hid hC
  have HL := Lib.hid hL
  unfold playedB
  generalize restB o 1 = x at HR ⊢
  generalize decide (a0 = 0 ∧ a1 = 0) = y at HU ⊢
  generalize wholeB (o 0) = z at HW ⊢
  clear hC ho hL
  go_enter Tryz.func39, Tryz.ntmps39
  go_upto_region 1 with fail
  obtain ⟨W1, hW1⟩ : ∃ W1, w.alloc (.cells C 51) = W1 := ⟨_, rfl⟩
  have k1 : W1.heap[w.heap.size]? = some (.cells C 51) := by rw [← hW1]; exact blk_new _ rfl
  have hB1 : Below w.heap.size w W1 := by rw [← hW1]; exact (by repeat (first | exact Below.refl _ _ | assumption | refine Below.drew ?_ | refine below_drewN ?_ _ | refine Below.alloc ?_ (by first | omega | (simp; done) | (simp; omega)) _ | refine Below.setCell ?_ (by first | omega | (simp; done) | (simp; omega)) _))
  rw [hW1]
  have HK := Lib.hid k1
  have g1 := blk_lt k1
  obtain ⟨e0, e1, e2, e3, e4, e5⟩ := HC.out.cells k1 0 (by decide)
  clear hW1 k1
  go_wp2_with fail
  refine (HW.out _ (HL.out.go hB1)).mono ?_
  rintro ee w2 ⟨rfl, hb2⟩
  have HK2 := Lib.hid (blk_below HK.out hb2 g1)
  have g2 := blk_lt HK2.out
  have hB2 := below_via hB1 hb2
  clear e0 e1 e2 e3 e4 e5 hB1 hb2 HK g1
  cases z
  · go_wp2
    go_ret
    exact ⟨rfl, hB2⟩
  go_wp2_with (refine wpList_load_row_w (by rfl) 51 (.tmp 1) rfl w.heap.size rfl 51 C _ _ HK2.out Tryz.underlying51 rfl HI.out ?_)
  refine (HR.out _).mono ?_
  rintro ee w3 ⟨rfl, hb3⟩
  have HK3 := Lib.hid (blk_below HK2.out hb3 g2)
  have hB3 := below_via hB2 hb3
  clear hB2 hb3 HK2 g2
  cases x
  · go_wp2
    go_ret
    exact ⟨rfl, hB3⟩
  · go_wp2_with (refine wpList_load_row_w (by rfl) 51 (.tmp 1) rfl w.heap.size rfl 51 C _ _ HK3.out Tryz.underlying51 rfl HI.out ?_)
    refine (HU.out _).mono ?_
    rintro ee w4 ⟨rfl, hb4⟩
    go_wp2
    go_ret
    exact ⟨rfl, below_via hB3 hb4⟩

set_option maxRecDepth 100000 in
set_option maxHeartbeats 1000000 in
theorem split_any (C : Array Value) (k f a0 a1 : Int) (o : Nat → Oc) (hC : EnC C k f o a0 a1) (ho : ∀ i, i < 4 → OcOk (o i)) (w : World) (hL : LaidS w) :
    Calls Tryz.prog 41 #[.agg C] w fun e w' => e = .returned (.bool (splitB o a0 a1)) ∧ Below w.heap.size w w' := by
  have HR := Lib.hid (fun W => rest_any C k f a0 a1 o 2 hC (by decide) W)
  have HU := Lib.hid (fun W => unaw_any C k f a0 a1 o hC W)
  have HW := Lib.hid (fun W hW => whole_any (o 0) (ho 0 (by decide)) W hW)
  have HV := Lib.hid (fun W hW => whole_any (o 1) (ho 1 (by decide)) W hW)
  have HI := Lib.hid hC.size
  have HC := Lib.hid hC
  have HL := Lib.hid hL
  unfold splitB
  generalize restB o 2 = x at HR ⊢
  generalize decide (a0 = 0 ∧ a1 = 0) = y at HU ⊢
  generalize wholeB (o 0) = z at HW ⊢
  generalize wholeB (o 1) = z2 at HV ⊢
  clear hC ho hL
  go_enter Tryz.func41, Tryz.ntmps41
  go_upto_region 1 with fail
  obtain ⟨W1, hW1⟩ : ∃ W1, w.alloc (.cells C 51) = W1 := ⟨_, rfl⟩
  have k1 : W1.heap[w.heap.size]? = some (.cells C 51) := by rw [← hW1]; exact blk_new _ rfl
  have hB1 : Below w.heap.size w W1 := by rw [← hW1]; exact (by repeat (first | exact Below.refl _ _ | assumption | refine Below.drew ?_ | refine below_drewN ?_ _ | refine Below.alloc ?_ (by first | omega | (simp; done) | (simp; omega)) _ | refine Below.setCell ?_ (by first | omega | (simp; done) | (simp; omega)) _))
  rw [hW1]
  have HK := Lib.hid k1
  have g1 := blk_lt k1
  obtain ⟨e0, e1, e2, e3, e4, e5⟩ := HC.out.cells k1 0 (by decide)
  clear hW1 k1
  go_wp2_with fail
  refine (HW.out _ (HL.out.go hB1)).mono ?_
  rintro ee w2 ⟨rfl, hb2⟩
  have HK2 := Lib.hid (blk_below HK.out hb2 g1)
  have g2 := blk_lt HK2.out
  have hB2 := below_via hB1 hb2
  clear e0 e1 e2 e3 e4 e5 hB1 hb2 HK g1
  cases z
  · go_wp2
    go_ret
    exact ⟨rfl, hB2⟩
  obtain ⟨e0, e1, e2, e3, e4, e5⟩ := HC.out.cells HK2.out 1 (by decide)
  go_wp2_with fail
  refine (HV.out _ (HL.out.go hB2)).mono ?_
  rintro ee w6 ⟨rfl, hb6⟩
  have HK6 := Lib.hid (blk_below HK2.out hb6 g2)
  have g6 := blk_lt HK6.out
  have hB6 := below_via hB2 hb6
  clear e0 e1 e2 e3 e4 e5 hB2 hb6 HK2 g2
  cases z2
  · go_wp2
    go_ret
    exact ⟨rfl, hB6⟩
  go_wp2_with (refine wpList_load_row_w (by rfl) 51 (.tmp 1) rfl w.heap.size rfl 51 C _ _ HK6.out Tryz.underlying51 rfl HI.out ?_)
  refine (HR.out _).mono ?_
  rintro ee w3 ⟨rfl, hb3⟩
  have HK3 := Lib.hid (blk_below HK6.out hb3 g6)
  have hB3 := below_via hB6 hb3
  clear hB6 hb3 HK6 g6
  cases x
  · go_wp2
    go_ret
    exact ⟨rfl, hB3⟩
  · go_wp2_with (refine wpList_load_row_w (by rfl) 51 (.tmp 1) rfl w.heap.size rfl 51 C _ _ HK3.out Tryz.underlying51 rfl HI.out ?_)
    refine (HU.out _).mono ?_
    rintro ee w4 ⟨rfl, hb4⟩
    go_wp2
    go_ret
    exact ⟨rfl, below_via hB3 hb4⟩

/-! ### The walks of the package adjust: parts, weighted, awarded, Right. -/
theorem parts_stop (o : Nat → Oc) (j : Nat) (h : partsTo o j = j) (hw : (o j).w = 0) : ∀ n, partsTo o (j + n) = j := by
  intro n
  induction n with
  | zero => exact h
  | succ n ih =>
    show (if partsTo o (j + n) = j + n ∧ (o (j + n)).w ≠ 0 then j + n + 1 else partsTo o (j + n)) = j
    rw [ih]
    by_cases h0 : n = 0
    · subst h0; rw [if_neg (fun h => h.2 hw)]
    · rw [if_neg (fun h => by have := h.1; omega)]
theorem parts_next (o : Nat → Oc) (j : Nat) (h : partsTo o j = j) (hw : (o j).w ≠ 0) : partsTo o (j + 1) = j + 1 := by
  show (if partsTo o j = j ∧ (o j).w ≠ 0 then j + 1 else partsTo o j) = j + 1
  rw [if_pos ⟨h, hw⟩]
theorem parts_le (o : Nat → Oc) (n : Nat) : partsTo o n ≤ n := by
  induction n with
  | zero => exact Nat.le_refl _
  | succ n ih => show (if partsTo o n = n ∧ (o n).w ≠ 0 then n + 1 else partsTo o n) ≤ n + 1; split <;> omega

set_option maxRecDepth 100000 in
set_option maxHeartbeats 1000000 in
theorem parts_any (C : Array Value) (k f a0 a1 : Int) (o : Nat → Oc) (hC : EnC C k f o a0 a1) (w : World) :
    Calls Tryz.prog 48 #[.agg C] w fun e w' => e = .returned (.int .i64 (partsN o : Int)) ∧ Below w.heap.size w w' := by
  obtain ⟨N, hN⟩ : ∃ N, partsN o = N := ⟨_, rfl⟩
  rw [hN]
  have HN := Lib.hid hN
  have HC := Lib.hid hC
  clear hN hC
  go_enter Tryz.func48, Tryz.ntmps48
  go_upto_region 1 with fail
  obtain ⟨W1, hW1⟩ : ∃ W1, w.alloc (.cells C 51) = W1 := ⟨_, rfl⟩
  have k1 : W1.heap[w.heap.size]? = some (.cells C 51) := by rw [← hW1]; exact blk_new _ rfl
  have hB1 : Below w.heap.size w W1 := by rw [← hW1]; exact (by repeat (first | exact Below.refl _ _ | assumption | refine Below.drew ?_ | refine below_drewN ?_ _ | refine Below.alloc ?_ (by first | omega | (simp; done) | (simp; omega)) _ | refine Below.setCell ?_ (by first | omega | (simp; done) | (simp; omega)) _))
  rw [hW1]
  have HK := Lib.hid k1
  clear hW1 k1
  go_wp2
  go_loop [3] (fun i => ∃ j : Nat, j ≤ 4 ∧ i = .int .i64 (j : Int) ∧ Hid (partsTo o j = j)) (fun i => 4 - (intOf i).toNat)
  case atStart => exact ⟨0, by omega, rfl, rfl⟩
  case round =>
    obtain ⟨j, hj, rfl, hp⟩ := hrel
    by_cases hlt : j < 4
    · obtain ⟨-, -, -, -, -, e5⟩ := HC.out.cells HK.out j hlt
      have c1 : (0 : Int) ≤ (j : Int) := by omega
      have c2 : (j : Int) < 4 := by omega
      have t1 : decide ((j : Int) < 4) = true := decide_eq_true c2
      have HS := Lib.hid (fun h => parts_stop o j hp.out h (4 - j))
      have HX := Lib.hid (fun h => parts_next o j hp.out h)
      obtain ⟨x, hx⟩ : ∃ x, (o j).w = x := ⟨_, rfl⟩
      rw [hx] at e5 HS HX
      clear hx
      by_cases h0 : x = 0
      · have t2 : (x != 0) = false := by rw [h0]; rfl
        have t3 : (x == 0) = true := by rw [h0]; rfl
        obtain rfl : j = N := by rw [← HN.out]; have := HS.out h0; rw [show j + (4 - j) = 4 by omega] at this; exact this.symm
        clear h0
        go_wp2
        go_ret
        exact ⟨rfl, hB1⟩
      · have t2 : (x != 0) = true := by simpa using h0
        have t3 : (x == 0) = false := beq_eq_false_iff_ne.2 h0
        have Hx := Lib.hid (HX.out h0)
        clear h0
        go_wp2
        go_round
        case rel => exact ⟨j + 1, by omega, by go_num, Hx.out⟩
        case measure => simp [intOf]; omega
    · obtain rfl : j = 4 := by omega
      obtain rfl : 4 = N := by rw [← HN.out]; exact hp.out.symm
      have t1 : decide (((4 : Nat) : Int) < 4) = false := rfl
      have t2 : ¬ (((4 : Nat) : Int) < 4) := by omega
      go_wp2
      go_ret
      exact ⟨rfl, hB1⟩

theorem allW_iff (o : Nat → Oc) (n : Nat) : allW o n = true ↔ ∀ i, i < n → okW (o i) = true := by
  unfold allW
  rw [List.all_eq_true]
  exact ⟨fun h i hi => h i (List.mem_range.2 hi), fun h i hi => h i (List.mem_range.1 hi)⟩
theorem okW_bd {x : Oc} (h : okW x = true) : 1 ≤ x.w ∧ x.w ≤ 100 := by
  unfold okW at h
  rw [Bool.and_eq_true, Bool.and_eq_true] at h
  exact ⟨of_decide_eq_true h.1.2, of_decide_eq_true h.2⟩
theorem wSum_bd (o : Nat → Oc) (n : Nat) (h : ∀ i, i < n → okW (o i) = true) : 0 ≤ wSum o n ∧ wSum o n ≤ 100 * n := by
  induction n with
  | zero => exact ⟨Int.le_refl _, Int.le_refl _⟩
  | succ n ih =>
    have h1 := ih (fun i hi => h i (by omega))
    have h2 := okW_bd (h n (by omega))
    show 0 ≤ wSum o n + (o n).w ∧ wSum o n + (o n).w ≤ _
    omega

set_option maxRecDepth 100000 in
set_option maxHeartbeats 4000000 in
theorem weighted_any (C : Array Value) (k f a0 a1 : Int) (o : Nat → Oc) (hC : EnC C k f o a0 a1) (ho : ∀ i, i < 4 → OcOk (o i)) (w : World) (hL : LaidS w) :
    Calls Tryz.prog 40 #[.agg C] w fun e w' => e = .returned (.bool (weightedB o a0 a1)) ∧ Below w.heap.size w w' := by
  have HP := Lib.hid (fun W => parts_any C k f a0 a1 o hC W)
  have hn4 : partsN o ≤ 4 := parts_le o 4
  have HU := Lib.hid (fun W => unaw_any C k f a0 a1 o hC W)
  have HR := Lib.hid (fun W => rest_any C k f a0 a1 o (partsN o) hC hn4 W)
  have HO := Lib.hid (fun i hi W hW => out_any (o i) (ho i hi) W hW)
  have HI := Lib.hid hC.size
  have HC := Lib.hid hC
  have HL := Lib.hid hL
  obtain ⟨N, hN⟩ : ∃ N, weightedB o a0 a1 = N := ⟨_, rfl⟩
  rw [hN]
  unfold weightedB at hN
  obtain ⟨n, hn⟩ : ∃ n, partsN o = n := ⟨_, rfl⟩
  rw [hn] at HP HR hn4 hN
  have HN := Lib.hid hN
  clear hC ho hL hN hn
  go_enter Tryz.func40, Tryz.ntmps40
  go_upto_region 1 with fail
  obtain ⟨W1, hW1⟩ : ∃ W1, w.alloc (.cells C 51) = W1 := ⟨_, rfl⟩
  obtain ⟨g, hg⟩ : ∃ g, w.heap.size = g := ⟨_, rfl⟩
  have k1 : W1.heap[g]? = some (.cells C 51) := by rw [← hW1]; exact blk_new _ hg.symm
  have hB1 : Below g w W1 := by rw [← hW1, ← hg]; exact (by repeat (first | exact Below.refl _ _ | assumption | refine Below.drew ?_ | refine below_drewN ?_ _ | refine Below.alloc ?_ (by first | omega | (simp; done) | (simp; omega)) _ | refine Below.setCell ?_ (by first | omega | (simp; done) | (simp; omega)) _))
  rw [hW1, hg]
  have HK := Lib.hid k1
  have HG := Lib.hid hg
  have g1 := blk_lt k1
  clear hW1 k1 hg
  go_wp2_with (refine wpList_load_row_w (by rfl) 51 (.tmp 1) rfl g rfl 51 C _ _ HK.out Tryz.underlying51 rfl HI.out ?_)
  refine (HP.out _).mono ?_
  rintro ee w2 ⟨rfl, hb2⟩
  have HK2 := Lib.hid (blk_below HK.out hb2 g1)
  have g2 := blk_lt HK2.out
  have hB2 := hB1.trans (hb2.mono (by omega))
  have HL2 := Lib.hid (HL.out.below hB2 (by have := HL.out.lt; rw [HG.out] at this; exact this))
  clear hB1 hb2 HK g1
  have c0 : (0 : Int) ≤ (n : Int) := by omega
  have c1 : (n : Int) ≤ 4 := by omega
  go_wp2
  go_loopw [4, 13] (fun t i wr => ∃ j : Nat, j ≤ n ∧ i = .int .i64 (j : Int) ∧ Hid (∀ i, i < j → okW (o i) = true) ∧ t = .int .i64 (wSum o j) ∧ Below (g + 1) w2 wr) (fun _ i _ => n - (intOf i).toNat)
  case atStart => exact ⟨0, by omega, rfl, (fun i hi => absurd hi (Nat.not_lt_zero i) : ∀ i, i < 0 → okW (o i) = true), rfl, Below.refl _ _⟩
  case round =>
    obtain ⟨j, hj, rfl, hz, rfl, hbel⟩ := hrel
    have hsr := hbel.size
    have HB := Lib.hid (show ∀ W, Below (g + 1) w2 W → Below w.heap.size w W from fun W h => by rw [HG.out]; exact hB2.trans (h.mono (by omega)))
    have kr := blk_below HK2.out hbel (by omega)
    have HKr := Lib.hid kr
    have gr := blk_lt kr
    have hLr := Lib.hid (HL2.out.below hbel (by have := HL.out.lt; rw [HG.out] at this; omega))
    have hsb := wSum_bd o j hz.out
    by_cases hlt : j < n
    · obtain ⟨e0, e1, e2, e3, e4, e5⟩ := HC.out.cells kr j (by omega)
      have HOj := Lib.hid (HO.out j (by omega))
      have Hok := Lib.hid (show okW (o j) = (outB (o j) && decide (1 ≤ (o j).w) && decide ((o j).w ≤ 100)) from rfl)
      have Hs := Lib.hid (show wSum o (j + 1) = wSum o j + (o j).w from rfl)
      have HA := Lib.hid (show okW (o j) = false → false = N from fun h => by
        rw [← HN.out]
        cases hq : allW o n with
        | false => rfl
        | true => rw [(allW_iff o n).1 hq j hlt] at h; cases h)
      obtain ⟨x, hx⟩ : ∃ x, o j = x := ⟨_, rfl⟩
      rw [hx] at e0 e1 e2 e3 e4 e5 HOj Hok Hs HA
      have Hx := Lib.hid hx
      clear hx kr
      obtain ⟨x1, x2, x3, x4, x5, x6⟩ := x
      dsimp only at e0 e1 e2 e3 e4 e5 HOj Hok Hs HA
      generalize wSum o j = t at hsb Hs ⊢
      have c3 : (0 : Int) ≤ (j : Int) := by omega
      have c4 : (j : Int) < (n : Int) := by omega
      generalize outB _ = z at HOj Hok
      go_upto_region 5 with fail
      obtain ⟨W3, hW3⟩ : ∃ W3, wr.alloc (.cells #[.int .u8 x1, .int .u8 x2, .int .u8 x3, .int .u8 x4, .int .i64 x5, .int .i64 x6] 47) = W3 := ⟨_, rfl⟩
      obtain ⟨G, hG⟩ : ∃ G, wr.heap.size = G := ⟨_, rfl⟩
      have n3 : W3.heap[G]? = some (.cells #[.int .u8 x1, .int .u8 x2, .int .u8 x3, .int .u8 x4, .int .i64 x5, .int .i64 x6] 47) := by rw [← hW3]; exact blk_new _ hG.symm
      have b3 : Below (g + 1) w2 W3 := by rw [← hW3]; exact hbel.alloc (by omega) _
      have HL3 := Lib.hid (show LaidS W3 by rw [← hW3]; exact hLr.out.go (by repeat (first | exact Below.refl _ _ | assumption | refine Below.drew ?_ | refine below_drewN ?_ _ | refine Below.alloc ?_ (by first | omega | (simp; done) | (simp; omega)) _ | refine Below.setCell ?_ (by first | omega | (simp; done) | (simp; omega)) _)))
      rw [hW3, hG]
      have q0 := blk_cell n3 0
      have q1 := blk_cell n3 1
      have q2 := blk_cell n3 2
      have q3 := blk_cell n3 3
      have q4 := blk_cell n3 4
      have q5 := blk_cell n3 5
      have hgG : g + 1 ≤ W3.heap.size := by have := b3.size; omega
      clear hW3 hG e0 e1 e2 e3 e4 e5
      go_wp2_with fail
      refine (HOj.out _ HL3.out).mono ?_
      rintro ee w4 ⟨rfl, hb4⟩
      have q5 := blk_cell (blk_below n3 hb4 (blk_lt n3)) 5
      have b4 := b3.trans (hb4.mono hgG)
      have Hbz := Lib.hid (HB.out _ b4)
      clear q0 q1 q2 q3 q4 n3 hb4 b3 HL3
      cases z
      · obtain rfl := HA.out (by rw [Hok.out]; rfl)
        go_wp2
        go_ret
        exact ⟨rfl, Hbz.out⟩
      by_cases hx1 : x6 < 1
      · obtain rfl := HA.out (by rw [Hok.out, decide_eq_false (by omega : ¬ 1 ≤ x6)]; rfl)
        go_wp2
        go_ret
        exact ⟨rfl, Hbz.out⟩
      by_cases hx2 : 100 < x6
      · obtain rfl := HA.out (by rw [Hok.out, decide_eq_false (by omega : ¬ x6 ≤ 100)]; simp)
        go_wp2
        go_ret
        exact ⟨rfl, Hbz.out⟩
      have Hn : Hid (∀ i, i < j + 1 → okW (o i) = true) := Lib.hid (fun i hi => by
        by_cases h : i < j
        · exact hz.out i h
        · obtain rfl : i = j := by omega
          rw [Hx.out, Hok.out, decide_eq_true (by omega : 1 ≤ x6), decide_eq_true (by omega : x6 ≤ 100)]; rfl)
      go_wp2
      go_roundw
      case rel => exact ⟨j + 1, by omega, by go_num, Hn.out, int_eq Hs.out.symm, b4⟩
      case measure => simp [intOf]; omega
    · obtain rfl : j = n := by omega
      have t0 : decide ((j : Int) < (j : Int)) = false := decide_eq_false (by omega)
      have hall := (allW_iff o j).2 hz.out
      have HN2 := Lib.hid (show (decide (2 ≤ j) && decide (wSum o j = 100) && restB o j && decide (a0 = 0 ∧ a1 = 0)) = N by rw [← HN.out, hall, Bool.true_and])
      generalize restB o j = x at HR HN2
      generalize decide (a0 = 0 ∧ a1 = 0) = y at HU HN2
      generalize wSum o j = t at hsb HN2 ⊢
      have Hbr := Lib.hid (HB.out _ hbel)
      clear hall kr HN
      by_cases h2 : 2 ≤ j
      · have c3 : (2 : Int) ≤ (j : Int) := by omega
        have t1 : decide ((j : Int) ≥ 2) = true := decide_eq_true c3
        have HN3 := Lib.hid (show (decide (t = 100) && x && y) = N by rw [← HN2.out, decide_eq_true h2, Bool.true_and])
        by_cases ht : t = 100
        · subst ht
          have HN4 := Lib.hid (show (x && y) = N by rw [← HN3.out]; rfl)
          go_wp2_with (refine wpList_load_row_w (by rfl) 51 (.tmp 1) rfl g rfl 51 C _ _ HKr.out Tryz.underlying51 rfl HI.out ?_)
          refine (HR.out _).mono ?_
          rintro ee w4 ⟨rfl, hb4⟩
          have HK4 := Lib.hid (blk_below HKr.out hb4 gr)
          have hB4 := below_via Hbr.out hb4
          cases x
          · obtain rfl : false = N := HN4.out
            go_wp2
            go_ret
            exact ⟨rfl, hB4⟩
          · obtain rfl : y = N := by rw [← HN4.out, Bool.true_and]
            go_wp2_with (refine wpList_load_row_w (by rfl) 51 (.tmp 1) rfl g rfl 51 C _ _ HK4.out Tryz.underlying51 rfl HI.out ?_)
            refine (HU.out _).mono ?_
            rintro ee w5 ⟨rfl, hb5⟩
            go_wp2
            go_ret
            exact ⟨rfl, below_via hB4 hb5⟩
        · have t2 : (t == 100) = false := beq_eq_false_iff_ne.2 ht
          obtain rfl : false = N := by rw [← HN3.out, decide_eq_false ht]; rfl
          clear ht
          go_wp2
          go_ret
          exact ⟨rfl, Hbr.out⟩
      · have c3 : ¬ (2 : Int) ≤ (j : Int) := by omega
        have t1 : decide ((j : Int) ≥ 2) = false := decide_eq_false c3
        obtain rfl : false = N := by rw [← HN2.out, decide_eq_false h2]; rfl
        go_wp2
        go_ret
        exact ⟨rfl, Hbr.out⟩

end Go.Proofs.YtchklobblkddhaaGreatDoor
