/- The walk of values. -/
import Derived.Test.YtilekdjjfdehcaaDoorParChoose
import Derived.Laws.CopyOwn
namespace Go.Proofs.YtilekdjjfdehcaaDoor
open Go.RowKit Go.Shelf

attribute [local go_sem] Oper.semAt_some

theorem bes_zero : (Tryd.prog.info? 71).map (·.zero) = some (some (.agg besZ)) := by kernel_rfl
theorem bes_info (C : Array Value) (h : C.size = 152) : (Tryd.prog.info? 71).map (·.size) = some C.size := by rw [h]; kernel_rfl
/-- What comes of bids fits. -/
theorem finF_bd (t : Nat → Nat → Int) (hr : rightT t = true) (v : Int) (b s : Nat) (h3 : 3 ≤ b) (h37 : b ≤ 37) (hs : s ≤ 1) : -10000 ≤ finF t v b s ∧ finF t v b s ≤ 10000 := by
  have h1 := lvl_bd b h3 h37
  have h := scoreI_small _ _ _ _ _ v (res_ok t hr b s h3 h37 hs) ⟨by omega, by unfold rsk; split <;> omega⟩
  show -10000 ≤ scoreI _ _ _ _ _ v ∧ scoreI _ _ _ _ _ v ≤ 10000
  omega
/-- The points of a bid, 0 where there is none. -/
def finG (t : Nat → Nat → Int) (v : Int) (b s : Nat) : Int := if 3 ≤ b ∧ b ≤ 37 ∧ s ≤ 1 then finF t v b s else 0
theorem finG_bd (t : Nat → Nat → Int) (hr : rightT t = true) (v : Int) (b s : Nat) : -10000 ≤ finG t v b s ∧ finG t v b s ≤ 10000 := by
  unfold finG
  by_cases h : 3 ≤ b ∧ b ≤ 37 ∧ s ≤ 1
  · rw [if_pos h]; exact finF_bd t hr v b s h.1 h.2.1 h.2.2
  · rw [if_neg h]; omega

/-- Between two rounds: what the variables of values hold. -/
def ValI (w : World) (C : Array Value) (n v : Nat) (Q : Nat → Nat → Nat × Int) (W : World) : Prop :=
  W.heap[n]? = some (.cells C 25 (0, 0)) ∧ W.heap[n + 1]? = some (.cells #[.int .u8 (v : Int)] 5 (0, 0)) ∧ W.heap[n + 1 + 1]? = some (.cells besZ 71 (0, 0)) ∧ W.heap[n + 1 + 1 + 1]? = some (.cells #[.int .i64 0] 31 (0, 0)) ∧
  (∃ B, W.heap[n + 1 + 1 + 1 + 1]? = some (.cells B 71 (0, 0)) ∧ BesC B Q) ∧ W.heap[n + 1 + 1 + 1 + 1 + 1]? = some (.cells #[.int .u8 2] 5 (0, 0)) ∧ Below n w W
theorem ex_own {β : Type} (B k t : Nat) (p : β → Array Value → Prop) : OwnFrom B (fun s W => ∃ D, W.heap[k]? = some (.cells D t (0, 0)) ∧ p s D) := fun s X Y row hs hg hr => by
  obtain ⟨D, hD, hp⟩ := hs
  exact ⟨D, blk_own B k t (0, 0) (fun _ : Unit => D) () X Y row hD hg hr, hp⟩
theorem valI_own (w : World) (C : Array Value) (n v : Nat) (f : Nat → Nat → Int) (B : Nat) (hn : n ≤ w.heap.size) (hB : n ≤ B) : OwnFrom B (fun (pre : List Bid) W => ValI w C n v (stQ f (pre.map (·.1))) W) := by
  unfold ValI
  exact OwnFrom.and (blk_own B n _ (0, 0) (fun _ => _)) (OwnFrom.and (blk_own B (n + 1) _ (0, 0) (fun _ => _)) (OwnFrom.and (blk_own B (n + 1 + 1) _ (0, 0) (fun _ => _)) (OwnFrom.and (blk_own B (n + 1 + 1 + 1) _ (0, 0) (fun _ => _)) (OwnFrom.and (ex_own B (n + 1 + 1 + 1 + 1) _ _) (OwnFrom.and (blk_own B (n + 1 + 1 + 1 + 1 + 1) _ (0, 0) (fun _ => _)) (ownFrom_below hn hB))))))

/-- The sides' choices of one round, so many of them set. -/
def partQ (f : Nat → Nat → Int) (Q : Nat → Nat → Nat × Int) (b : Nat) : Nat → Nat → Nat → Nat × Int
  | 0 => Q
  | s + 1 => setQ (partQ f Q b s) b s (chQ (partQ f Q b s) b s (f b (1 - s)))
theorem partQ_two (f : Nat → Nat → Int) (Q : Nat → Nat → Nat × Int) (b : Nat) : partQ f Q b 2 = stepQ f Q b := rfl
theorem okQ_part (f : Nat → Nat → Int) (hf : ∀ b s, -10000 ≤ f b s ∧ f b s ≤ 10000) {Q : Nat → Nat → Nat × Int} (h : okQ Q) (b : Nat) : ∀ s, okQ (partQ f Q b s)
  | 0 => h
  | s + 1 => okQ_set (okQ_part f hf h b s) b s _ (okQ_ch (okQ_part f hf h b s) b s _ (hf b _))

/-- What values returns. -/
def ValR (t : Nat → Nat → Int) (v : Nat) (w : World) (e : Ending) (w' : World) : Prop := ∃ B, e = .returned (.tuple #[.agg B, .int .i64 0]) ∧ BesC B (stQ (finG t v) (dnN 35)) ∧ Below w.heap.size w w'
/-- One choice stored. -/
theorem valI_step {w W : World} {C B : Array Value} {n v : Nat} {Q : Nat → Nat → Nat × Int} (i0 : W.heap[n]? = some (.cells C 25 (0, 0))) (i1 : W.heap[n + 1]? = some (.cells #[.int .u8 (v : Int)] 5 (0, 0))) (i2 : W.heap[n + 1 + 1]? = some (.cells besZ 71 (0, 0))) (i3 : W.heap[n + 1 + 1 + 1]? = some (.cells #[.int .i64 0] 31 (0, 0)))
    (i4 : W.heap[n + 1 + 1 + 1 + 1]? = some (.cells B 71 (0, 0))) (hB4 : BesC B Q) (i5 : W.heap[n + 1 + 1 + 1 + 1 + 1]? = some (.cells #[.int .u8 2] 5 (0, 0))) (hB : Below n w W) (x s : Nat) (hx : x ≤ 37) (hs : s ≤ 1) (c : Nat × Int) :
    ValI w C n v (setQ Q x s c) ((W.setCell ⟨n + 1 + 1 + 1 + 1, x * 4 + s * 2, none⟩ (.int .u8 (c.1 : Int))).setCell ⟨n + 1 + 1 + 1 + 1, x * 4 + s * 2 + 1, none⟩ (.int .i64 c.2)) := by
  have far : ∀ {k : Nat} {ob : Option Obj}, W.heap[k]? = ob → k ≠ n + 1 + 1 + 1 + 1 → ((W.setCell ⟨n + 1 + 1 + 1 + 1, x * 4 + s * 2, none⟩ (.int .u8 (c.1 : Int))).setCell ⟨n + 1 + 1 + 1 + 1, x * 4 + s * 2 + 1, none⟩ (.int .i64 c.2)).heap[k]? = ob :=
    fun h h1 => blk_far (blk_far h h1 _) h1 _
  refine ⟨far i0 (by omega), far i1 (by omega), far i2 (by omega), far i3 (by omega), ⟨_, blk_set (blk_set i4 _ _) _ _, hB4.set x s hx hs c⟩, far i5 (by omega), ?_⟩
  exact (hB.setCell (p := ⟨n + 1 + 1 + 1 + 1, x * 4 + s * 2, none⟩) (by show n ≤ n + 1 + 1 + 1 + 1; omega) _).setCell (p := ⟨n + 1 + 1 + 1 + 1, x * 4 + s * 2 + 1, none⟩) (by show n ≤ n + 1 + 1 + 1 + 1; omega) _

theorem res_vals2 {W : World} {x : Int} {n : Nat} {B : Array Value} {fr : Nat × Nat} (tmps : Array Value) (h4 : tmps.getD 4 undef = .pointer (some ⟨n + 1 + 1, 0, none⟩)) (h5 : tmps.getD 5 undef = .pointer (some ⟨n + 1 + 1 + 1, 0, none⟩)) (hb : W.heap[n + 1 + 1]? = some (.cells B 71 fr)) (hs : B.size = 152) (he : W.cell? ⟨n + 1 + 1 + 1, 0, none⟩ = some (.int .i64 x)) :
    (results Tryd.f31 tmps).run Tryd.prog W = .ok (.tuple #[.agg B, .int .i64 x]) W := by
  have h4' : tmps[4]?.getD undef = .pointer (some ⟨n + 1 + 1, 0, none⟩) := by simpa using h4
  have h5' : tmps[5]?.getD undef = .pointer (some ⟨n + 1 + 1 + 1, 0, none⟩) := by simpa using h5
  have l1 := run_loadVar_row (P := Tryd.prog) W (n + 1 + 1) 71 71 B fr _ hb Tryd.underlying71 rfl (bes_info B hs)
  have l2 : (loadVar 31 ⟨n + 1 + 1 + 1, 0, none⟩).run Tryd.prog W = .ok (.int .i64 x) W := by
    have u := Tryd.underlying31
    simp [go_sem, he]
  simp [results, Tryd.f31, asAddr, h4', h5', l1, l2]

set_option maxRecDepth 100000 in
set_option maxHeartbeats 2000000 in
theorem values_ok (C : Array Value) (t : Nat → Nat → Int) (hC : TabC C t) (v : Nat) (hv : v ≤ 3) (h : rightT t = true) (w : World) (hLa : LaidS w) :
    Calls Tryd.prog 31 #[.agg C, .int .u8 (v : Int)] w (ValR t v w) := by
  refine (callsIn_wide (n := 5)).1 ?_
  refine callsIn_of_wp_marks Tryd.func31 rfl trivial ?_ rfl
  simp only [Tryd.ntmps31, List.size_toArray, List.length_cons, List.length_nil, Nat.reduceAdd, Nat.reduceSub, Array.replicate_succ, Array.replicate_zero, List.push_toArray, List.append_toArray, List.nil_append, List.cons_append]
  have HBd : Hid (∀ W, Calls Tryd.prog 39 #[.int .u8 2] W fun e w' => e = .returned (.func (.func 48) #[] #[.pointer (some ⟨W.heap.size, 0, none⟩)]) ∧ W.alloc (.cells #[.int .u8 2] 5) = w') := Lib.hid (fun W => bids_any 2 W)
  have HC := Lib.hid hC
  have HL := Lib.hid hLa
  have HI := Lib.hid hC.info
  have Hr := Lib.hid h
  clear hC hLa h
  gi_wp2_with (refine wide_alloc_to rfl 71 rfl besZ bes_zero ?_)
  refine ⟨trivial, (callsIn_wide.2 (HBd.out _)).mono ?_⟩
  rintro e w' ⟨rfl, rfl⟩
  gi_wp2_with fail
  obtain ⟨n, hn⟩ : ∃ n, w.heap.size = n := ⟨_, rfl⟩
  rw [hn]
  obtain ⟨W0, hW0⟩ : ∃ W0, ((((((w.alloc (.cells C 25)).alloc (.cells #[.int .u8 (v : Int)] 5)).alloc (.cells besZ 71)).alloc (.cells #[.int .i64 0] 31)).alloc (.cells besZ 71)).alloc (.cells #[.int .u8 2] 5)) = W0 := ⟨_, rfl⟩
  rw [hW0]
  have hI0 : ValI w C n v (stQ (finG t v) (([] : List Bid).map (·.1))) W0 := by
    rw [← hW0]
    refine ⟨?_, ?_, ?_, ?_, ⟨besZ, ?_, besZ_ok⟩, ?_, ?_⟩
    · repeat (first | exact blk_new _ hn.symm | refine blk_alloc ?_ _)
    · repeat (first | exact blk_new _ (by simp; omega) | refine blk_alloc ?_ _)
    · repeat (first | exact blk_new _ (by simp; omega) | refine blk_alloc ?_ _)
    · repeat (first | exact blk_new _ (by simp; omega) | refine blk_alloc ?_ _)
    · repeat (first | exact blk_new _ (by simp; omega) | refine blk_alloc ?_ _)
    · repeat (first | exact blk_new _ (by simp; omega) | refine blk_alloc ?_ _)
    · rw [← hn]; exact (by repeat (first | exact Below.refl _ _ | assumption | refine Below.drew ?_ | refine below_drewN ?_ _ | refine Below.alloc ?_ (by first | omega | (simp; done) | (simp; omega)) _ | refine Below.setCell ?_ (by first | omega | (simp; done) | (simp; omega)) _))
  have hk5 : W0.heap[n + 1 + 1 + 1 + 1 + 1]? = some (.cells #[.int .u8 2] 5) := by rw [← hW0]; exact blk_new _ (by simp; omega)
  have hsz : n + 6 ≤ W0.heap.size := by rw [← hW0]; simp; omega
  have hn0 : n ≤ w.heap.size := by omega
  clear hW0
  refine wpIn_rangeFunc_ownG (F := Fence.wide) rfl (by decide) (gf := 48) (lb := #[.pointer (some ⟨n + 1 + 1 + 1 + 1 + 1, 0, none⟩)]) rfl trivial (enters_of Tryd.func48 (by kernel_rfl) rfl)
    (bids_stops Fence.wide 4 trivial rfl (by decide) (n + 1 + 1 + 1 + 1 + 1) 2 (by decide) W0 (by omega) (blk_cell hk5 0)) keepB_t (keepB_b (by omega)) (Below.refl _ _) (fun _ => rfl)
    (fun pre W => ValI w C n v (stQ (finG t v) (pre.map (·.1))) W) (fun _ _ _ => False) (valI_own w C n v _ _ hn0 (by omega)) (fun _ _ _ _ _ hs _ _ => hs) hI0
    (fun x => { tmps := #[.agg C, .int .u8 (v : Int), .pointer (some ⟨n, 0, none⟩), .pointer (some ⟨n + 1, 0, none⟩), .pointer (some ⟨n + 1 + 1, 0, none⟩), .pointer (some ⟨n + 1 + 1 + 1, 0, none⟩), .pointer (some ⟨n + 1 + 1 + 1 + 1, 0, none⟩), .int .u8 (x.1 : Int), undef, undef, undef, undef, .func (.func 48) #[] #[.pointer (some ⟨n + 1 + 1 + 1 + 1 + 1, 0, none⟩)], .int .u8 (x.1 : Int), undef, undef, undef, undef, undef, undef, undef, undef, undef, undef, undef, undef, undef, undef, undef, undef, undef, undef, undef, undef, undef, undef, undef, undef, undef, undef, undef], defers := [] }) ?assign ?body ?done ?stop
  case assign =>
    intro l x W K hK
    gi_wp2
    exact hK
  case body =>
    rintro l pre x W ⟨i0, i1, i2, i3, ⟨B, i4, hB4⟩, i5, hB⟩ hlen
    dsimp only
    obtain ⟨x, hx3, hx37⟩ := x
    dsimp only
    have hokQ := okQ_st (finG t v) (finG_bd t Hr.out v) (pre.map (·.1))
    have Hst := Lib.hid (show stQ (finG t v) ((pre ++ [(⟨x, hx3, hx37⟩ : Bid)]).map (·.1)) = partQ (finG t v) (stQ (finG t v) (pre.map (·.1))) x 2 by rw [List.map_append]; exact stQ_snoc _ _ _)
    generalize stQ (finG t v) (pre.map (·.1)) = Q at hB4 hokQ Hst
    have KK0 := KeepsFrom.refl W0.heap.size W
    have HF := Lib.hid (fun (r : Nat) (hr : r ≤ 1) W hL => pfinal_ok C t HC.out v x r hv hx3 hx37 hr Hr.out W hL)
    have HO := Lib.hid hokQ
    have hmx : Tryd.prog.follows .mixedOrders = true := by kernel_rfl
    have k50 := i5
    have HV0 := Lib.hid (show ValI w C n v (partQ (finG t v) Q x 0) W from ⟨i0, i1, i2, i3, ⟨B, i4, hB4⟩, i5, hB⟩)
    have Hw5 := Lib.hid i5
    clear hB4 hokQ i0 i1 i2 i3 i4 i5 hB k50 hI0 hk5 HBd B
    gi_wp2
    gi_loopw [14] (fun i wr => ∃ s : Nat, s ≤ 2 ∧ i = .int .u8 (s : Int) ∧ ValI w C n v (partQ (finG t v) Q x s) wr ∧ KeepsFrom W0.heap.size W wr) (fun i _ => 2 - (intOf i).toNat)
    case atStart => exact ⟨0, by omega, rfl, HV0.out, KK0⟩
    case round =>
      obtain ⟨s, hs, rfl, hV, hkf⟩ := hrel
      rename World => wx
      have HKF := Lib.hid hkf
      clear hkf
      by_cases hlt : s < 2
      · obtain ⟨i0, i1, i2, i3, ⟨B, i4, hB4⟩, i5, hB⟩ := hV
        obtain ⟨r, hr⟩ : ∃ r, r = 1 - s := ⟨_, rfl⟩
        have hr1 : (1 : Int) - (s : Int) = (r : Int) := by omega
        have hrb : r ≤ 1 := by omega
        have hs2 : (s : Int) < 2 := by omega
        have hfg : finF t v x r = finG t v x (1 - s) := by rw [← hr]; unfold finG; rw [if_pos ⟨hx3, hx37, hrb⟩]
        have hp := finG_bd t Hr.out v x (1 - s)
        have HF1 := Lib.hid (fun W hL => HF.out r hrb W hL)
        rw [hfg] at HF1
        have HQs := Lib.hid (show partQ (finG t v) Q x (s + 1) = setQ (partQ (finG t v) Q x s) x s (chQ (partQ (finG t v) Q x s) x s (finG t v x (1 - s))) from rfl)
        have hoq := okQ_part (finG t v) (finG_bd t Hr.out v) HO.out x s
        generalize partQ (finG t v) Q x s = Q1 at hB4 HQs hoq
        generalize finG t v x (1 - s) = p at HF1 HQs hp
        have c1 := blk_cell i1 0
        have I0 := Lib.hid i0
        have I1 := Lib.hid i1
        have I2 := Lib.hid i2
        have I3 := Lib.hid i3
        have I4 := Lib.hid i4
        have I5 := Lib.hid i5
        have HB := Lib.hid hB
        have HB4 := Lib.hid hB4
        have HLx := Lib.hid (HL.out.go (w' := wx) (by rw [hn]; exact hB))
        have Hr' := Lib.hid hr
        have Hfg := Lib.hid hfg
        clear i0 i1 i2 i3 i4 i5 hB hB4 hr hfg
        gi_wp2_with (refine round_load_row rfl 25 (.tmp 2) rfl n rfl 25 C _ _ I0.out Tryd.underlying25 rfl HI.out ?_)
        refine ⟨trivial, (CallsIn.inRound l (callsIn_wide.2 (HF1.out _ HLx.out))).mono ?_⟩
        rintro e w3 ⟨rfl, hb3⟩
        unfold ocV
        generalize lvl x = z1
        generalize (dnm x : Int) = z2
        generalize rsk t x r = z3
        generalize (bstS t _ r : Int) = z4
        generalize bstN t _ r = z5
        have hx38 : (x : Int) < 38 := by omega
        have hx0 : (0 : Int) ≤ (x : Int) := by omega
        have hs0 : (0 : Int) ≤ (s : Int) := by omega
        clear hr1 c1
        gi_upto_region 10 with fail
        obtain ⟨W3, hW3⟩ : ∃ W3, w3.alloc (.cells #[.int .u8 z1, .int .u8 z2, .int .u8 z3, .int .u8 z4, .int .i64 z5, .int .i64 0] 30) = W3 := ⟨_, rfl⟩
        rw [hW3]
        have hbx : Below wx.heap.size wx W3.drew := by rw [← hW3]; exact (hb3.alloc hb3.size _).drew
        clear hW3 hb3
        have HCh := Lib.hid (fun W hg => choose_any B Q1 HB4.out hoq x s ⟨by omega, hx37⟩ (by omega) p hp (n + 1 + 1 + 1 + 1) 71 (0, 0) W hg)
        generalize chQ Q1 x s p = c at HCh HQs
        unfold chV at HCh
        refine region_round (S := (fun _ => True)) hmx (by kernel_rfl) (fun ⟨_, _, h⟩ => h) trivial (fun hHeld => ?_)
        refine take_named (i := 0) (d := 31) (v := ?v0) rfl (by kernel_rfl) (by kernel_rfl) (by kernel_rfl) (by kernel_rfl) (fun _ _ _ h => h) (Or.inl ⟨by kernel_rfl, ?y0⟩) (by assumption) ?_
        case y0 => intro wq hSw; (try dsimp only at hSw); go_simp; (try with_reducible rfl)
        (try simp only [Act.put, List.setIfInBounds_toArray, List.set_cons_zero, List.set_cons_succ])
        refine take_named (i := 1) (d := 32) (v := ?v1) rfl (by kernel_rfl) (by kernel_rfl) (by kernel_rfl) (by kernel_rfl) (fun _ _ _ h => h) (Or.inl ⟨by kernel_rfl, ?y1⟩) (by assumption) ?_
        case y1 => intro wq hSw; (try dsimp only at hSw); go_simp; (try with_reducible rfl)
        (try simp only [Act.put, List.setIfInBounds_toArray, List.set_cons_zero, List.set_cons_succ])
        refine take_named (i := 2) (d := 33) (v := ?v2) rfl (by kernel_rfl) (by kernel_rfl) (by kernel_rfl) (by kernel_rfl) (fun _ _ _ h => h) (Or.inl ⟨by kernel_rfl, ?y2⟩) (by assumption) ?_
        case y2 => intro wq hSw; (try dsimp only at hSw); go_simp; (try with_reducible rfl)
        (try simp only [Act.put, List.setIfInBounds_toArray, List.set_cons_zero, List.set_cons_succ])
        refine take_named (i := 3) (d := 34) (v := ?v3) rfl (by kernel_rfl) (by kernel_rfl) (by kernel_rfl) (by kernel_rfl) (fun _ _ _ h => h) (Or.inl ⟨by kernel_rfl, ?y3⟩) (by assumption) ?_
        case y3 => intro wq hSw; (try dsimp only at hSw); go_simp; (try with_reducible rfl)
        (try simp only [Act.put, List.setIfInBounds_toArray, List.set_cons_zero, List.set_cons_succ])
        refine take_named (i := 4) (d := 35) (v := ?v4) rfl (by kernel_rfl) (by kernel_rfl) (by kernel_rfl) (by kernel_rfl) (fun _ _ _ h => h) (Or.inl ⟨by kernel_rfl, ?y4⟩) (by assumption) ?_
        case y4 => intro wq hSw; (try dsimp only at hSw); go_simp; (try with_reducible rfl)
        (try simp only [Act.put, List.setIfInBounds_toArray, List.set_cons_zero, List.set_cons_succ])
        refine take_named (i := 6) (d := 37) (v := ?v6) rfl (by kernel_rfl) (by kernel_rfl) (by kernel_rfl) (by kernel_rfl) (fun _ _ _ h => h) (Or.inl ⟨by kernel_rfl, ?y6⟩) (by assumption) ?_
        case y6 => intro wq hSw; (try dsimp only at hSw); go_simp; (try with_reducible rfl)
        (try simp only [Act.put, List.setIfInBounds_toArray, List.set_cons_zero, List.set_cons_succ])
        refine wpAnyH_ready (rs := [5]) (by kernel_rfl) (by simp) ?_
        refine AllReadyH.cons rfl (fun K hK => ?_) AllReadyH.nil
        go_simp
        refine (HCh.out _ (blk_below I4.out hbx (blk_lt I4.out))).mono ?_
        rintro e w5 ⟨rfl, hb5⟩
        have hbx := hbx.trans (hb5.mono hbx.size)
        clear hb5
        refine hK.out _ _ trivial (fun hHeld1 => ?_)
        clear hK K hHeld
        (try simp only [Act.put, List.setIfInBounds_toArray, List.set_cons_zero, List.set_cons_succ])
        refine take_named (i := 7) (d := 38) (v := ?v7) rfl (by kernel_rfl) (by kernel_rfl) (by kernel_rfl) (by kernel_rfl) (fun _ _ _ h => h) (Or.inl ⟨by kernel_rfl, ?y7⟩) (by assumption) ?_
        case y7 => intro wq hSw; (try dsimp only at hSw); go_simp; (try with_reducible rfl)
        (try simp only [Act.put, List.setIfInBounds_toArray, List.set_cons_zero, List.set_cons_succ])
        have I0 := Lib.hid (blk_below I0.out hbx (blk_lt I0.out))
        have I1 := Lib.hid (blk_below I1.out hbx (blk_lt I1.out))
        have I2 := Lib.hid (blk_below I2.out hbx (blk_lt I2.out))
        have I3 := Lib.hid (blk_below I3.out hbx (blk_lt I3.out))
        have I4 := Lib.hid (blk_below I4.out hbx (blk_lt I4.out))
        have I5 := Lib.hid (blk_below I5.out hbx (blk_lt I5.out))
        have HB := Lib.hid (HB.out.trans (hbx.mono (by have := HB.out.size; omega)))
        have HKF := Lib.hid (HKF.out.trans ((keeps_below hbx).from _))
        clear hbx
        have q0 := (blk_cell I4.out (x * 4 + s * 2)).trans (HB4.out.2.2 x s hx37 (by omega)).1
        have q1 := (blk_cell I4.out (x * 4 + s * 2 + 1)).trans (HB4.out.2.2 x s hx37 (by omega)).2
        have f0 := blk_free I4.out (x * 4 + s * 2)
        have f1 := blk_free I4.out (x * 4 + s * 2 + 1)
        refine wpAnyH_ready (rs := [8]) (by kernel_rfl) (by simp) ?_
        refine AllReadyH.cons rfl (fun K hK => ?_) AllReadyH.nil
        go_simp
        refine hK.out _ _ trivial (fun hHeld2 => ?_)
        clear hK K hHeld1 hHeld2
        (try simp only [Act.put, List.setIfInBounds_toArray, List.set_cons_zero, List.set_cons_succ])
        refine wpAnyH_done (by kernel_rfl) ?_ _
        have HV := Lib.hid (valI_step I0.out I1.out I2.out I3.out I4.out HB4.out I5.out HB.out x s hx37 (by omega) c)
        have HK2 := Lib.hid (HKF.out.trans (((KeepsOthers.setCell w5 ⟨n + 1 + 1 + 1 + 1, x * 4 + s * 2, none⟩ (.int .u8 (c.1 : Int))).trans (KeepsOthers.setCell _ ⟨n + 1 + 1 + 1 + 1, x * 4 + s * 2 + 1, none⟩ (.int .i64 c.2))).from _))
        clear q0 q1 f0 f1
        gi_wp2
        go_roundw
        case rel => exact ⟨s + 1, by omega, by go_num, by rw [HQs.out]; exact HV.out, HK2.out⟩
        case measure => simp [intOf]; omega
      · obtain rfl : s = 2 := by omega
        have HV := Lib.hid hV
        have Hk5 := Lib.hid (show KeepB (n + 1 + 1 + 1 + 1 + 1) W wx from hV.2.2.2.2.2.1.trans Hw5.out.symm)
        clear hV
        gi_wp2
        exact ⟨HKF.out, Hk5.out, by dsimp only; rw [Hst.out]; exact HV.out⟩
  case done =>
    rintro D ys W hD rfl ⟨i0, i1, i2, i3, ⟨B, i4, hB4⟩, i5, hB⟩ hK
    dsimp only
    rw [dnTo_vals (37 - 2) (by decide)] at hB4
    have HB := Lib.hid hB
    have I2 := Lib.hid i2
    have I3 := Lib.hid i3
    have I4 := Lib.hid i4
    have HK := Lib.hid hK
    have HB4 := Lib.hid hB4
    have hDn : n ≤ D := by omega
    clear i0 i1 i2 i3 i4 i5 hK hB hB4 hk5 hI0 hsz HBd hD
    have S3 := Lib.hid ((setRow_other W (n + 1 + 1) (n + 1 + 1 + 1) B (by omega)).trans I3.out)
    have S2 := Lib.hid (setRow_heap W (n + 1 + 1) besZ B _ _ I2.out)
    have hDne : D ≠ n + 1 + 1 := fun e => by have h1 := HK.out; rw [e, I2.out] at h1; cases h1
    have SK := Lib.hid ((setRow_other W (n + 1 + 1) D B hDne).trans HK.out)
    have SB := Lib.hid (below_setRow HB.out (by omega : n ≤ n + 1 + 1) B)
    have c3 := blk_cell S3.out 0
    have f3 := blk_free S3.out 0
    gi_wp2_with (first | (refine wide_load_row rfl 71 (.tmp 6) rfl (n + 1 + 1 + 1 + 1) rfl 71 B _ _ I4.out Tryd.underlying71 rfl (bes_info B HB4.out.1) ?_) | (refine wide_store_row rfl 71 _ _ rfl (n + 1 + 1) B rfl rfl 71 besZ I2.out (bes_info B HB4.out.1) (besZ_ok.1.trans HB4.out.1.symm) HB4.out.2.1 ?_))
    have HK' := (KeepsOthers.setCell (W.setRow (n + 1 + 1) B) ⟨n + 1 + 1 + 1, 0, none⟩ (.int .i64 0)).same D _ SK.out rfl
    have P2 := blk_far (p := ⟨n + 1 + 1 + 1, 0, none⟩) S2.out (by show n + 1 + 1 ≠ n + 1 + 1 + 1; omega) (.int .i64 0)
    have P3 := blk_set S3.out 0 (.int .i64 0)
    have hg := grownBy_putObj' ((W.setRow (n + 1 + 1) B).setCell ⟨n + 1 + 1 + 1, 0, none⟩ (.int .i64 0)) D (.deferred none)
    have P2' := (hg.block _ (blk_lt P2) (fun e => by cases e; exact hDne rfl)).trans P2
    have P3' := cell_kept (blk_cell P3 0) hg (fun r e => by cases e; exact ⟨_, HK', rfl⟩)
    refine ⟨by simp, .inl ⟨_, _, rfl, run_takeDeferred HK', ?_⟩⟩
    refine ⟨_, res_vals2 _ rfl rfl P2' HB4.out.1 P3', B, rfl, HB4.out, ?_⟩
    rw [hn]
    exact (SB.out.setCell (p := ⟨n + 1 + 1 + 1, 0, none⟩) (by show n ≤ n + 1 + 1 + 1; omega) _).trans (belowK_b (n₀ := n) (w := w) (by omega) _ D _ _ (by omega) HK' rfl rfl)
  case stop =>
    rintro D c pre W _ _ h _
    exact h.elim

end Go.Proofs.YtilekdjjfdehcaaDoor
