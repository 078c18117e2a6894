/- The walk of frac.add. -/
import Derived.Test.YtgfnggdjjigomaaDoorFracAdd
namespace Go.Proofs.YtgfnggdjjigomaaDoor
open Go.RowKit

theorem keepB {W w : World} {p : Addr} {v : Value} (hb : Below W.heap.size W w) (hp : p.block < W.heap.size) (h : W.cell? p = some v) : w.cell? p = some v := (hb.cell hp).trans h
theorem keepA {W w : World} {p : Addr} {v : Value} (hb : Below W.heap.size W w) (hp : p.block < W.heap.size) (h : W.cell? p = some v) (o : Obj) : (w.alloc o).cell? p = some v := by
  have h2 : w.cell? p = some v := (hb.cell hp).trans h
  rw [World.cell?_alloc_some w p o (by rw [h2]; rfl)]; exact h2
theorem keepC {W : World} {p : Addr} {v : Value} (h : W.cell? p = some v) (o : Obj) : (W.alloc o).cell? p = some v := by
  rw [World.cell?_alloc_some W p o (by rw [h]; rfl)]; exact h
theorem keepS {W : World} {p q : Addr} {v : Value} (h : W.cell? p = some v) (hq : q.block ≠ p.block) (u : Value) : (W.setCell q u).cell? p = some v := by
  have := Below.heap_setCell W q u p.block (by omega)
  unfold World.cell? at h ⊢
  rw [this]; exact h

set_option maxHeartbeats 4000000 in
set_option maxRecDepth 100000 in
theorem add_low (n m : Int) (a b : Nat) (hf : smF (n, (a : Int))) (hg : smF (m, (b : Int))) (w : World) :
    Calls Tryd.prog 53 #[.agg #[.int .i64 n, .int .i64 a], .agg #[.int .i64 m, .int .i64 b], .bool (decide (m < 0))] w fun e w' => e = .returned (.tuple #[.agg #[.int .i64 (addF (n, (a : Int)) (m, (b : Int))).1, .int .i64 (addF (n, (a : Int)) (m, (b : Int))).2], .int .i64 0]) ∧ Below w.heap.size w w' := by
  obtain ⟨c, x, y, P1, P2, M, e, X, Y, sg, hc, hx, hy, hP1, hP2, hw, he, hX, hY, hadd, c1, c2, x2, y2, p1, p2, m2, e1, e2, Y2, xY, X2, n2, mm2, a1, a2, b1, b2⟩ := add_plan n m a b hf hg
  rw [hadd]
  obtain ⟨D, hD⟩ : ∃ D : Int, (if sg then -(X : Int) else (X : Int)) = D := ⟨_, rfl⟩
  rw [hD]
  have HG1 := Lib.hid (fun W => gcd_any a b W (by omega) (by omega))
  have HG2 := Lib.hid (fun W => gcd_any c (M % c) W (by omega) (by have := Nat.mod_lt M c1; omega))
  have HO1 := Lib.hid (fun W => over_small M c W (by omega) (by omega) (by omega))
  have HO2 := Lib.hid (fun W => over_small M e W (by omega) (by omega) (by omega))
  have HP1 := Lib.hid (fun W => product_small n.natAbs y W (by omega) (by omega) (by omega))
  have HP2 := Lib.hid (fun W => product_small m.natAbs x W (by omega) (by omega) (by omega))
  have HP3 := Lib.hid (fun W => product_small x Y W (by omega) (by omega) (by omega))
  have HK := Lib.hid (fun W => pack_any sg X (x * Y) W (by omega) (by omega))
  have hq1 : M % c < c := Nat.mod_lt _ c1
  rw [hX] at HO2
  rw [hc] at HG1
  rw [he] at HG2
  rw [hP1] at HP1
  rw [hP2] at HP2
  rw [hD] at HK
  have e1' : (a : Int) / (c : Int) = (x : Int) := by rw [← hx]; exact (Int.natCast_ediv _ _).symm
  have e2' : (b : Int) / (c : Int) = (y : Int) := by rw [← hy]; exact (Int.natCast_ediv _ _).symm
  have e3' : (b : Int) / (e : Int) = (Y : Int) := by rw [← hY]; exact (Int.natCast_ediv _ _).symm
  generalize M / c = o1 at *
  generalize M % c = o2 at *
  generalize M % e = o3 at *
  generalize x * Y = z at *
  clear hf hg hadd hc hx hy hP1 hP2 he hX hY hD
  have T1 := Lib.hid (show (a : Int).tdiv (c : Int) = (x : Int) by rw [Int.tdiv_eq_ediv_of_nonneg (by omega)]; exact e1')
  have T2 := Lib.hid (show (b : Int).tdiv (c : Int) = (y : Int) by rw [Int.tdiv_eq_ediv_of_nonneg (by omega)]; exact e2')
  have T3 := Lib.hid (show (b : Int).tdiv (e : Int) = (Y : Int) by rw [Int.tdiv_eq_ediv_of_nonneg (by omega)]; exact e3')
  have E1 := Lib.hid e1'
  have E2 := Lib.hid e2'
  have E3 := Lib.hid e3'
  have I1 := Lib.hid (show IntKind.u64.wrap (x : Int) = (x : Int) from IntWalk.u64_in _ (by omega))
  have I2 := Lib.hid (show IntKind.u64.wrap (y : Int) = (y : Int) from IntWalk.u64_in _ (by omega))
  have I3 := Lib.hid (show IntKind.u64.wrap (Y : Int) = (Y : Int) from IntWalk.u64_in _ (by omega))
  clear e1' e2' e3'
  have cz : ((c : Int) == 0) = false := beq_eq_false_iff_ne.2 (by omega)
  have ez : ((e : Int) == 0) = false := beq_eq_false_iff_ne.2 (by omega)
  have cn : ¬ c = 0 := by omega
  have en : ¬ e = 0 := by omega
  have HSa := Lib.hid (fun W => size_any (a : Int) W (by omega))
  have HSb := Lib.hid (fun W => size_any (b : Int) W (by omega))
  have HSn := Lib.hid (fun W => size_any n W (by omega))
  have HSm := Lib.hid (fun W => size_any m W (by omega))
  rw [show (((a : Int).natAbs : Nat) : Int) = (a : Int) by omega] at HSa
  rw [show (((b : Int).natAbs : Nat) : Int) = (b : Int) by omega] at HSb
  go_enter Tryd.func53, Tryd.ntmps53
  go_upto_region 1 with fail
  obtain ⟨W0, hW0⟩ : ∃ W0, (((w.alloc (.cells #[.int .i64 n, .int .i64 a] 40)).alloc (.cells #[.int .i64 m, .int .i64 b] 40)).alloc (.cells #[.int .i64 0, .int .i64 0] 40)) = W0 := ⟨_, rfl⟩
  have hB0 : Below w.heap.size w W0 := by rw [← hW0]; exact (by repeat (first | exact Below.refl _ _ | assumption | refine Below.drew ?_ | refine below_drewN ?_ _ | refine Below.alloc ?_ (by first | omega | (simp; done) | (simp; omega)) _ | refine Below.setCell ?_ (by first | omega | (simp; done) | (simp; omega)) _))
  have k0 : W0.heap[w.heap.size]? = some (.cells #[.int .i64 n, .int .i64 a] 40) := by rw [← hW0]; exact blk_alloc (blk_alloc (blk_new _ rfl) _) _
  have k1 : W0.heap[w.heap.size + 1]? = some (.cells #[.int .i64 m, .int .i64 b] 40) := by rw [← hW0]; exact blk_alloc (blk_new _ (by simp)) _
  have k2 : W0.heap[w.heap.size + 2]? = some (.cells #[.int .i64 0, .int .i64 0] 40) := by rw [← hW0]; exact blk_new _ (by simp)
  have s0 : W0.heap.size = w.heap.size + 3 := by rw [← hW0]; simp
  rw [hW0]
  clear hW0
  have q0 := blk_cell k0 0
  have q1 := blk_cell k0 1
  have q2 := blk_cell k1 0
  have q3 := blk_cell k1 1
  go_region_held3 (fun w' => w'.cell? ⟨w.heap.size, 1, none⟩ = some (.int .i64 a) ∧ w'.cell? ⟨w.heap.size + 1, 1, none⟩ = some (.int .i64 b)) ((first | exact ⟨q1, q3⟩)) ((go_at_call 51; first | ((with_reducible refine (HSa.out _).mono ?_); rintro ee we ⟨rfl, rfl⟩) | ((with_reducible refine (HSb.out _).mono ?_); rintro ee we ⟨rfl, rfl⟩)))
  go_wp2_with fail
  refine (HG1.out _).mono ?_
  rintro ee W1 ⟨rfl, hb1⟩
  have hB1 : Below W0.heap.size W0 W1 := ((Below.refl _ _).drew).trans (hb1.mono (Nat.le_refl _))
  have s1 : W0.heap.size ≤ W1.heap.size := hB1.size
  have k0 : W1.heap[w.heap.size]? = _ := blk_below k0 hB1 (by omega)
  have k1 : W1.heap[w.heap.size + 1]? = _ := blk_below k1 hB1 (by omega)
  have k2 : W1.heap[w.heap.size + 2]? = _ := blk_below k2 hB1 (by omega)
  have hB1 : Below w.heap.size w W1 := hB0.trans (hB1.mono (by omega))
  clear q0 q1 q2 q3 hb1 hB0
  go_upto_region 3 with fail
  go_cut [11] (fun v wx => ∃ g : Nat, v = .pointer (some ⟨g, 0, none⟩) ∧ W1.heap.size ≤ g ∧ wx.cell? ⟨g, 0, none⟩ = some (.int .u64 0) ∧ wx.cell? ⟨g, 1, none⟩ = some (.int .u64 P1) ∧ g < wx.heap.size ∧ Below W1.heap.size W1 wx)
  case first =>
    have hlt : w.heap.size < W1.heap.size := by omega
    have q0 := blk_cell k0 0
    have hlt2 : ∀ o, w.heap.size < (W1.alloc o).heap.size := fun o => by simp; omega
    have hne : W1.heap.size ≠ w.heap.size := by omega
    have HF := Lib.hid ((HP1.out (W1.alloc (.cells #[.int .u64 0, .int .u64 0] 94)).drew).mono fun ee wa (h : ee = .returned (.agg #[.int .u64 0, .int .u64 (P1 : Int)]) ∧ Below (W1.alloc (.cells #[.int .u64 0, .int .u64 0] 94)).drew.heap.size (W1.alloc (.cells #[.int .u64 0, .int .u64 0] 94)).drew wa) =>
      (show (ee = .returned (.agg #[.int .u64 0, .int .u64 (P1 : Int)]) ∧ Below (W1.alloc (.cells #[.int .u64 0, .int .u64 0] 94)).drew.heap.size (W1.alloc (.cells #[.int .u64 0, .int .u64 0] 94)).drew wa ∧ _) from ⟨h.1, h.2, frame2 (W := W1.alloc (.cells #[.int .u64 0, .int .u64 0] 94)) (t := 94) (g := W1.heap.size) (x := .int .u64 0) (y := .int .u64 0) (blk_new _ rfl) h.2 (by simp)⟩))
    have e1' := E2.out
    have t1 := T2.out
    have i1 := I2.out
    clear HG1 HG2 HO1 HO2 HP2 HP3 HK hw hq1 k0 k1 k2 HSa HSb HSm T1 T3 E1 E3 I1 I3
    go_region_held3 (fun w' => w'.cell? ⟨w.heap.size, 0, none⟩ = some (.int .i64 n)) ((first | exact q0 | exact keepC q0 _ | exact keepB hba hlt q0 | exact keepB hba (hlt2 _) (keepC q0 _) | exact keepA hba hlt q0 _ | exact keepS (keepS (keepB hba (hlt2 _) (keepC q0 _)) hne _) hne _ | go_keep))
      ((first | (go_at_call 50; (refine HF.out.mono ?_); rintro ee wa ⟨rfl, hba, hblk2, hc0, hc1, hf0, hf1⟩) | (go_at_call 51; (with_reducible refine (HSn.out _).mono ?_); rintro ee we ⟨rfl, rfl⟩) | (go_at_call 50; (with_reducible refine (HP1.out _).mono ?_); rintro ee wa ⟨rfl, hba⟩)))
    all_goals (go_wp2_with fail)
    all_goals go_meet
    all_goals (first
      | exact ⟨wa.heap.size, rfl, hba.size, blk_cell (blk_new _ rfl) 0, blk_cell (blk_new _ rfl) 1, by simp, ((Below.refl _ _).drew.trans (hba.mono (Nat.le_refl _))).alloc hba.size _⟩
      | exact ⟨W1.heap.size, rfl, Nat.le_refl _, blk_cell (blk_set (blk_set hblk2 0 _) 1 _) 0, blk_cell (blk_set (blk_set hblk2 0 _) 1 _) 1, blk_lt (blk_set (blk_set hblk2 0 _) 1 _), ((((Below.refl _ _).alloc (Nat.le_refl _) _).drew.trans (hba.mono (by simp))).setCell (Nat.le_refl _) _).setCell (Nat.le_refl _) _⟩)
  case rest =>
    obtain ⟨g1, rfl, hg1, d0, d1, hl1, hBx⟩ := hcut
    rename World => W2
    have sx := hBx.size
    have k0 : W2.heap[w.heap.size]? = _ := blk_below k0 hBx (by omega)
    have k1 : W2.heap[w.heap.size + 1]? = _ := blk_below k1 hBx (by omega)
    have k2 : W2.heap[w.heap.size + 2]? = _ := blk_below k2 hBx (by omega)
    have hB2 : Below w.heap.size w W2 := hB1.trans (hBx.mono (by omega))
    have s2 : w.heap.size + 3 ≤ W2.heap.size := by omega
    clear HG1 HSa HSb HP1 HSn I2 T2 E2
    go_upto_region 4 with fail
    go_cut [12] (fun v wx => ∃ g : Nat, v = .pointer (some ⟨g, 0, none⟩) ∧ W2.heap.size ≤ g ∧ wx.cell? ⟨g, 0, none⟩ = some (.int .u64 0) ∧ wx.cell? ⟨g, 1, none⟩ = some (.int .u64 P2) ∧ g < wx.heap.size ∧ Below W2.heap.size W2 wx)
    case first =>
      have hlt : w.heap.size + 1 < W2.heap.size := by omega
      have q0 := blk_cell k1 0
      have hlt2 : ∀ o, w.heap.size + 1 < (W2.alloc o).heap.size := fun o => by simp; omega
      have hne : W2.heap.size ≠ w.heap.size + 1 := by omega
      have HF := Lib.hid ((HP2.out (W2.alloc (.cells #[.int .u64 0, .int .u64 0] 94)).drew).mono fun ee wa (h : ee = .returned (.agg #[.int .u64 0, .int .u64 (P2 : Int)]) ∧ Below (W2.alloc (.cells #[.int .u64 0, .int .u64 0] 94)).drew.heap.size (W2.alloc (.cells #[.int .u64 0, .int .u64 0] 94)).drew wa) =>
        (show (ee = .returned (.agg #[.int .u64 0, .int .u64 (P2 : Int)]) ∧ Below (W2.alloc (.cells #[.int .u64 0, .int .u64 0] 94)).drew.heap.size (W2.alloc (.cells #[.int .u64 0, .int .u64 0] 94)).drew wa ∧ _) from ⟨h.1, h.2, frame2 (W := W2.alloc (.cells #[.int .u64 0, .int .u64 0] 94)) (t := 94) (g := W2.heap.size) (x := .int .u64 0) (y := .int .u64 0) (blk_new _ rfl) h.2 (by simp)⟩))
      have e1' := E1.out
      have t1 := T1.out
      have i1 := I1.out
      clear HG2 HO1 HO2 HP3 HK hw hq1 k0 k1 k2 T3 E3 I3
      go_region_held3 (fun w' => w'.cell? ⟨w.heap.size + 1, 0, none⟩ = some (.int .i64 m)) ((first | exact q0 | exact keepC q0 _ | exact keepB hba hlt q0 | exact keepB hba (hlt2 _) (keepC q0 _) | exact keepA hba hlt q0 _ | exact keepS (keepS (keepB hba (hlt2 _) (keepC q0 _)) hne _) hne _ | go_keep))
        ((first | (go_at_call 50; (refine HF.out.mono ?_); rintro ee wa ⟨rfl, hba, hblk2, hc0, hc1, hf0, hf1⟩) | (go_at_call 51; (with_reducible refine (HSm.out _).mono ?_); rintro ee we ⟨rfl, rfl⟩) | (go_at_call 50; (with_reducible refine (HP2.out _).mono ?_); rintro ee wa ⟨rfl, hba⟩)))
      all_goals (go_wp2_with fail)
      all_goals go_meet
      all_goals (first
        | exact ⟨wa.heap.size, rfl, hba.size, blk_cell (blk_new _ rfl) 0, blk_cell (blk_new _ rfl) 1, by simp, ((Below.refl _ _).drew.trans (hba.mono (Nat.le_refl _))).alloc hba.size _⟩
        | exact ⟨W2.heap.size, rfl, Nat.le_refl _, blk_cell (blk_set (blk_set hblk2 0 _) 1 _) 0, blk_cell (blk_set (blk_set hblk2 0 _) 1 _) 1, blk_lt (blk_set (blk_set hblk2 0 _) 1 _), ((((Below.refl _ _).alloc (Nat.le_refl _) _).drew.trans (hba.mono (by simp))).setCell (Nat.le_refl _) _).setCell (Nat.le_refl _) _⟩)
    case rest =>
      obtain ⟨g2, rfl, hg2, f0, f1, hl2, hBy⟩ := hcut
      rename World => W3
      have sy := hBy.size
      have d0 : W3.cell? _ = _ := keepB hBy hl1 d0
      have d1 : W3.cell? _ = _ := keepB hBy hl1 d1
      have k0 : W3.heap[w.heap.size]? = _ := blk_below k0 hBy (by omega)
      have k2 : W3.heap[w.heap.size + 2]? = _ := blk_below k2 hBy (by omega)
      have hB3 : Below w.heap.size w W3 := hB2.trans (hBy.mono (by omega))
      have q0 := blk_cell k0 0
      have l1 : g1 < W3.heap.size := by omega
      have s3 : w.heap.size + 3 ≤ W3.heap.size := by omega
      have Hw := Lib.hid hw
      clear hB1 hB2 hBx hBy k1 k0 hw HP2 HSm hl1
      go_upto_block 0 with fail
      obtain ⟨W4, hW4⟩ : ∃ W4, W3.alloc (.cells #[.int .u64 0, .int .u64 0] 94) = W4 := ⟨_, rfl⟩
      have d0 : W4.cell? ⟨g1, 0, none⟩ = some (.int .u64 0) := by rw [← hW4]; exact keepC d0 _
      have d1 : W4.cell? ⟨g1, 1, none⟩ = some (.int .u64 P1) := by rw [← hW4]; exact keepC d1 _
      have f0 : W4.cell? ⟨g2, 0, none⟩ = some (.int .u64 0) := by rw [← hW4]; exact keepC f0 _
      have f1 : W4.cell? ⟨g2, 1, none⟩ = some (.int .u64 P2) := by rw [← hW4]; exact keepC f1 _
      have m0 : W4.heap[W3.heap.size]? = some (.cells #[.int .u64 0, .int .u64 0] 94) := by rw [← hW4]; exact blk_new _ rfl
      have s4 : W4.heap.size = W3.heap.size + 1 := by rw [← hW4]; simp
      have hB4 : Below W3.heap.size W3 W4 := by rw [← hW4]; exact (by repeat (first | exact Below.refl _ _ | assumption | refine Below.drew ?_ | refine below_drewN ?_ _ | refine Below.alloc ?_ (by first | omega | (simp; done) | (simp; omega)) _ | refine Below.setCell ?_ (by first | omega | (simp; done) | (simp; omega)) _))
      rw [hW4]
      clear hW4 q0
      have HL := Lib.hid (fun (wa : World) (hba : Below W4.heap.size W4 wa) => (show wa.heap[W3.heap.size]? = some (.cells #[.int .u64 0, .int .u64 0] 94) ∧ wa.cell? ⟨W3.heap.size, 0, none⟩ = some (.int .u64 0) ∧ wa.cell? ⟨W3.heap.size, 1, none⟩ = some (.int .u64 0) ∧ wa.frozen? ⟨W3.heap.size, 0, none⟩ = false ∧ wa.frozen? ⟨W3.heap.size, 1, none⟩ = false ∧ wa.cell? ⟨g1, 0, none⟩ = some (.int .u64 0) ∧ wa.cell? ⟨g1, 1, none⟩ = some (.int .u64 P1) ∧ wa.cell? ⟨g2, 0, none⟩ = some (.int .u64 0) ∧ wa.cell? ⟨g2, 1, none⟩ = some (.int .u64 P2) from
        have h2 := blk_below m0 hba (by omega)
        ⟨h2, blk_cell h2 0, blk_cell h2 1, blk_free h2 0, blk_free h2 1, keepB hba (show g1 < _ by omega) d0, keepB hba (show g1 < _ by omega) d1, keepB hba (show g2 < _ by omega) f0, keepB hba (show g2 < _ by omega) f1⟩))
      go_cut [13] (fun v wx => v = .bool sg ∧ wx.heap[W3.heap.size]? = some (.cells #[.int .u64 0, .int .u64 M] 94) ∧ Below W3.heap.size W3 wx)
      case first =>
        clear HG2 HO1 HO2 HP3 HK T3 E3 I3 T1 E1 I1
        rcases Hw.out with ⟨hp, rfl, rfl⟩ | ⟨hp, hle, rfl, rfl⟩ | ⟨hp, hlt, rfl, rfl⟩
        · have HC := Lib.hid (fun W => plus_small P1 P2 W (by omega))
          have hpe : (decide (n < 0) == decide (m < 0)) = true := by rw [hp]; exact beq_self_eq_true _
          generalize P1 + P2 = M at *
          go_wp2_with fail
          refine (HC.out _).mono ?_
          rintro ee wa ⟨rfl, hba⟩
          obtain ⟨m1, m2', m3, m4, m5, -⟩ := HL.out wa hba
          go_wp2_with fail
          go_meet
          exact ⟨by first | rfl | exact congrArg Value.bool hp.symm, blk_set (blk_set m1 0 _) 1 _, ((hB4.trans (hba.mono (by omega))).setCell (Nat.le_refl _) _).setCell (Nat.le_refl _) _⟩
        · have HC := Lib.hid (fun W => wcmp_small P1 P2 W (by omega) (by omega))
          have HD := Lib.hid (fun W => minus_small P1 P2 W hle (by omega))
          have hpe : (decide (n < 0) == decide (m < 0)) = false := beq_eq_false_iff_ne.2 hp
          obtain ⟨v, hv⟩ : ∃ v : Int, (if P1 < P2 then -1 else if P2 < P1 then 1 else 0) = v := ⟨_, rfl⟩
          have hv0 : decide (v ≥ 0) = true := decide_eq_true (by rw [← hv]; split; omega; split <;> omega)
          have hv1 : 0 ≤ v := by simpa using hv0
          rw [hv] at HC
          clear hv
          generalize P1 - P2 = M at *
          go_wp2_with fail
          refine (HC.out _).mono ?_
          rintro ee wa ⟨rfl, hba⟩
          obtain ⟨m1, m2', m3, m4, m5, r1, r2, r3, r4⟩ := HL.out wa hba
          go_wp2_with fail
          refine (HD.out _).mono ?_
          rintro ee wb ⟨rfl, hbb⟩
          obtain ⟨m1, m2', m3, m4, m5, -⟩ := HL.out wb (hba.trans (hbb.mono hba.size))
          go_wp2_with fail
          go_meet
          exact ⟨rfl, blk_set (blk_set m1 0 _) 1 _, (((hB4.trans (hba.mono (by omega))).trans (hbb.mono (by have := hba.size; omega))).setCell (Nat.le_refl _) _).setCell (Nat.le_refl _) _⟩
        · have HC := Lib.hid (fun W => wcmp_small P1 P2 W (by omega) (by omega))
          have HD := Lib.hid (fun W => minus_small P2 P1 W (by omega) (by omega))
          have hpe : (decide (n < 0) == decide (m < 0)) = false := beq_eq_false_iff_ne.2 hp
          rw [if_pos hlt] at HC
          generalize P2 - P1 = M at *
          go_wp2_with fail
          refine (HC.out _).mono ?_
          rintro ee wa ⟨rfl, hba⟩
          obtain ⟨m1, m2', m3, m4, m5, r1, r2, r3, r4⟩ := HL.out wa hba
          go_wp2_with fail
          refine (HD.out _).mono ?_
          rintro ee wb ⟨rfl, hbb⟩
          obtain ⟨m1, m2', m3, m4, m5, -⟩ := HL.out wb (hba.trans (hbb.mono hba.size))
          go_wp2_with fail
          go_meet
          exact ⟨rfl, blk_set (blk_set m1 0 _) 1 _, (((hB4.trans (hba.mono (by omega))).trans (hbb.mono (by have := hba.size; omega))).setCell (Nat.le_refl _) _).setCell (Nat.le_refl _) _⟩
      case rest =>
        obtain ⟨rfl, m1, hB5⟩ := hcut
        rename World => W5
        have k2 := blk_below k2 hB5 (by omega)
        have hB5' : Below w.heap.size w W5 := hB3.trans (hB5.mono (by omega))
        have s5 : W3.heap.size < W5.heap.size := blk_lt m1
        have q0 := blk_cell m1 0
        have q1 := blk_cell m1 1
        have s6 : w.heap.size + 2 < W3.heap.size := by omega
        clear hB5 hB3 hB4 Hw HL d0 d1 f0 f1 m0 s4
        go_wp2_with fail
        refine (HO1.out _).mono ?_
        rintro ee W6 ⟨rfl, hb6⟩
        have m1 := blk_below m1 hb6 s5
        have k2 := blk_below k2 hb6 (by omega)
        have hB6 : Below w.heap.size w W6 := hB5'.trans (hb6.mono hB5'.size)
        have s7 : W3.heap.size < W6.heap.size := blk_lt m1
        go_wp2_with fail
        refine (HG2.out _).mono ?_
        rintro ee W7 ⟨rfl, hb7⟩
        have m1 := blk_below (blk_alloc m1 _) hb7 (by simp; omega)
        have k2 := blk_below (blk_alloc k2 _) hb7 (by simp; omega)
        have hB7 : Below w.heap.size w W7 := (hB6.alloc hB6.size _).trans (hb7.mono (by have := hB6.size; simp; omega))
        have q0 := blk_cell m1 0
        have q1 := blk_cell m1 1
        have s8 : W3.heap.size < W7.heap.size := blk_lt m1
        clear hb7 hb6 hB6 hB5' s7 s5
        go_wp2_with fail
        refine (HO2.out _).mono ?_
        rintro ee W8 ⟨rfl, hb8⟩
        have m1 := blk_below m1 hb8 s8
        have k2 := blk_below k2 hb8 (by omega)
        have hB8 : Below w.heap.size w W8 := hB7.trans (hb8.mono hB7.size)
        have n1 := blk_cell m1 0
        have n2' := blk_cell m1 1
        have n3 := blk_free m1 0
        have n4 := blk_free m1 1
        clear hb8 hB7 q0 q1 s8
        go_upto_region 15 with fail
        obtain ⟨W9, hW9⟩ : ∃ W9, (W8.setCell ⟨W3.heap.size, 0, none⟩ (.int .u64 0)).setCell ⟨W3.heap.size, 1, none⟩ (.int .u64 X) = W9 := ⟨_, rfl⟩
        have m1 : W9.heap[W3.heap.size]? = some (.cells #[.int .u64 0, .int .u64 X] 94) := by rw [← hW9]; exact blk_set (blk_set m1 0 _) 1 _
        have k2 : W9.heap[w.heap.size + 2]? = some (.cells #[.int .i64 0, .int .i64 0] 40) := by rw [← hW9]; exact blk_far (blk_far k2 (by show _ ≠ W3.heap.size; omega) _) (by show _ ≠ W3.heap.size; omega) _
        have hB9 : Below w.heap.size w W9 := by rw [← hW9]; exact (hB8.setCell (by show _ ≤ W3.heap.size; omega) _).setCell (by show _ ≤ W3.heap.size; omega) _
        rw [hW9]
        clear hW9 hB8 n1 n2' n3 n4
        have s9 : W3.heap.size < W9.heap.size := blk_lt m1
        have q0 := blk_cell m1 0
        have q1 := blk_cell m1 1
        have HF := Lib.hid (fun (wa wb : World) (hba : Below W9.drew.heap.size W9.drew wa) (hbb : Below wa.heap.size wa wb) => (show Below w.heap.size w wb ∧ wb.heap[w.heap.size + 2]? = some (.cells #[.int .i64 0, .int .i64 0] 40) ∧ wb.cell? ⟨w.heap.size + 2, 0, none⟩ = some (.int .i64 0) ∧ wb.cell? ⟨w.heap.size + 2, 1, none⟩ = some (.int .i64 0) ∧ wb.frozen? ⟨w.heap.size + 2, 0, none⟩ = false ∧ wb.frozen? ⟨w.heap.size + 2, 1, none⟩ = false from
          have h1 : Below W9.heap.size W9 wb := ((Below.refl _ _).drew.trans (hba.mono (Nat.le_refl _))).trans (hbb.mono hba.size)
          have h2 := blk_below k2 h1 (by omega)
          ⟨hB9.trans (h1.mono hB9.size), h2, blk_cell h2 0, blk_cell h2 1, blk_free h2 0, blk_free h2 1⟩))
        have hne : w.heap.size + 1 + 1 ≠ W3.heap.size := by omega
        have t1 := T3.out
        have t2 := E3.out
        have i1 := I3.out
        have t3 := T1.out
        have t4 := E1.out
        have i2 := I1.out
        go_region_held3 (fun w' => w'.cell? ⟨W3.heap.size, 0, none⟩ = some (.int .u64 0) ∧ w'.cell? ⟨W3.heap.size, 1, none⟩ = some (.int .u64 X)) ((first | exact ⟨q0, q1⟩ | exact ⟨keepB hba s9 q0, keepB hba s9 q1⟩ | exact ⟨keepB hbb (Nat.lt_of_lt_of_le s9 hba.size) (keepB hba s9 q0), keepB hbb (Nat.lt_of_lt_of_le s9 hba.size) (keepB hba s9 q1)⟩ | exact ⟨keepS (keepS (keepB hbb (Nat.lt_of_lt_of_le s9 hba.size) (keepB hba s9 q0)) hne _) hne _, keepS (keepS (keepB hbb (Nat.lt_of_lt_of_le s9 hba.size) (keepB hba s9 q1)) hne _) hne _⟩ | go_keep))
          ((first | (go_at_call 50; (with_reducible refine (HP3.out _).mono ?_); rintro ee wa ⟨rfl, hba⟩) | (go_at_call 77; (with_reducible refine (HK.out _).mono ?_); rintro ee wb ⟨rfl, hbb⟩; obtain ⟨hBb, h2, hc0, hc1, hf0, hf1⟩ := HF.out wa wb hba hbb)))
        clear i1 t1 t2 i2 t3 t4
        all_goals go_wp2
        all_goals exact bodyPost_ret (v := .tuple #[.agg #[.int .i64 D, .int .i64 z], .int .i64 0]) (by simp [results, Tryd.results53, go_sem, hc0, hc1]) rfl ⟨rfl, (hBb.setCell (by show _ ≤ w.heap.size + 2; omega) _).setCell (by show _ ≤ w.heap.size + 2; omega) _⟩


end Go.Proofs.YtgfnggdjjigomaaDoor
