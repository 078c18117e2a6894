/- The walks of finesseref01: sum, Add, Sub. (Written by genr01.py.) -/
import Derived.Test.YtlobdeakgoicpaaDoorR01
namespace Go.Proofs.YtlobdeakgoicpaaDoor
open Go.RowKit

theorem mul_ln8 {a b : Nat} (ha : ln a ≤ 4) (hb : ln b ≤ 4) : ln (a * b) ≤ 8 := by
  refine ln_min 8 _ ?_
  have h1 : a < Bs ^ 4 := Nat.lt_of_lt_of_le (ln_lt a) (bs_le ha)
  have h2 : b < Bs ^ 4 := Nat.lt_of_lt_of_le (ln_lt b) (bs_le hb)
  have e : Bs ^ 8 = Bs ^ 4 * Bs ^ 4 := by rw [← Nat.pow_add]
  rw [e]
  exact Nat.mul_lt_mul_of_le_of_lt (Nat.le_of_lt h1) h2 (bs_pos 4)
theorem add_ln8 {a b : Nat} (ha : ln a ≤ 8) (hb : ln b ≤ 8) : ln (a + b) ≤ 9 := by
  refine ln_min 9 _ ?_
  have h1 : a < Bs ^ 8 := Nat.lt_of_lt_of_le (ln_lt a) (bs_le ha)
  have h2 : b < Bs ^ 8 := Nat.lt_of_lt_of_le (ln_lt b) (bs_le hb)
  have e : Bs ^ 9 = 65536 * Bs ^ 8 := by rw [Nat.pow_succ, Nat.mul_comm]
  rw [e]
  generalize Bs ^ 8 = P at *
  omega

set_option maxRecDepth 100000 in
set_option maxHeartbeats 4000000 in
theorem r01sumA (fn fd : Int) (p q : Nat) (Ap Aq : Option Addr) (cp cq : Nat) (w : World) (hfn : 0 ≤ fn ∧ fn ≤ 9223372036854775807) (hfd : 0 < fd ∧ fd ≤ 9223372036854775807) (hp : ln p ≤ 4) (hq : ln q ≤ 4) (hq0 : 0 < q) (hP : DS w p (ln p) Ap cp) (hQ : DS w q (ln q) Aq cq) :
    Calls Tryd.prog 68 #[.agg #[.int .i64 fn, .int .i64 fd], .bool false, .slice Ap (ln p) cp, .slice Aq (ln q) cq] w fun e w' => e = .returned (.tuple #[fV (mk0 false (fn.natAbs * q + p * fd.natAbs) (fd.natAbs * q)), .int .i64 (mkE false (fn.natAbs * q + p * fd.natAbs) (fd.natAbs * q))]) ∧ Below w.heap.size w w' := by
  have HWn := Lib.hid (fun W => r01whole fn W (by omega))
  have HWd := Lib.hid (fun W => r01whole fd W (by omega))
  have l1 := ln_i64 (n := fn) (by omega)
  have l2 := ln_i64 (n := fd) (by omega)
  have HM1 := Lib.hid (fun A B ca cb W h1 h2 => r01mul fn.natAbs q A B ca cb W h1 h2 (by omega) (by omega))
  have HM2 := Lib.hid (fun A B ca cb W h1 h2 => r01mul p fd.natAbs A B ca cb W h1 h2 (by omega) (by omega))
  have HM3 := Lib.hid (fun A B ca cb W h1 h2 => r01mul fd.natAbs q A B ca cb W h1 h2 (by omega) (by omega))
  have hX := mul_ln8 l1 hq
  have hY := mul_ln8 hp l2
  have hZ := mul_ln8 l2 hq
  have hZp : 0 < fd.natAbs * q := Nat.mul_pos (by omega) hq0
  have hXY := add_ln8 hX hY
  have HAd := Lib.hid (fun A B ca cb W h1 h2 => r01add (fn.natAbs * q) (p * fd.natAbs) A B ca cb W h1 h2 (by omega) (by omega))
  have HMk := Lib.hid (fun A B ca cb W h1 h2 => r01make0 false (fn.natAbs * q + p * fd.natAbs) (fd.natAbs * q) A B ca cb W h1 h2 (by omega) (by omega) hZp)
  obtain ⟨F, hF⟩ : ∃ F, mk0 false (fn.natAbs * q + p * fd.natAbs) (fd.natAbs * q) = F := ⟨_, rfl⟩
  obtain ⟨E, hE⟩ : ∃ E, mkE false (fn.natAbs * q + p * fd.natAbs) (fd.natAbs * q) = E := ⟨_, rfl⟩
  rw [hF, hE] at HMk ⊢
  obtain ⟨x, y⟩ := F
  unfold fV at HMk ⊢
  dsimp only at HMk ⊢
  have t1 : ¬ fn < 0 := by omega
  have t2 : decide (fn < 0) = false := decide_eq_false t1
  obtain ⟨g, hg⟩ : ∃ g, w.heap.size = g := ⟨_, rfl⟩
  obtain ⟨W1, hW1⟩ : ∃ V, (w.alloc (.cells #[.int .i64 fn, .int .i64 fd] 23)).alloc (.cells #[.int .i64 0, .int .i64 0] 23) = V := ⟨_, rfl⟩
  have hb1 : Below w.heap.size w W1 := by rw [← hW1]; exact (by repeat (first | exact Below.refl _ _ | assumption | refine Below.drew ?_ | refine below_drewN ?_ _ | refine Below.alloc ?_ (by first | omega | (simp; done) | (simp; omega)) _ | refine Below.setCell ?_ (by first | omega | (simp; done) | (simp; omega)) _))
  have k0 : W1.heap[g]? = some (.cells #[.int .i64 fn, .int .i64 fd] 23 (0, 0)) := by rw [← hW1]; exact blk_alloc (blk_new _ hg.symm) _
  have k2 : W1.heap[g + 1]? = some (.cells #[.int .i64 0, .int .i64 0] 23 (0, 0)) := by rw [← hW1]; exact blk_new _ (by simp; omega)
  have HKs := Lib.hid (fun (W : World) (hb : Below W1.heap.size W1 W) => (show W.cell? ⟨g, 0, none⟩ = some (.int .i64 fn) ∧ W.cell? ⟨g, 1, none⟩ = some (.int .i64 fd) from ⟨keepD hb (blk_lt k0) (blk_cell k0 0), keepD hb (blk_lt k0) (blk_cell k0 1)⟩))
  have HK2 := Lib.hid (fun (W : World) (hb : Below W1.heap.size W1 W) => (show W.heap[g + 1]? = some (.cells #[.int .i64 0, .int .i64 0] 23 (0, 0)) from blk_below k2 hb (blk_lt k2)))
  have Hgw := Lib.hid (show w.heap.size ≤ g + 1 by omega)
  have HB1 := Lib.hid hb1
  have HPd := Lib.hid (show DS W1.drew p (ln p) Ap cp from hP.go hb1.drew)
  have HQd := Lib.hid (show DS W1.drew q (ln q) Aq cq from hQ.go hb1.drew)
  have hS0 : (fun wq : World => wq.cell? ⟨g, 0, none⟩ = some (.int .i64 fn) ∧ wq.cell? ⟨g, 1, none⟩ = some (.int .i64 fd)) W1 := ⟨blk_cell k0 0, blk_cell k0 1⟩
  have hB0 : Below W1.heap.size W1 W1.drew := (Below.refl _ _).drew
  clear hF hE hfn hfd hb1 k0 k2 l1 l2 hP hQ hZp
  go_enter Tryd.func68, Tryd.ntmps68
  go_upto_region 1 with fail
  (try rw [hW1])
  (try rw [hg])
  clear hW1 hg
  refine wp_region_held_drew (S := (fun wq => wq.cell? ⟨g, 0, none⟩ = some (.int .i64 fn) ∧ wq.cell? ⟨g, 1, none⟩ = some (.int .i64 fd))) (by kernel_rfl) hS0 (fun hHeldSA => ?_)
  refine take_named (i := 0) (d := 13) (v := ?vSA0) rfl (by kernel_rfl) (by kernel_rfl) (by kernel_rfl) (by kernel_rfl) (fun _ _ _ h => h) (Or.inl ⟨by kernel_rfl, ?ySA0⟩) (by assumption) ?_
  case ySA0 => intro wq hSw; (try dsimp only at hSw); go_simp; (try with_reducible rfl)
  (try simp only [Act.put, List.setIfInBounds_toArray, List.set_cons_zero, List.set_cons_succ])
  refine take_named (i := 1) (d := 14) (v := ?vSA1) rfl (by kernel_rfl) (by kernel_rfl) (by kernel_rfl) (by kernel_rfl) (fun _ _ _ h => h) (Or.inl ⟨by kernel_rfl, ?ySA1⟩) (by assumption) ?_
  case ySA1 => intro wq hSw; (try dsimp only at hSw); go_simp; (try with_reducible rfl)
  (try simp only [Act.put, List.setIfInBounds_toArray, List.set_cons_zero, List.set_cons_succ])
  refine take_named (i := 3) (d := 16) (v := ?vSA3) rfl (by kernel_rfl) (by kernel_rfl) (by kernel_rfl) (by kernel_rfl) (fun _ _ _ h => h) (Or.inl ⟨by kernel_rfl, ?ySA3⟩) (by assumption) ?_
  case ySA3 => intro wq hSw; (try dsimp only at hSw); go_simp; (try with_reducible rfl)
  (try simp only [Act.put, List.setIfInBounds_toArray, List.set_cons_zero, List.set_cons_succ])
  refine take_named (i := 5) (d := 18) (v := ?vSA5) rfl (by kernel_rfl) (by kernel_rfl) (by kernel_rfl) (by kernel_rfl) (fun _ _ _ h => h) (Or.inl ⟨by kernel_rfl, ?ySA5⟩) (by assumption) ?_
  case ySA5 => intro wq hSw; (try dsimp only at hSw); go_simp; (try with_reducible rfl)
  (try simp only [Act.put, List.setIfInBounds_toArray, List.set_cons_zero, List.set_cons_succ])
  refine take_named (i := 6) (d := 19) (v := ?vSA6) rfl (by kernel_rfl) (by kernel_rfl) (by kernel_rfl) (by kernel_rfl) (fun _ _ _ h => h) (Or.inl ⟨by kernel_rfl, ?ySA6⟩) (by assumption) ?_
  case ySA6 => intro wq hSw; (try dsimp only at hSw); go_simp; (try with_reducible rfl)
  (try simp only [Act.put, List.setIfInBounds_toArray, List.set_cons_zero, List.set_cons_succ])
  refine take_named (i := 7) (d := 20) (v := ?vSA7) rfl (by kernel_rfl) (by kernel_rfl) (by kernel_rfl) (by kernel_rfl) (fun _ _ _ h => h) (Or.inl ⟨by kernel_rfl, ?ySA7⟩) (by assumption) ?_
  case ySA7 => intro wq hSw; (try dsimp only at hSw); go_simp; (try with_reducible rfl)
  (try simp only [Act.put, List.setIfInBounds_toArray, List.set_cons_zero, List.set_cons_succ])
  refine take_named (i := 10) (d := 23) (v := ?vSA10) rfl (by kernel_rfl) (by kernel_rfl) (by kernel_rfl) (by kernel_rfl) (fun _ _ _ h => h) (Or.inl ⟨by kernel_rfl, ?ySA10⟩) (by assumption) ?_
  case ySA10 => intro wq hSw; (try dsimp only at hSw); go_simp; (try with_reducible rfl)
  (try simp only [Act.put, List.setIfInBounds_toArray, List.set_cons_zero, List.set_cons_succ])
  refine take_named (i := 11) (d := 24) (v := ?vSA11) rfl (by kernel_rfl) (by kernel_rfl) (by kernel_rfl) (by kernel_rfl) (fun _ _ _ h => h) (Or.inl ⟨by kernel_rfl, ?ySA11⟩) (by assumption) ?_
  case ySA11 => intro wq hSw; (try dsimp only at hSw); go_simp; (try with_reducible rfl)
  (try simp only [Act.put, List.setIfInBounds_toArray, List.set_cons_zero, List.set_cons_succ])
  refine take_named (i := 13) (d := 26) (v := ?vSA13) rfl (by kernel_rfl) (by kernel_rfl) (by kernel_rfl) (by kernel_rfl) (fun _ _ _ h => h) (Or.inl ⟨by kernel_rfl, ?ySA13⟩) (by assumption) ?_
  case ySA13 => intro wq hSw; (try dsimp only at hSw); go_simp; (try with_reducible rfl)
  (try simp only [Act.put, List.setIfInBounds_toArray, List.set_cons_zero, List.set_cons_succ])
  refine wpAnyH_ready (rs := [2]) (by kernel_rfl) (by simp) ?_
  refine AllReadyH.cons rfl (fun K hK => ?_) AllReadyH.nil
  go_simp
  refine (HWn.out _).mono ?_
  rintro ee v1 ⟨Aa, ca, rfl, hda, -, hba⟩
  have bv1 := below_viaD hB0 hba
  have Dp_v1 := Lib.hid (DS.go HPd.out hba)
  have Dq_v1 := Lib.hid (DS.go HQd.out hba)
  have DaSA := Lib.hid hda
  refine hK.out _ _ (HKs.out _ bv1) (fun hHeldSA2 => ?_)
  clear hK K hHeldSA
  (try simp only [Act.put, List.setIfInBounds_toArray, List.set_cons_zero, List.set_cons_succ])
  refine wpAnyH_ready (rs := [4]) (by kernel_rfl) (by simp) ?_
  refine AllReadyH.cons rfl (fun K hK => ?_) AllReadyH.nil
  go_simp
  refine (HM1.out _ _ _ _ _ DaSA.out Dq_v1.out).mono ?_
  rintro ee v2 ⟨Ab, cb, rfl, hdb, -, hbb⟩
  have bv2 := below_viaD bv1 hbb
  have Dp_v2 := Lib.hid (DS.go Dp_v1.out hbb)
  have Dq_v2 := Lib.hid (DS.go Dq_v1.out hbb)
  have DaSA_v2 := Lib.hid (DS.go DaSA.out hbb)
  have DxSA := Lib.hid hdb
  refine hK.out _ _ (HKs.out _ bv2) (fun hHeldSA4 => ?_)
  clear hK K hHeldSA2
  (try simp only [Act.put, List.setIfInBounds_toArray, List.set_cons_zero, List.set_cons_succ])
  refine wpAnyH_ready (rs := [8]) (by kernel_rfl) (by simp) ?_
  refine AllReadyH.cons rfl (fun K hK => ?_) AllReadyH.nil
  go_simp
  refine (HWd.out _).mono ?_
  rintro ee v3 ⟨Ac, cc, rfl, hdc, -, hbc⟩
  have bv3 := below_viaD bv2 hbc
  have Dp_v3 := Lib.hid (DS.go Dp_v2.out hbc)
  have Dq_v3 := Lib.hid (DS.go Dq_v2.out hbc)
  have DaSA_v3 := Lib.hid (DS.go DaSA_v2.out hbc)
  have DxSA_v3 := Lib.hid (DS.go DxSA.out hbc)
  have DcSA := Lib.hid hdc
  refine hK.out _ _ (HKs.out _ bv3) (fun hHeldSA8 => ?_)
  clear hK K hHeldSA4
  (try simp only [Act.put, List.setIfInBounds_toArray, List.set_cons_zero, List.set_cons_succ])
  refine wpAnyH_ready (rs := [9]) (by kernel_rfl) (by simp) ?_
  refine AllReadyH.cons rfl (fun K hK => ?_) AllReadyH.nil
  go_simp
  refine (HM2.out _ _ _ _ _ Dp_v3.out DcSA.out).mono ?_
  rintro ee v4 ⟨Ad, cd, rfl, hdd, -, hbd⟩
  have bv4 := below_viaD bv3 hbd
  have Dp_v4 := Lib.hid (DS.go Dp_v3.out hbd)
  have Dq_v4 := Lib.hid (DS.go Dq_v3.out hbd)
  have DaSA_v4 := Lib.hid (DS.go DaSA_v3.out hbd)
  have DxSA_v4 := Lib.hid (DS.go DxSA_v3.out hbd)
  have DcSA_v4 := Lib.hid (DS.go DcSA.out hbd)
  have DySA := Lib.hid hdd
  refine hK.out _ _ (HKs.out _ bv4) (fun hHeldSA9 => ?_)
  clear hK K hHeldSA8
  (try simp only [Act.put, List.setIfInBounds_toArray, List.set_cons_zero, List.set_cons_succ])
  refine wpAnyH_ready (rs := [12]) (by kernel_rfl) (by simp) ?_
  refine AllReadyH.cons rfl (fun K hK => ?_) AllReadyH.nil
  go_simp
  refine (HWd.out _).mono ?_
  rintro ee v5 ⟨Ae, ce, rfl, hde, -, hbe⟩
  have bv5 := below_viaD bv4 hbe
  have Dp_v5 := Lib.hid (DS.go Dp_v4.out hbe)
  have Dq_v5 := Lib.hid (DS.go Dq_v4.out hbe)
  have DaSA_v5 := Lib.hid (DS.go DaSA_v4.out hbe)
  have DxSA_v5 := Lib.hid (DS.go DxSA_v4.out hbe)
  have DcSA_v5 := Lib.hid (DS.go DcSA_v4.out hbe)
  have DySA_v5 := Lib.hid (DS.go DySA.out hbe)
  have DeSA := Lib.hid hde
  refine hK.out _ _ (HKs.out _ bv5) (fun hHeldSA12 => ?_)
  clear hK K hHeldSA9
  (try simp only [Act.put, List.setIfInBounds_toArray, List.set_cons_zero, List.set_cons_succ])
  refine wpAnyH_ready (rs := [14]) (by kernel_rfl) (by simp) ?_
  refine AllReadyH.cons rfl (fun K hK => ?_) AllReadyH.nil
  go_simp
  refine (HM3.out _ _ _ _ _ DeSA.out Dq_v5.out).mono ?_
  rintro ee v6 ⟨Af, cf, rfl, hdf, -, hbf⟩
  have bv6 := below_viaD bv5 hbf
  have Dp_v6 := Lib.hid (DS.go Dp_v5.out hbf)
  have Dq_v6 := Lib.hid (DS.go Dq_v5.out hbf)
  have DaSA_v6 := Lib.hid (DS.go DaSA_v5.out hbf)
  have DxSA_v6 := Lib.hid (DS.go DxSA_v5.out hbf)
  have DcSA_v6 := Lib.hid (DS.go DcSA_v5.out hbf)
  have DySA_v6 := Lib.hid (DS.go DySA_v5.out hbf)
  have DeSA_v6 := Lib.hid (DS.go DeSA.out hbf)
  have DzSA := Lib.hid hdf
  refine hK.out _ _ (HKs.out _ bv6) (fun hHeldSA14 => ?_)
  clear hK K hHeldSA12
  (try simp only [Act.put, List.setIfInBounds_toArray, List.set_cons_zero, List.set_cons_succ])
  refine take_named (i := 15) (d := 10) (v := ?vSA15) rfl (by kernel_rfl) (by kernel_rfl) (by kernel_rfl) (by kernel_rfl) (fun _ _ _ h => h) (Or.inl ⟨by kernel_rfl, ?ySA15⟩) (by assumption) ?_
  case ySA15 => intro wq hSw; (try dsimp only at hSw); go_simp; (try with_reducible rfl)
  (try simp only [Act.put, List.setIfInBounds_toArray, List.set_cons_zero, List.set_cons_succ])
  refine take_named (i := 16) (d := 11) (v := ?vSA16) rfl (by kernel_rfl) (by kernel_rfl) (by kernel_rfl) (by kernel_rfl) (fun _ _ _ h => h) (Or.inl ⟨by kernel_rfl, ?ySA16⟩) (by assumption) ?_
  case ySA16 => intro wq hSw; (try dsimp only at hSw); go_simp; (try with_reducible rfl)
  (try simp only [Act.put, List.setIfInBounds_toArray, List.set_cons_zero, List.set_cons_succ])
  refine take_named (i := 17) (d := 12) (v := ?vSA17) rfl (by kernel_rfl) (by kernel_rfl) (by kernel_rfl) (by kernel_rfl) (fun _ _ _ h => h) (Or.inl ⟨by kernel_rfl, ?ySA17⟩) (by assumption) ?_
  case ySA17 => intro wq hSw; (try dsimp only at hSw); go_simp; (try with_reducible rfl)
  (try simp only [Act.put, List.setIfInBounds_toArray, List.set_cons_zero, List.set_cons_succ])
  refine wpAnyH_done (by kernel_rfl) ?_ _
  clear hHeldSA14
  obtain ⟨s0, s1⟩ := HKs.out _ bv6
  go_wp2_with fail
  refine (HAd.out _ _ _ _ _ DxSA_v6.out DySA_v6.out).mono ?_
  rintro ee v7 ⟨Ag, cg, rfl, hdg, -, hbg⟩
  go_wp2_with fail
  refine (HMk.out _ _ _ _ _ hdg (DS.go DzSA.out hbg)).mono ?_
  rintro ee v8 ⟨rfl, hbk⟩
  have hbl := below_viaD (below_viaD bv6 hbg) hbk
  have hbz := below_viaD HB1.out hbl
  have z := blk_set (blk_set (HK2.out _ hbl) 0 (.int .i64 x)) 1 (.int .i64 y)
  have z0 := blk_cell z 0
  have z1 := blk_cell z 1
  have y0 := blk_cell (HK2.out _ hbl) 0
  have y1 := blk_cell (HK2.out _ hbl) 1
  have y2 := blk_free (HK2.out _ hbl) 0
  have y3 := blk_free (HK2.out _ hbl) 1
  clear hdg hbg hbk
  go_wp2
  exact bodyPost_ret (v := .tuple #[.agg #[.int .i64 x, .int .i64 y], .int .i64 E]) (by simp [results, Tryd.results68, go_sem, z0, z1]) rfl ⟨rfl, (hbz.setCell (p := ⟨g + 1, 0, none⟩) Hgw.out _).setCell (p := ⟨g + 1, 1, none⟩) Hgw.out _⟩


set_option maxRecDepth 100000 in
set_option maxHeartbeats 4000000 in
theorem r01sumS (fn fd : Int) (p q : Nat) (Ap Aq : Option Addr) (cp cq : Nat) (w : World) (hfn : 0 ≤ fn ∧ fn ≤ 9223372036854775807) (hfd : 0 < fd ∧ fd ≤ 9223372036854775807) (hp : ln p ≤ 4) (hq : ln q ≤ 4) (hq0 : 0 < q) (hle : p * fd.natAbs ≤ fn.natAbs * q) (hP : DS w p (ln p) Ap cp) (hQ : DS w q (ln q) Aq cq) :
    Calls Tryd.prog 68 #[.agg #[.int .i64 fn, .int .i64 fd], .bool true, .slice Ap (ln p) cp, .slice Aq (ln q) cq] w fun e w' => e = .returned (.tuple #[fV (mk0 false (fn.natAbs * q - p * fd.natAbs) (fd.natAbs * q)), .int .i64 (mkE false (fn.natAbs * q - p * fd.natAbs) (fd.natAbs * q))]) ∧ Below w.heap.size w w' := by
  have HWn := Lib.hid (fun W => r01whole fn W (by omega))
  have HWd := Lib.hid (fun W => r01whole fd W (by omega))
  have l1 := ln_i64 (n := fn) (by omega)
  have l2 := ln_i64 (n := fd) (by omega)
  have HM1 := Lib.hid (fun A B ca cb W h1 h2 => r01mul fn.natAbs q A B ca cb W h1 h2 (by omega) (by omega))
  have HM2 := Lib.hid (fun A B ca cb W h1 h2 => r01mul p fd.natAbs A B ca cb W h1 h2 (by omega) (by omega))
  have HM3 := Lib.hid (fun A B ca cb W h1 h2 => r01mul fd.natAbs q A B ca cb W h1 h2 (by omega) (by omega))
  have hX := mul_ln8 l1 hq
  have hY := mul_ln8 hp l2
  have hZ := mul_ln8 l2 hq
  have hZp : 0 < fd.natAbs * q := Nat.mul_pos (by omega) hq0
  have hXY : ln (fn.natAbs * q - p * fd.natAbs) ≤ 9 := Nat.le_trans (ln_min _ _ (Nat.lt_of_le_of_lt (Nat.sub_le _ _) (ln_lt _))) (by omega)
  have HLs := Lib.hid (fun A B ca cb W h1 h2 => r01less (fn.natAbs * q) (p * fd.natAbs) A B ca cb W h1 h2 (by omega) (by omega))
  have HSu := Lib.hid (fun A B ca cb W h1 h2 => r01sub (fn.natAbs * q) (p * fd.natAbs) A B ca cb W h1 h2 (by omega) hle)
  have hdl : decide (fn.natAbs * q < p * fd.natAbs) = false := decide_eq_false (by omega)
  rw [hdl] at HLs
  have HMk := Lib.hid (fun A B ca cb W h1 h2 => r01make0 false (fn.natAbs * q - p * fd.natAbs) (fd.natAbs * q) A B ca cb W h1 h2 (by omega) (by omega) hZp)
  obtain ⟨F, hF⟩ : ∃ F, mk0 false (fn.natAbs * q - p * fd.natAbs) (fd.natAbs * q) = F := ⟨_, rfl⟩
  obtain ⟨E, hE⟩ : ∃ E, mkE false (fn.natAbs * q - p * fd.natAbs) (fd.natAbs * q) = E := ⟨_, rfl⟩
  rw [hF, hE] at HMk ⊢
  obtain ⟨x, y⟩ := F
  unfold fV at HMk ⊢
  dsimp only at HMk ⊢
  have t1 : ¬ fn < 0 := by omega
  have t2 : decide (fn < 0) = false := decide_eq_false t1
  obtain ⟨g, hg⟩ : ∃ g, w.heap.size = g := ⟨_, rfl⟩
  obtain ⟨W1, hW1⟩ : ∃ V, (w.alloc (.cells #[.int .i64 fn, .int .i64 fd] 23)).alloc (.cells #[.int .i64 0, .int .i64 0] 23) = V := ⟨_, rfl⟩
  have hb1 : Below w.heap.size w W1 := by rw [← hW1]; exact (by repeat (first | exact Below.refl _ _ | assumption | refine Below.drew ?_ | refine below_drewN ?_ _ | refine Below.alloc ?_ (by first | omega | (simp; done) | (simp; omega)) _ | refine Below.setCell ?_ (by first | omega | (simp; done) | (simp; omega)) _))
  have k0 : W1.heap[g]? = some (.cells #[.int .i64 fn, .int .i64 fd] 23 (0, 0)) := by rw [← hW1]; exact blk_alloc (blk_new _ hg.symm) _
  have k2 : W1.heap[g + 1]? = some (.cells #[.int .i64 0, .int .i64 0] 23 (0, 0)) := by rw [← hW1]; exact blk_new _ (by simp; omega)
  have HKs := Lib.hid (fun (W : World) (hb : Below W1.heap.size W1 W) => (show W.cell? ⟨g, 0, none⟩ = some (.int .i64 fn) ∧ W.cell? ⟨g, 1, none⟩ = some (.int .i64 fd) from ⟨keepD hb (blk_lt k0) (blk_cell k0 0), keepD hb (blk_lt k0) (blk_cell k0 1)⟩))
  have HK2 := Lib.hid (fun (W : World) (hb : Below W1.heap.size W1 W) => (show W.heap[g + 1]? = some (.cells #[.int .i64 0, .int .i64 0] 23 (0, 0)) from blk_below k2 hb (blk_lt k2)))
  have Hgw := Lib.hid (show w.heap.size ≤ g + 1 by omega)
  have HB1 := Lib.hid hb1
  have HPd := Lib.hid (show DS W1.drew p (ln p) Ap cp from hP.go hb1.drew)
  have HQd := Lib.hid (show DS W1.drew q (ln q) Aq cq from hQ.go hb1.drew)
  have hS0 : (fun wq : World => wq.cell? ⟨g, 0, none⟩ = some (.int .i64 fn) ∧ wq.cell? ⟨g, 1, none⟩ = some (.int .i64 fd)) W1 := ⟨blk_cell k0 0, blk_cell k0 1⟩
  have hB0 : Below W1.heap.size W1 W1.drew := (Below.refl _ _).drew
  clear hF hE hfn hfd hb1 k0 k2 l1 l2 hP hQ hZp
  go_enter Tryd.func68, Tryd.ntmps68
  go_upto_region 1 with fail
  (try rw [hW1])
  (try rw [hg])
  clear hW1 hg
  refine wp_region_held_drew (S := (fun wq => wq.cell? ⟨g, 0, none⟩ = some (.int .i64 fn) ∧ wq.cell? ⟨g, 1, none⟩ = some (.int .i64 fd))) (by kernel_rfl) hS0 (fun hHeldSS => ?_)
  refine take_named (i := 0) (d := 13) (v := ?vSS0) rfl (by kernel_rfl) (by kernel_rfl) (by kernel_rfl) (by kernel_rfl) (fun _ _ _ h => h) (Or.inl ⟨by kernel_rfl, ?ySS0⟩) (by assumption) ?_
  case ySS0 => intro wq hSw; (try dsimp only at hSw); go_simp; (try with_reducible rfl)
  (try simp only [Act.put, List.setIfInBounds_toArray, List.set_cons_zero, List.set_cons_succ])
  refine take_named (i := 1) (d := 14) (v := ?vSS1) rfl (by kernel_rfl) (by kernel_rfl) (by kernel_rfl) (by kernel_rfl) (fun _ _ _ h => h) (Or.inl ⟨by kernel_rfl, ?ySS1⟩) (by assumption) ?_
  case ySS1 => intro wq hSw; (try dsimp only at hSw); go_simp; (try with_reducible rfl)
  (try simp only [Act.put, List.setIfInBounds_toArray, List.set_cons_zero, List.set_cons_succ])
  refine take_named (i := 3) (d := 16) (v := ?vSS3) rfl (by kernel_rfl) (by kernel_rfl) (by kernel_rfl) (by kernel_rfl) (fun _ _ _ h => h) (Or.inl ⟨by kernel_rfl, ?ySS3⟩) (by assumption) ?_
  case ySS3 => intro wq hSw; (try dsimp only at hSw); go_simp; (try with_reducible rfl)
  (try simp only [Act.put, List.setIfInBounds_toArray, List.set_cons_zero, List.set_cons_succ])
  refine take_named (i := 5) (d := 18) (v := ?vSS5) rfl (by kernel_rfl) (by kernel_rfl) (by kernel_rfl) (by kernel_rfl) (fun _ _ _ h => h) (Or.inl ⟨by kernel_rfl, ?ySS5⟩) (by assumption) ?_
  case ySS5 => intro wq hSw; (try dsimp only at hSw); go_simp; (try with_reducible rfl)
  (try simp only [Act.put, List.setIfInBounds_toArray, List.set_cons_zero, List.set_cons_succ])
  refine take_named (i := 6) (d := 19) (v := ?vSS6) rfl (by kernel_rfl) (by kernel_rfl) (by kernel_rfl) (by kernel_rfl) (fun _ _ _ h => h) (Or.inl ⟨by kernel_rfl, ?ySS6⟩) (by assumption) ?_
  case ySS6 => intro wq hSw; (try dsimp only at hSw); go_simp; (try with_reducible rfl)
  (try simp only [Act.put, List.setIfInBounds_toArray, List.set_cons_zero, List.set_cons_succ])
  refine take_named (i := 7) (d := 20) (v := ?vSS7) rfl (by kernel_rfl) (by kernel_rfl) (by kernel_rfl) (by kernel_rfl) (fun _ _ _ h => h) (Or.inl ⟨by kernel_rfl, ?ySS7⟩) (by assumption) ?_
  case ySS7 => intro wq hSw; (try dsimp only at hSw); go_simp; (try with_reducible rfl)
  (try simp only [Act.put, List.setIfInBounds_toArray, List.set_cons_zero, List.set_cons_succ])
  refine take_named (i := 10) (d := 23) (v := ?vSS10) rfl (by kernel_rfl) (by kernel_rfl) (by kernel_rfl) (by kernel_rfl) (fun _ _ _ h => h) (Or.inl ⟨by kernel_rfl, ?ySS10⟩) (by assumption) ?_
  case ySS10 => intro wq hSw; (try dsimp only at hSw); go_simp; (try with_reducible rfl)
  (try simp only [Act.put, List.setIfInBounds_toArray, List.set_cons_zero, List.set_cons_succ])
  refine take_named (i := 11) (d := 24) (v := ?vSS11) rfl (by kernel_rfl) (by kernel_rfl) (by kernel_rfl) (by kernel_rfl) (fun _ _ _ h => h) (Or.inl ⟨by kernel_rfl, ?ySS11⟩) (by assumption) ?_
  case ySS11 => intro wq hSw; (try dsimp only at hSw); go_simp; (try with_reducible rfl)
  (try simp only [Act.put, List.setIfInBounds_toArray, List.set_cons_zero, List.set_cons_succ])
  refine take_named (i := 13) (d := 26) (v := ?vSS13) rfl (by kernel_rfl) (by kernel_rfl) (by kernel_rfl) (by kernel_rfl) (fun _ _ _ h => h) (Or.inl ⟨by kernel_rfl, ?ySS13⟩) (by assumption) ?_
  case ySS13 => intro wq hSw; (try dsimp only at hSw); go_simp; (try with_reducible rfl)
  (try simp only [Act.put, List.setIfInBounds_toArray, List.set_cons_zero, List.set_cons_succ])
  refine wpAnyH_ready (rs := [2]) (by kernel_rfl) (by simp) ?_
  refine AllReadyH.cons rfl (fun K hK => ?_) AllReadyH.nil
  go_simp
  refine (HWn.out _).mono ?_
  rintro ee v1 ⟨Aa, ca, rfl, hda, -, hba⟩
  have bv1 := below_viaD hB0 hba
  have Dp_v1 := Lib.hid (DS.go HPd.out hba)
  have Dq_v1 := Lib.hid (DS.go HQd.out hba)
  have DaSS := Lib.hid hda
  refine hK.out _ _ (HKs.out _ bv1) (fun hHeldSS2 => ?_)
  clear hK K hHeldSS
  (try simp only [Act.put, List.setIfInBounds_toArray, List.set_cons_zero, List.set_cons_succ])
  refine wpAnyH_ready (rs := [4]) (by kernel_rfl) (by simp) ?_
  refine AllReadyH.cons rfl (fun K hK => ?_) AllReadyH.nil
  go_simp
  refine (HM1.out _ _ _ _ _ DaSS.out Dq_v1.out).mono ?_
  rintro ee v2 ⟨Ab, cb, rfl, hdb, -, hbb⟩
  have bv2 := below_viaD bv1 hbb
  have Dp_v2 := Lib.hid (DS.go Dp_v1.out hbb)
  have Dq_v2 := Lib.hid (DS.go Dq_v1.out hbb)
  have DaSS_v2 := Lib.hid (DS.go DaSS.out hbb)
  have DxSS := Lib.hid hdb
  refine hK.out _ _ (HKs.out _ bv2) (fun hHeldSS4 => ?_)
  clear hK K hHeldSS2
  (try simp only [Act.put, List.setIfInBounds_toArray, List.set_cons_zero, List.set_cons_succ])
  refine wpAnyH_ready (rs := [8]) (by kernel_rfl) (by simp) ?_
  refine AllReadyH.cons rfl (fun K hK => ?_) AllReadyH.nil
  go_simp
  refine (HWd.out _).mono ?_
  rintro ee v3 ⟨Ac, cc, rfl, hdc, -, hbc⟩
  have bv3 := below_viaD bv2 hbc
  have Dp_v3 := Lib.hid (DS.go Dp_v2.out hbc)
  have Dq_v3 := Lib.hid (DS.go Dq_v2.out hbc)
  have DaSS_v3 := Lib.hid (DS.go DaSS_v2.out hbc)
  have DxSS_v3 := Lib.hid (DS.go DxSS.out hbc)
  have DcSS := Lib.hid hdc
  refine hK.out _ _ (HKs.out _ bv3) (fun hHeldSS8 => ?_)
  clear hK K hHeldSS4
  (try simp only [Act.put, List.setIfInBounds_toArray, List.set_cons_zero, List.set_cons_succ])
  refine wpAnyH_ready (rs := [9]) (by kernel_rfl) (by simp) ?_
  refine AllReadyH.cons rfl (fun K hK => ?_) AllReadyH.nil
  go_simp
  refine (HM2.out _ _ _ _ _ Dp_v3.out DcSS.out).mono ?_
  rintro ee v4 ⟨Ad, cd, rfl, hdd, -, hbd⟩
  have bv4 := below_viaD bv3 hbd
  have Dp_v4 := Lib.hid (DS.go Dp_v3.out hbd)
  have Dq_v4 := Lib.hid (DS.go Dq_v3.out hbd)
  have DaSS_v4 := Lib.hid (DS.go DaSS_v3.out hbd)
  have DxSS_v4 := Lib.hid (DS.go DxSS_v3.out hbd)
  have DcSS_v4 := Lib.hid (DS.go DcSS.out hbd)
  have DySS := Lib.hid hdd
  refine hK.out _ _ (HKs.out _ bv4) (fun hHeldSS9 => ?_)
  clear hK K hHeldSS8
  (try simp only [Act.put, List.setIfInBounds_toArray, List.set_cons_zero, List.set_cons_succ])
  refine wpAnyH_ready (rs := [12]) (by kernel_rfl) (by simp) ?_
  refine AllReadyH.cons rfl (fun K hK => ?_) AllReadyH.nil
  go_simp
  refine (HWd.out _).mono ?_
  rintro ee v5 ⟨Ae, ce, rfl, hde, -, hbe⟩
  have bv5 := below_viaD bv4 hbe
  have Dp_v5 := Lib.hid (DS.go Dp_v4.out hbe)
  have Dq_v5 := Lib.hid (DS.go Dq_v4.out hbe)
  have DaSS_v5 := Lib.hid (DS.go DaSS_v4.out hbe)
  have DxSS_v5 := Lib.hid (DS.go DxSS_v4.out hbe)
  have DcSS_v5 := Lib.hid (DS.go DcSS_v4.out hbe)
  have DySS_v5 := Lib.hid (DS.go DySS.out hbe)
  have DeSS := Lib.hid hde
  refine hK.out _ _ (HKs.out _ bv5) (fun hHeldSS12 => ?_)
  clear hK K hHeldSS9
  (try simp only [Act.put, List.setIfInBounds_toArray, List.set_cons_zero, List.set_cons_succ])
  refine wpAnyH_ready (rs := [14]) (by kernel_rfl) (by simp) ?_
  refine AllReadyH.cons rfl (fun K hK => ?_) AllReadyH.nil
  go_simp
  refine (HM3.out _ _ _ _ _ DeSS.out Dq_v5.out).mono ?_
  rintro ee v6 ⟨Af, cf, rfl, hdf, -, hbf⟩
  have bv6 := below_viaD bv5 hbf
  have Dp_v6 := Lib.hid (DS.go Dp_v5.out hbf)
  have Dq_v6 := Lib.hid (DS.go Dq_v5.out hbf)
  have DaSS_v6 := Lib.hid (DS.go DaSS_v5.out hbf)
  have DxSS_v6 := Lib.hid (DS.go DxSS_v5.out hbf)
  have DcSS_v6 := Lib.hid (DS.go DcSS_v5.out hbf)
  have DySS_v6 := Lib.hid (DS.go DySS_v5.out hbf)
  have DeSS_v6 := Lib.hid (DS.go DeSS.out hbf)
  have DzSS := Lib.hid hdf
  refine hK.out _ _ (HKs.out _ bv6) (fun hHeldSS14 => ?_)
  clear hK K hHeldSS12
  (try simp only [Act.put, List.setIfInBounds_toArray, List.set_cons_zero, List.set_cons_succ])
  refine take_named (i := 15) (d := 10) (v := ?vSS15) rfl (by kernel_rfl) (by kernel_rfl) (by kernel_rfl) (by kernel_rfl) (fun _ _ _ h => h) (Or.inl ⟨by kernel_rfl, ?ySS15⟩) (by assumption) ?_
  case ySS15 => intro wq hSw; (try dsimp only at hSw); go_simp; (try with_reducible rfl)
  (try simp only [Act.put, List.setIfInBounds_toArray, List.set_cons_zero, List.set_cons_succ])
  refine take_named (i := 16) (d := 11) (v := ?vSS16) rfl (by kernel_rfl) (by kernel_rfl) (by kernel_rfl) (by kernel_rfl) (fun _ _ _ h => h) (Or.inl ⟨by kernel_rfl, ?ySS16⟩) (by assumption) ?_
  case ySS16 => intro wq hSw; (try dsimp only at hSw); go_simp; (try with_reducible rfl)
  (try simp only [Act.put, List.setIfInBounds_toArray, List.set_cons_zero, List.set_cons_succ])
  refine take_named (i := 17) (d := 12) (v := ?vSS17) rfl (by kernel_rfl) (by kernel_rfl) (by kernel_rfl) (by kernel_rfl) (fun _ _ _ h => h) (Or.inl ⟨by kernel_rfl, ?ySS17⟩) (by assumption) ?_
  case ySS17 => intro wq hSw; (try dsimp only at hSw); go_simp; (try with_reducible rfl)
  (try simp only [Act.put, List.setIfInBounds_toArray, List.set_cons_zero, List.set_cons_succ])
  refine wpAnyH_done (by kernel_rfl) ?_ _
  clear hHeldSS14
  obtain ⟨s0, s1⟩ := HKs.out _ bv6
  go_wp2_with fail
  refine (HLs.out _ _ _ _ _ DxSS_v6.out DySS_v6.out).mono ?_
  rintro ee v7 ⟨rfl, n7, rfl⟩
  have hb7 := below_drewN bv6 n7
  have DX := Lib.hid (show DS (v6.drewN n7).drew (fn.natAbs * q) (ln (fn.natAbs * q)) _ _ from DxSS_v6.out)
  have DY := Lib.hid (show DS (v6.drewN n7).drew (p * fd.natAbs) (ln (p * fd.natAbs)) _ _ from DySS_v6.out)
  have DZ := Lib.hid (show DS (v6.drewN n7).drew (fd.natAbs * q) (ln (fd.natAbs * q)) _ _ from DzSS.out)
  obtain ⟨V7, hV7⟩ : ∃ V, v6.drewN n7 = V := ⟨_, rfl⟩
  rw [hV7] at hb7 DX DY DZ ⊢
  clear hV7
  have hb7d := hb7.drew
  have hS7 : (fun wq : World => wq.cell? ⟨g, 0, none⟩ = some (.int .i64 fn) ∧ wq.cell? ⟨g, 1, none⟩ = some (.int .i64 fd)) V7 := HKs.out _ hb7
  clear s0 s1
  obtain ⟨s0, s1⟩ := HKs.out _ hb7
  go_upto_region 6 with fail
  refine wp_region_held_drew (S := (fun wq => wq.cell? ⟨g, 0, none⟩ = some (.int .i64 fn) ∧ wq.cell? ⟨g, 1, none⟩ = some (.int .i64 fd))) (by kernel_rfl) hS7 (fun hHeldS6 => ?_)
  refine take_named (i := 0) (d := 52) (v := ?vS60) rfl (by kernel_rfl) (by kernel_rfl) (by kernel_rfl) (by kernel_rfl) (fun _ _ _ h => h) (Or.inl ⟨by kernel_rfl, ?yS60⟩) (by assumption) ?_
  case yS60 => intro wq hSw; (try dsimp only at hSw); go_simp; (try with_reducible rfl)
  (try simp only [Act.put, List.setIfInBounds_toArray, List.set_cons_zero, List.set_cons_succ])
  refine take_named (i := 1) (d := 53) (v := ?vS61) rfl (by kernel_rfl) (by kernel_rfl) (by kernel_rfl) (by kernel_rfl) (fun _ _ _ h => h) (Or.inl ⟨by kernel_rfl, ?yS61⟩) (by assumption) ?_
  case yS61 => intro wq hSw; (try dsimp only at hSw); go_simp; (try with_reducible rfl)
  (try simp only [Act.put, List.setIfInBounds_toArray, List.set_cons_zero, List.set_cons_succ])
  refine take_named (i := 2) (d := 54) (v := ?vS62) rfl (by kernel_rfl) (by kernel_rfl) (by kernel_rfl) (by kernel_rfl) (fun _ _ _ h => h) (Or.inl ⟨by kernel_rfl, ?yS62⟩) (by assumption) ?_
  case yS62 => intro wq hSw; (try dsimp only at hSw); go_simp; (try with_reducible rfl)
  (try simp only [Act.put, List.setIfInBounds_toArray, List.set_cons_zero, List.set_cons_succ])
  refine take_named (i := 3) (d := 55) (v := ?vS63) rfl (by kernel_rfl) (by kernel_rfl) (by kernel_rfl) (by kernel_rfl) (fun _ _ _ h => h) (Or.inl ⟨by kernel_rfl, ?yS63⟩) (by assumption) ?_
  case yS63 => intro wq hSw; (try dsimp only at hSw); go_simp; (try with_reducible rfl)
  (try simp only [Act.put, List.setIfInBounds_toArray, List.set_cons_zero, List.set_cons_succ])
  refine take_named (i := 4) (d := 56) (v := ?vS64) rfl (by kernel_rfl) (by kernel_rfl) (by kernel_rfl) (by kernel_rfl) (fun _ _ _ h => h) (Or.inl ⟨by kernel_rfl, ?yS64⟩) (by assumption) ?_
  case yS64 => intro wq hSw; (try dsimp only at hSw); go_simp; (try with_reducible rfl)
  (try simp only [Act.put, List.setIfInBounds_toArray, List.set_cons_zero, List.set_cons_succ])
  refine take_named (i := 6) (d := 58) (v := ?vS66) rfl (by kernel_rfl) (by kernel_rfl) (by kernel_rfl) (by kernel_rfl) (fun _ _ _ h => h) (Or.inl ⟨by kernel_rfl, ?yS66⟩) (by assumption) ?_
  case yS66 => intro wq hSw; (try dsimp only at hSw); go_simp; (try with_reducible rfl)
  (try simp only [Act.put, List.setIfInBounds_toArray, List.set_cons_zero, List.set_cons_succ])
  refine wpAnyH_ready (rs := [5]) (by kernel_rfl) (by simp) ?_
  refine AllReadyH.cons rfl (fun K hK => ?_) AllReadyH.nil
  go_simp
  refine (HSu.out _ _ _ _ _ DX.out DY.out).mono ?_
  rintro ee v8 ⟨Ag, cg, rfl, hdg, -, hbg⟩
  have bv8 := below_viaD hb7d hbg
  have DX_v8 := Lib.hid (DS.go DX.out hbg)
  have DY_v8 := Lib.hid (DS.go DY.out hbg)
  have DZ_v8 := Lib.hid (DS.go DZ.out hbg)
  have Dw := Lib.hid hdg
  refine hK.out _ _ (HKs.out _ bv8) (fun hHeldS65 => ?_)
  clear hK K hHeldS6
  (try simp only [Act.put, List.setIfInBounds_toArray, List.set_cons_zero, List.set_cons_succ])
  refine wpAnyH_ready (rs := [7]) (by kernel_rfl) (by simp) ?_
  refine AllReadyH.cons rfl (fun K hK => ?_) AllReadyH.nil
  go_simp
  refine (HMk.out _ _ _ _ _ Dw.out DZ_v8.out).mono ?_
  rintro ee v9 ⟨rfl, hbk⟩
  have bv9 := below_viaD bv8 hbk
  have y0 := blk_cell (HK2.out _ bv9) 0
  have y1 := blk_cell (HK2.out _ bv9) 1
  have y2 := blk_free (HK2.out _ bv9) 0
  have y3 := blk_free (HK2.out _ bv9) 1
  have DX_v9 := Lib.hid (DS.go DX_v8.out hbk)
  have DY_v9 := Lib.hid (DS.go DY_v8.out hbk)
  have DZ_v9 := Lib.hid (DS.go DZ_v8.out hbk)
  have Dw_v9 := Lib.hid (DS.go Dw.out hbk)
  refine hK.out _ _ (HKs.out _ bv9) (fun hHeldS67 => ?_)
  clear hK K hHeldS65
  (try simp only [Act.put, List.setIfInBounds_toArray, List.set_cons_zero, List.set_cons_succ])
  refine take_named (i := 8) (d := 60) (v := ?vS68) rfl (by kernel_rfl) (by kernel_rfl) (by kernel_rfl) (by kernel_rfl) (fun _ _ _ h => h) (Or.inl ⟨by kernel_rfl, ?yS68⟩) (by assumption) ?_
  case yS68 => intro wq hSw; (try dsimp only at hSw); go_simp; (try with_reducible rfl)
  (try simp only [Act.put, List.setIfInBounds_toArray, List.set_cons_zero, List.set_cons_succ])
  refine take_named (i := 9) (d := 61) (v := ?vS69) rfl (by kernel_rfl) (by kernel_rfl) (by kernel_rfl) (by kernel_rfl) (fun _ _ _ h => h) (Or.inl ⟨by kernel_rfl, ?yS69⟩) (by assumption) ?_
  case yS69 => intro wq hSw; (try dsimp only at hSw); go_simp; (try with_reducible rfl)
  (try simp only [Act.put, List.setIfInBounds_toArray, List.set_cons_zero, List.set_cons_succ])
  refine wpAnyH_ready (rs := [10]) (by kernel_rfl) (by simp) ?_
  refine AllReadyH.cons rfl (fun K hK => ?_) AllReadyH.nil
  go_simp
  refine hK.out _ _ (⟨keepS (keepS (HKs.out _ bv9).1 (by show g + 1 ≠ g; omega) _) (by show g + 1 ≠ g; omega) _, keepS (keepS (HKs.out _ bv9).2 (by show g + 1 ≠ g; omega) _) (by show g + 1 ≠ g; omega) _⟩) (fun hHeldS610 => ?_)
  clear hK K hHeldS67
  (try simp only [Act.put, List.setIfInBounds_toArray, List.set_cons_zero, List.set_cons_succ])
  refine take_named (i := 11) (d := 9) (v := ?vS611) rfl (by kernel_rfl) (by kernel_rfl) (by kernel_rfl) (by kernel_rfl) (fun _ _ _ h => h) (Or.inl ⟨by kernel_rfl, ?yS611⟩) (by assumption) ?_
  case yS611 => intro wq hSw; (try dsimp only at hSw); go_simp; (try with_reducible rfl)
  (try simp only [Act.put, List.setIfInBounds_toArray, List.set_cons_zero, List.set_cons_succ])
  refine wpAnyH_done (by kernel_rfl) ?_ _
  clear hHeldS610
  have hbl := bv9
  have hbz := below_viaD HB1.out hbl
  have z := blk_set (blk_set (HK2.out _ hbl) 0 (.int .i64 x)) 1 (.int .i64 y)
  have z0 := blk_cell z 0
  have z1 := blk_cell z 1
  go_wp2
  exact bodyPost_ret (v := .tuple #[.agg #[.int .i64 x, .int .i64 y], .int .i64 E]) (by simp [results, Tryd.results68, go_sem, z0, z1]) rfl ⟨rfl, (hbz.setCell (p := ⟨g + 1, 0, none⟩) Hgw.out _).setCell (p := ⟨g + 1, 1, none⟩) Hgw.out _⟩


set_option maxRecDepth 100000 in
set_option maxHeartbeats 4000000 in
theorem r01addF (fn fd gn gd : Int) (w : World) (hfn : 0 ≤ fn ∧ fn ≤ 9223372036854775807) (hfd : 0 < fd ∧ fd ≤ 9223372036854775807) (hgn : 0 ≤ gn ∧ gn ≤ 9223372036854775807) (hgd : 0 < gd ∧ gd ≤ 9223372036854775807) (hf : rightF (fn, fd) = true) (hg2 : rightF (gn, gd) = true) :
    Calls Tryd.prog 43 #[.agg #[.int .i64 fn, .int .i64 fd], .agg #[.int .i64 gn, .int .i64 gd]] w fun e w' => e = .returned (.tuple #[fV (mk0 false (fn.natAbs * gd.natAbs + gn.natAbs * fd.natAbs) (fd.natAbs * gd.natAbs)), .int .i64 (mkE false (fn.natAbs * gd.natAbs + gn.natAbs * fd.natAbs) (fd.natAbs * gd.natAbs))]) ∧ Below w.heap.size w w' := by
  have HR1 := Lib.hid (fun W => r01right fn fd W (by omega) (by omega))
  have HR2 := Lib.hid (fun W => r01right gn gd W (by omega) (by omega))
  rw [hf] at HR1
  rw [hg2] at HR2
  have HWa := Lib.hid (fun W => r01whole fn W (by omega))
  have HWb := Lib.hid (fun W => r01whole gn W (by omega))
  have HWc := Lib.hid (fun W => r01whole fd W (by omega))
  have HWd := Lib.hid (fun W => r01whole gd W (by omega))
  have l1 := ln_i64 (n := fn) (by omega)
  have l2 := ln_i64 (n := gn) (by omega)
  have l3 := ln_i64 (n := fd) (by omega)
  have l4 := ln_i64 (n := gd) (by omega)
  have HSm := Lib.hid (fun A B ca cb W h1 h2 => r01sumA fn fd gn.natAbs gd.natAbs A B ca cb W (by omega) (by omega) l2 l4 (by omega) h1 h2)
  obtain ⟨F, hF⟩ : ∃ F, mk0 false (fn.natAbs * gd.natAbs + gn.natAbs * fd.natAbs) (fd.natAbs * gd.natAbs) = F := ⟨_, rfl⟩
  obtain ⟨E, hE⟩ : ∃ E, mkE false (fn.natAbs * gd.natAbs + gn.natAbs * fd.natAbs) (fd.natAbs * gd.natAbs) = E := ⟨_, rfl⟩
  rw [hF, hE] at HSm ⊢
  obtain ⟨x, y⟩ := F
  unfold fV at HSm ⊢
  dsimp only at HSm ⊢
  have t1 : ¬ gn < 0 := by omega
  have t2 : decide (gn < 0) = false := decide_eq_false t1
  skip
  obtain ⟨g, hg⟩ : ∃ g, w.heap.size = g := ⟨_, rfl⟩
  obtain ⟨W1, hW1⟩ : ∃ V, ((w.alloc (.cells #[.int .i64 fn, .int .i64 fd] 23)).alloc (.cells #[.int .i64 gn, .int .i64 gd] 23)).alloc (.cells #[.int .i64 0, .int .i64 0] 23) = V := ⟨_, rfl⟩
  have hb1 : Below w.heap.size w W1 := by rw [← hW1]; exact (by repeat (first | exact Below.refl _ _ | assumption | refine Below.drew ?_ | refine below_drewN ?_ _ | refine Below.alloc ?_ (by first | omega | (simp; done) | (simp; omega)) _ | refine Below.setCell ?_ (by first | omega | (simp; done) | (simp; omega)) _))
  have k0 : W1.heap[g]? = some (.cells #[.int .i64 fn, .int .i64 fd] 23 (0, 0)) := by rw [← hW1]; exact blk_alloc (blk_alloc (blk_new _ hg.symm) _) _
  have k1 : W1.heap[g + 1]? = some (.cells #[.int .i64 gn, .int .i64 gd] 23 (0, 0)) := by rw [← hW1]; exact blk_alloc (blk_new _ (by simp; omega)) _
  have k2 : W1.heap[g + 1 + 1]? = some (.cells #[.int .i64 0, .int .i64 0] 23 (0, 0)) := by rw [← hW1]; exact blk_new _ (by simp; omega)
  have HK := Lib.hid (fun (W : World) (hb : Below W1.heap.size W1 W) => (show W.heap[g]? = some (.cells #[.int .i64 fn, .int .i64 fd] 23 (0, 0)) ∧ W.heap[g + 1]? = some (.cells #[.int .i64 gn, .int .i64 gd] 23 (0, 0)) ∧ W.heap[g + 1 + 1]? = some (.cells #[.int .i64 0, .int .i64 0] 23 (0, 0)) from ⟨blk_below k0 hb (blk_lt k0), blk_below k1 hb (blk_lt k1), blk_below k2 hb (blk_lt k2)⟩))
  have Hgw := Lib.hid (show w.heap.size ≤ g from Nat.le_of_eq hg)
  have HB1 := Lib.hid hb1
  have c0 := blk_cell k0 0
  have c1 := blk_cell k0 1
  clear hF hE hfn hfd hgn hgd hf hg2 hb1 k0 k1 k2 l1 l2 l3 l4
  go_enter Tryd.func43, Tryd.ntmps43
  go_wp2_with fail
  (try rw [hW1])
  (try rw [hg])
  clear hW1 hg
  refine (HR1.out _).mono ?_
  rintro ee u1 ⟨rfl, hr1⟩
  obtain ⟨k0, k1, k2⟩ := HK.out _ hr1
  have c2 := blk_cell k1 0
  have c3 := blk_cell k1 1
  clear k0 k1 k2 c0 c1
  go_wp2_with fail
  refine (HR2.out _).mono ?_
  rintro ee u2 ⟨rfl, hr2⟩
  have hr12 := below_viaD hr1 hr2
  obtain ⟨k0, k1, k2⟩ := HK.out _ hr12
  have c0 := blk_cell k0 0
  have c1 := blk_cell k0 1
  have c2 := blk_cell k1 0
  have c3 := blk_cell k1 1
  have HKs := Lib.hid (fun (W : World) (hb : Below u2.heap.size u2 W) => (show W.cell? ⟨g, 0, none⟩ = some (.int .i64 fn) ∧ W.cell? ⟨g, 1, none⟩ = some (.int .i64 fd) ∧ W.cell? ⟨g + 1, 0, none⟩ = some (.int .i64 gn) ∧ W.cell? ⟨g + 1, 1, none⟩ = some (.int .i64 gd) from ⟨keepD hb (blk_lt k0) c0, keepD hb (blk_lt k0) c1, keepD hb (blk_lt k1) c2, keepD hb (blk_lt k1) c3⟩))
  have HK2 := Lib.hid (fun (W : World) (hb : Below u2.heap.size u2 W) => (show W.heap[g + 1 + 1]? = some (.cells #[.int .i64 0, .int .i64 0] 23 (0, 0)) from blk_below k2 hb (blk_lt k2)))
  have HB2 := Lib.hid (below_viaD HB1.out hr12)
  have hS0 : (fun wq : World => wq.cell? ⟨g, 0, none⟩ = some (.int .i64 fn) ∧ wq.cell? ⟨g, 1, none⟩ = some (.int .i64 fd) ∧ wq.cell? ⟨g + 1, 0, none⟩ = some (.int .i64 gn) ∧ wq.cell? ⟨g + 1, 1, none⟩ = some (.int .i64 gd)) u2 := ⟨c0, c1, c2, c3⟩
  have hB0 : Below u2.heap.size u2 u2.drew := (Below.refl _ _).drew
  clear hr1 hr2 hr12 k0 k1 k2 HB1 HK HR1 HR2
  go_upto_region 3 with fail
  refine wp_region_held_drew (S := (fun wq => wq.cell? ⟨g, 0, none⟩ = some (.int .i64 fn) ∧ wq.cell? ⟨g, 1, none⟩ = some (.int .i64 fd) ∧ wq.cell? ⟨g + 1, 0, none⟩ = some (.int .i64 gn) ∧ wq.cell? ⟨g + 1, 1, none⟩ = some (.int .i64 gd))) (by kernel_rfl) hS0 (fun hHeldADD => ?_)
  refine take_named (i := 0) (d := 15) (v := ?vADD0) rfl (by kernel_rfl) (by kernel_rfl) (by kernel_rfl) (by kernel_rfl) (fun _ _ _ h => h) (Or.inl ⟨by kernel_rfl, ?yADD0⟩) (by assumption) ?_
  case yADD0 => intro wq hSw; (try dsimp only at hSw); go_simp; (try with_reducible rfl)
  (try simp only [Act.put, List.setIfInBounds_toArray, List.set_cons_zero, List.set_cons_succ])
  refine take_named (i := 1) (d := 16) (v := ?vADD1) rfl (by kernel_rfl) (by kernel_rfl) (by kernel_rfl) (by kernel_rfl) (fun _ _ _ h => h) (Or.inl ⟨by kernel_rfl, ?yADD1⟩) (by assumption) ?_
  case yADD1 => intro wq hSw; (try dsimp only at hSw); go_simp; (try with_reducible rfl)
  (try simp only [Act.put, List.setIfInBounds_toArray, List.set_cons_zero, List.set_cons_succ])
  refine take_named (i := 2) (d := 17) (v := ?vADD2) rfl (by kernel_rfl) (by kernel_rfl) (by kernel_rfl) (by kernel_rfl) (fun _ _ _ h => h) (Or.inl ⟨by kernel_rfl, ?yADD2⟩) (by assumption) ?_
  case yADD2 => intro wq hSw; (try dsimp only at hSw); go_simp; (try with_reducible rfl)
  (try simp only [Act.put, List.setIfInBounds_toArray, List.set_cons_zero, List.set_cons_succ])
  refine take_named (i := 3) (d := 18) (v := ?vADD3) rfl (by kernel_rfl) (by kernel_rfl) (by kernel_rfl) (by kernel_rfl) (fun _ _ _ h => h) (Or.inl ⟨by kernel_rfl, ?yADD3⟩) (by assumption) ?_
  case yADD3 => intro wq hSw; (try dsimp only at hSw); go_simp; (try with_reducible rfl)
  (try simp only [Act.put, List.setIfInBounds_toArray, List.set_cons_zero, List.set_cons_succ])
  refine take_named (i := 4) (d := 19) (v := ?vADD4) rfl (by kernel_rfl) (by kernel_rfl) (by kernel_rfl) (by kernel_rfl) (fun _ _ _ h => h) (Or.inl ⟨by kernel_rfl, ?yADD4⟩) (by assumption) ?_
  case yADD4 => intro wq hSw; (try dsimp only at hSw); go_simp; (try with_reducible rfl)
  (try simp only [Act.put, List.setIfInBounds_toArray, List.set_cons_zero, List.set_cons_succ])
  refine take_named (i := 5) (d := 20) (v := ?vADD5) rfl (by kernel_rfl) (by kernel_rfl) (by kernel_rfl) (by kernel_rfl) (fun _ _ _ h => h) (Or.inl ⟨by kernel_rfl, ?yADD5⟩) (by assumption) ?_
  case yADD5 => intro wq hSw; (try dsimp only at hSw); go_simp; (try with_reducible rfl)
  (try simp only [Act.put, List.setIfInBounds_toArray, List.set_cons_zero, List.set_cons_succ])
  refine take_named (i := 7) (d := 22) (v := ?vADD7) rfl (by kernel_rfl) (by kernel_rfl) (by kernel_rfl) (by kernel_rfl) (fun _ _ _ h => h) (Or.inl ⟨by kernel_rfl, ?yADD7⟩) (by assumption) ?_
  case yADD7 => intro wq hSw; (try dsimp only at hSw); go_simp; (try with_reducible rfl)
  (try simp only [Act.put, List.setIfInBounds_toArray, List.set_cons_zero, List.set_cons_succ])
  refine take_named (i := 8) (d := 23) (v := ?vADD8) rfl (by kernel_rfl) (by kernel_rfl) (by kernel_rfl) (by kernel_rfl) (fun _ _ _ h => h) (Or.inl ⟨by kernel_rfl, ?yADD8⟩) (by assumption) ?_
  case yADD8 => intro wq hSw; (try dsimp only at hSw); go_simp; (try with_reducible rfl)
  (try simp only [Act.put, List.setIfInBounds_toArray, List.set_cons_zero, List.set_cons_succ])
  refine wpAnyH_ready (rs := [6]) (by kernel_rfl) (by simp) ?_
  refine AllReadyH.cons rfl (fun K hK => ?_) AllReadyH.nil
  go_simp
  refine (HWb.out _).mono ?_
  rintro ee v1 ⟨Aa, ca, rfl, hda, -, hba⟩
  have bv1 := below_viaD hB0 hba
  have Da := Lib.hid hda
  refine hK.out _ _ (HKs.out _ bv1) (fun hHeldADD6 => ?_)
  clear hK K hHeldADD
  (try simp only [Act.put, List.setIfInBounds_toArray, List.set_cons_zero, List.set_cons_succ])
  refine wpAnyH_ready (rs := [9]) (by kernel_rfl) (by simp) ?_
  refine AllReadyH.cons rfl (fun K hK => ?_) AllReadyH.nil
  go_simp
  refine (HWd.out _).mono ?_
  rintro ee v2 ⟨Ab, cb, rfl, hdb, -, hbb⟩
  have bv2 := below_viaD bv1 hbb
  have Da_v2 := Lib.hid (DS.go Da.out hbb)
  have Db := Lib.hid hdb
  refine hK.out _ _ (HKs.out _ bv2) (fun hHeldADD9 => ?_)
  clear hK K hHeldADD6
  (try simp only [Act.put, List.setIfInBounds_toArray, List.set_cons_zero, List.set_cons_succ])
  refine wpAnyH_ready (rs := [10]) (by kernel_rfl) (by simp) ?_
  refine AllReadyH.cons rfl (fun K hK => ?_) AllReadyH.nil
  go_simp
  refine (HSm.out _ _ _ _ _ Da_v2.out Db.out).mono ?_
  rintro ee v3 ⟨rfl, hbk⟩
  have bv3 := below_viaD bv2 hbk
  have y0 := blk_cell (HK2.out _ bv3) 0
  have y1 := blk_cell (HK2.out _ bv3) 1
  have y2 := blk_free (HK2.out _ bv3) 0
  have y3 := blk_free (HK2.out _ bv3) 1
  have Da_v3 := Lib.hid (DS.go Da_v2.out hbk)
  have Db_v3 := Lib.hid (DS.go Db.out hbk)
  refine hK.out _ _ (HKs.out _ bv3) (fun hHeldADD10 => ?_)
  clear hK K hHeldADD9
  (try simp only [Act.put, List.setIfInBounds_toArray, List.set_cons_zero, List.set_cons_succ])
  refine take_named (i := 11) (d := 26) (v := ?vADD11) rfl (by kernel_rfl) (by kernel_rfl) (by kernel_rfl) (by kernel_rfl) (fun _ _ _ h => h) (Or.inl ⟨by kernel_rfl, ?yADD11⟩) (by assumption) ?_
  case yADD11 => intro wq hSw; (try dsimp only at hSw); go_simp; (try with_reducible rfl)
  (try simp only [Act.put, List.setIfInBounds_toArray, List.set_cons_zero, List.set_cons_succ])
  refine take_named (i := 12) (d := 27) (v := ?vADD12) rfl (by kernel_rfl) (by kernel_rfl) (by kernel_rfl) (by kernel_rfl) (fun _ _ _ h => h) (Or.inl ⟨by kernel_rfl, ?yADD12⟩) (by assumption) ?_
  case yADD12 => intro wq hSw; (try dsimp only at hSw); go_simp; (try with_reducible rfl)
  (try simp only [Act.put, List.setIfInBounds_toArray, List.set_cons_zero, List.set_cons_succ])
  refine wpAnyH_ready (rs := [13]) (by kernel_rfl) (by simp) ?_
  refine AllReadyH.cons rfl (fun K hK => ?_) AllReadyH.nil
  go_simp
  refine hK.out _ _ (⟨keepS (keepS (HKs.out _ bv3).1 (by show g + 1 + 1 ≠ g; omega) _) (by show g + 1 + 1 ≠ g; omega) _, keepS (keepS (HKs.out _ bv3).2.1 (by show g + 1 + 1 ≠ g; omega) _) (by show g + 1 + 1 ≠ g; omega) _, keepS (keepS (HKs.out _ bv3).2.2.1 (by show g + 1 + 1 ≠ g + 1; omega) _) (by show g + 1 + 1 ≠ g + 1; omega) _, keepS (keepS (HKs.out _ bv3).2.2.2 (by show g + 1 + 1 ≠ g + 1; omega) _) (by show g + 1 + 1 ≠ g + 1; omega) _⟩) (fun hHeldADD13 => ?_)
  clear hK K hHeldADD10
  (try simp only [Act.put, List.setIfInBounds_toArray, List.set_cons_zero, List.set_cons_succ])
  refine take_named (i := 14) (d := 5) (v := ?vADD14) rfl (by kernel_rfl) (by kernel_rfl) (by kernel_rfl) (by kernel_rfl) (fun _ _ _ h => h) (Or.inl ⟨by kernel_rfl, ?yADD14⟩) (by assumption) ?_
  case yADD14 => intro wq hSw; (try dsimp only at hSw); go_simp; (try with_reducible rfl)
  (try simp only [Act.put, List.setIfInBounds_toArray, List.set_cons_zero, List.set_cons_succ])
  refine wpAnyH_done (by kernel_rfl) ?_ _
  clear hHeldADD13
  have hbz := below_viaD HB2.out bv3
  have z := blk_set (blk_set (HK2.out _ bv3) 0 (.int .i64 x)) 1 (.int .i64 y)
  have z0 := blk_cell z 0
  have z1 := blk_cell z 1
  have hg12 : w.heap.size ≤ g + 1 + 1 := by have := Hgw.out; omega
  go_wp2
  exact bodyPost_ret (v := .tuple #[.agg #[.int .i64 x, .int .i64 y], .int .i64 E]) (by simp [results, Tryd.results43, go_sem, z0, z1]) rfl ⟨rfl, (hbz.setCell (p := ⟨g + 1 + 1, 0, none⟩) hg12 _).setCell (p := ⟨g + 1 + 1, 1, none⟩) hg12 _⟩

set_option maxRecDepth 100000 in
set_option maxHeartbeats 4000000 in
theorem r01subF (fn fd gn gd : Int) (w : World) (hfn : 0 ≤ fn ∧ fn ≤ 9223372036854775807) (hfd : 0 < fd ∧ fd ≤ 9223372036854775807) (hgn : 0 < gn ∧ gn ≤ 9223372036854775807) (hgd : 0 < gd ∧ gd ≤ 9223372036854775807) (hle : gn.natAbs * fd.natAbs ≤ fn.natAbs * gd.natAbs) (hf : rightF (fn, fd) = true) (hg2 : rightF (gn, gd) = true) :
    Calls Tryd.prog 46 #[.agg #[.int .i64 fn, .int .i64 fd], .agg #[.int .i64 gn, .int .i64 gd]] w fun e w' => e = .returned (.tuple #[fV (mk0 false (fn.natAbs * gd.natAbs - gn.natAbs * fd.natAbs) (fd.natAbs * gd.natAbs)), .int .i64 (mkE false (fn.natAbs * gd.natAbs - gn.natAbs * fd.natAbs) (fd.natAbs * gd.natAbs))]) ∧ Below w.heap.size w w' := by
  have HR1 := Lib.hid (fun W => r01right fn fd W (by omega) (by omega))
  have HR2 := Lib.hid (fun W => r01right gn gd W (by omega) (by omega))
  rw [hf] at HR1
  rw [hg2] at HR2
  have HWa := Lib.hid (fun W => r01whole fn W (by omega))
  have HWb := Lib.hid (fun W => r01whole gn W (by omega))
  have HWc := Lib.hid (fun W => r01whole fd W (by omega))
  have HWd := Lib.hid (fun W => r01whole gd W (by omega))
  have l1 := ln_i64 (n := fn) (by omega)
  have l2 := ln_i64 (n := gn) (by omega)
  have l3 := ln_i64 (n := fd) (by omega)
  have l4 := ln_i64 (n := gd) (by omega)
  have HSm := Lib.hid (fun A B ca cb W h1 h2 => r01sumS fn fd gn.natAbs gd.natAbs A B ca cb W (by omega) (by omega) l2 l4 (by omega) hle h1 h2)
  obtain ⟨F, hF⟩ : ∃ F, mk0 false (fn.natAbs * gd.natAbs - gn.natAbs * fd.natAbs) (fd.natAbs * gd.natAbs) = F := ⟨_, rfl⟩
  obtain ⟨E, hE⟩ : ∃ E, mkE false (fn.natAbs * gd.natAbs - gn.natAbs * fd.natAbs) (fd.natAbs * gd.natAbs) = E := ⟨_, rfl⟩
  rw [hF, hE] at HSm ⊢
  obtain ⟨x, y⟩ := F
  unfold fV at HSm ⊢
  dsimp only at HSm ⊢
  have t1 : 0 < gn := hgn.1
  have t2 : decide (0 < gn) = true := decide_eq_true t1
  skip
  obtain ⟨g, hg⟩ : ∃ g, w.heap.size = g := ⟨_, rfl⟩
  obtain ⟨W1, hW1⟩ : ∃ V, ((w.alloc (.cells #[.int .i64 fn, .int .i64 fd] 23)).alloc (.cells #[.int .i64 gn, .int .i64 gd] 23)).alloc (.cells #[.int .i64 0, .int .i64 0] 23) = V := ⟨_, rfl⟩
  have hb1 : Below w.heap.size w W1 := by rw [← hW1]; exact (by repeat (first | exact Below.refl _ _ | assumption | refine Below.drew ?_ | refine below_drewN ?_ _ | refine Below.alloc ?_ (by first | omega | (simp; done) | (simp; omega)) _ | refine Below.setCell ?_ (by first | omega | (simp; done) | (simp; omega)) _))
  have k0 : W1.heap[g]? = some (.cells #[.int .i64 fn, .int .i64 fd] 23 (0, 0)) := by rw [← hW1]; exact blk_alloc (blk_alloc (blk_new _ hg.symm) _) _
  have k1 : W1.heap[g + 1]? = some (.cells #[.int .i64 gn, .int .i64 gd] 23 (0, 0)) := by rw [← hW1]; exact blk_alloc (blk_new _ (by simp; omega)) _
  have k2 : W1.heap[g + 1 + 1]? = some (.cells #[.int .i64 0, .int .i64 0] 23 (0, 0)) := by rw [← hW1]; exact blk_new _ (by simp; omega)
  have HK := Lib.hid (fun (W : World) (hb : Below W1.heap.size W1 W) => (show W.heap[g]? = some (.cells #[.int .i64 fn, .int .i64 fd] 23 (0, 0)) ∧ W.heap[g + 1]? = some (.cells #[.int .i64 gn, .int .i64 gd] 23 (0, 0)) ∧ W.heap[g + 1 + 1]? = some (.cells #[.int .i64 0, .int .i64 0] 23 (0, 0)) from ⟨blk_below k0 hb (blk_lt k0), blk_below k1 hb (blk_lt k1), blk_below k2 hb (blk_lt k2)⟩))
  have Hgw := Lib.hid (show w.heap.size ≤ g from Nat.le_of_eq hg)
  have HB1 := Lib.hid hb1
  have c0 := blk_cell k0 0
  have c1 := blk_cell k0 1
  clear hF hE hfn hfd hgn hgd hf hg2 hb1 k0 k1 k2 l1 l2 l3 l4
  go_enter Tryd.func46, Tryd.ntmps46
  go_wp2_with fail
  (try rw [hW1])
  (try rw [hg])
  clear hW1 hg
  refine (HR1.out _).mono ?_
  rintro ee u1 ⟨rfl, hr1⟩
  obtain ⟨k0, k1, k2⟩ := HK.out _ hr1
  have c2 := blk_cell k1 0
  have c3 := blk_cell k1 1
  clear k0 k1 k2 c0 c1
  go_wp2_with fail
  refine (HR2.out _).mono ?_
  rintro ee u2 ⟨rfl, hr2⟩
  have hr12 := below_viaD hr1 hr2
  obtain ⟨k0, k1, k2⟩ := HK.out _ hr12
  have c0 := blk_cell k0 0
  have c1 := blk_cell k0 1
  have c2 := blk_cell k1 0
  have c3 := blk_cell k1 1
  have HKs := Lib.hid (fun (W : World) (hb : Below u2.heap.size u2 W) => (show W.cell? ⟨g, 0, none⟩ = some (.int .i64 fn) ∧ W.cell? ⟨g, 1, none⟩ = some (.int .i64 fd) ∧ W.cell? ⟨g + 1, 0, none⟩ = some (.int .i64 gn) ∧ W.cell? ⟨g + 1, 1, none⟩ = some (.int .i64 gd) from ⟨keepD hb (blk_lt k0) c0, keepD hb (blk_lt k0) c1, keepD hb (blk_lt k1) c2, keepD hb (blk_lt k1) c3⟩))
  have HK2 := Lib.hid (fun (W : World) (hb : Below u2.heap.size u2 W) => (show W.heap[g + 1 + 1]? = some (.cells #[.int .i64 0, .int .i64 0] 23 (0, 0)) from blk_below k2 hb (blk_lt k2)))
  have HB2 := Lib.hid (below_viaD HB1.out hr12)
  have hS0 : (fun wq : World => wq.cell? ⟨g, 0, none⟩ = some (.int .i64 fn) ∧ wq.cell? ⟨g, 1, none⟩ = some (.int .i64 fd) ∧ wq.cell? ⟨g + 1, 0, none⟩ = some (.int .i64 gn) ∧ wq.cell? ⟨g + 1, 1, none⟩ = some (.int .i64 gd)) u2 := ⟨c0, c1, c2, c3⟩
  have hB0 : Below u2.heap.size u2 u2.drew := (Below.refl _ _).drew
  clear hr1 hr2 hr12 k0 k1 k2 HB1 HK HR1 HR2
  go_upto_region 3 with fail
  refine wp_region_held_drew (S := (fun wq => wq.cell? ⟨g, 0, none⟩ = some (.int .i64 fn) ∧ wq.cell? ⟨g, 1, none⟩ = some (.int .i64 fd) ∧ wq.cell? ⟨g + 1, 0, none⟩ = some (.int .i64 gn) ∧ wq.cell? ⟨g + 1, 1, none⟩ = some (.int .i64 gd))) (by kernel_rfl) hS0 (fun hHeldSUB => ?_)
  refine take_named (i := 0) (d := 15) (v := ?vSUB0) rfl (by kernel_rfl) (by kernel_rfl) (by kernel_rfl) (by kernel_rfl) (fun _ _ _ h => h) (Or.inl ⟨by kernel_rfl, ?ySUB0⟩) (by assumption) ?_
  case ySUB0 => intro wq hSw; (try dsimp only at hSw); go_simp; (try with_reducible rfl)
  (try simp only [Act.put, List.setIfInBounds_toArray, List.set_cons_zero, List.set_cons_succ])
  refine take_named (i := 1) (d := 16) (v := ?vSUB1) rfl (by kernel_rfl) (by kernel_rfl) (by kernel_rfl) (by kernel_rfl) (fun _ _ _ h => h) (Or.inl ⟨by kernel_rfl, ?ySUB1⟩) (by assumption) ?_
  case ySUB1 => intro wq hSw; (try dsimp only at hSw); go_simp; (try with_reducible rfl)
  (try simp only [Act.put, List.setIfInBounds_toArray, List.set_cons_zero, List.set_cons_succ])
  refine take_named (i := 2) (d := 17) (v := ?vSUB2) rfl (by kernel_rfl) (by kernel_rfl) (by kernel_rfl) (by kernel_rfl) (fun _ _ _ h => h) (Or.inl ⟨by kernel_rfl, ?ySUB2⟩) (by assumption) ?_
  case ySUB2 => intro wq hSw; (try dsimp only at hSw); go_simp; (try with_reducible rfl)
  (try simp only [Act.put, List.setIfInBounds_toArray, List.set_cons_zero, List.set_cons_succ])
  refine take_named (i := 3) (d := 18) (v := ?vSUB3) rfl (by kernel_rfl) (by kernel_rfl) (by kernel_rfl) (by kernel_rfl) (fun _ _ _ h => h) (Or.inl ⟨by kernel_rfl, ?ySUB3⟩) (by assumption) ?_
  case ySUB3 => intro wq hSw; (try dsimp only at hSw); go_simp; (try with_reducible rfl)
  (try simp only [Act.put, List.setIfInBounds_toArray, List.set_cons_zero, List.set_cons_succ])
  refine take_named (i := 4) (d := 19) (v := ?vSUB4) rfl (by kernel_rfl) (by kernel_rfl) (by kernel_rfl) (by kernel_rfl) (fun _ _ _ h => h) (Or.inl ⟨by kernel_rfl, ?ySUB4⟩) (by assumption) ?_
  case ySUB4 => intro wq hSw; (try dsimp only at hSw); go_simp; (try with_reducible rfl)
  (try simp only [Act.put, List.setIfInBounds_toArray, List.set_cons_zero, List.set_cons_succ])
  refine take_named (i := 5) (d := 20) (v := ?vSUB5) rfl (by kernel_rfl) (by kernel_rfl) (by kernel_rfl) (by kernel_rfl) (fun _ _ _ h => h) (Or.inl ⟨by kernel_rfl, ?ySUB5⟩) (by assumption) ?_
  case ySUB5 => intro wq hSw; (try dsimp only at hSw); go_simp; (try with_reducible rfl)
  (try simp only [Act.put, List.setIfInBounds_toArray, List.set_cons_zero, List.set_cons_succ])
  refine take_named (i := 7) (d := 22) (v := ?vSUB7) rfl (by kernel_rfl) (by kernel_rfl) (by kernel_rfl) (by kernel_rfl) (fun _ _ _ h => h) (Or.inl ⟨by kernel_rfl, ?ySUB7⟩) (by assumption) ?_
  case ySUB7 => intro wq hSw; (try dsimp only at hSw); go_simp; (try with_reducible rfl)
  (try simp only [Act.put, List.setIfInBounds_toArray, List.set_cons_zero, List.set_cons_succ])
  refine take_named (i := 8) (d := 23) (v := ?vSUB8) rfl (by kernel_rfl) (by kernel_rfl) (by kernel_rfl) (by kernel_rfl) (fun _ _ _ h => h) (Or.inl ⟨by kernel_rfl, ?ySUB8⟩) (by assumption) ?_
  case ySUB8 => intro wq hSw; (try dsimp only at hSw); go_simp; (try with_reducible rfl)
  (try simp only [Act.put, List.setIfInBounds_toArray, List.set_cons_zero, List.set_cons_succ])
  refine wpAnyH_ready (rs := [6]) (by kernel_rfl) (by simp) ?_
  refine AllReadyH.cons rfl (fun K hK => ?_) AllReadyH.nil
  go_simp
  refine (HWb.out _).mono ?_
  rintro ee v1 ⟨Aa, ca, rfl, hda, -, hba⟩
  have bv1 := below_viaD hB0 hba
  have Da := Lib.hid hda
  refine hK.out _ _ (HKs.out _ bv1) (fun hHeldSUB6 => ?_)
  clear hK K hHeldSUB
  (try simp only [Act.put, List.setIfInBounds_toArray, List.set_cons_zero, List.set_cons_succ])
  refine wpAnyH_ready (rs := [9]) (by kernel_rfl) (by simp) ?_
  refine AllReadyH.cons rfl (fun K hK => ?_) AllReadyH.nil
  go_simp
  refine (HWd.out _).mono ?_
  rintro ee v2 ⟨Ab, cb, rfl, hdb, -, hbb⟩
  have bv2 := below_viaD bv1 hbb
  have Da_v2 := Lib.hid (DS.go Da.out hbb)
  have Db := Lib.hid hdb
  refine hK.out _ _ (HKs.out _ bv2) (fun hHeldSUB9 => ?_)
  clear hK K hHeldSUB6
  (try simp only [Act.put, List.setIfInBounds_toArray, List.set_cons_zero, List.set_cons_succ])
  refine wpAnyH_ready (rs := [10]) (by kernel_rfl) (by simp) ?_
  refine AllReadyH.cons rfl (fun K hK => ?_) AllReadyH.nil
  go_simp
  refine (HSm.out _ _ _ _ _ Da_v2.out Db.out).mono ?_
  rintro ee v3 ⟨rfl, hbk⟩
  have bv3 := below_viaD bv2 hbk
  have y0 := blk_cell (HK2.out _ bv3) 0
  have y1 := blk_cell (HK2.out _ bv3) 1
  have y2 := blk_free (HK2.out _ bv3) 0
  have y3 := blk_free (HK2.out _ bv3) 1
  have Da_v3 := Lib.hid (DS.go Da_v2.out hbk)
  have Db_v3 := Lib.hid (DS.go Db.out hbk)
  refine hK.out _ _ (HKs.out _ bv3) (fun hHeldSUB10 => ?_)
  clear hK K hHeldSUB9
  (try simp only [Act.put, List.setIfInBounds_toArray, List.set_cons_zero, List.set_cons_succ])
  refine take_named (i := 11) (d := 26) (v := ?vSUB11) rfl (by kernel_rfl) (by kernel_rfl) (by kernel_rfl) (by kernel_rfl) (fun _ _ _ h => h) (Or.inl ⟨by kernel_rfl, ?ySUB11⟩) (by assumption) ?_
  case ySUB11 => intro wq hSw; (try dsimp only at hSw); go_simp; (try with_reducible rfl)
  (try simp only [Act.put, List.setIfInBounds_toArray, List.set_cons_zero, List.set_cons_succ])
  refine take_named (i := 12) (d := 27) (v := ?vSUB12) rfl (by kernel_rfl) (by kernel_rfl) (by kernel_rfl) (by kernel_rfl) (fun _ _ _ h => h) (Or.inl ⟨by kernel_rfl, ?ySUB12⟩) (by assumption) ?_
  case ySUB12 => intro wq hSw; (try dsimp only at hSw); go_simp; (try with_reducible rfl)
  (try simp only [Act.put, List.setIfInBounds_toArray, List.set_cons_zero, List.set_cons_succ])
  refine wpAnyH_ready (rs := [13]) (by kernel_rfl) (by simp) ?_
  refine AllReadyH.cons rfl (fun K hK => ?_) AllReadyH.nil
  go_simp
  refine hK.out _ _ (⟨keepS (keepS (HKs.out _ bv3).1 (by show g + 1 + 1 ≠ g; omega) _) (by show g + 1 + 1 ≠ g; omega) _, keepS (keepS (HKs.out _ bv3).2.1 (by show g + 1 + 1 ≠ g; omega) _) (by show g + 1 + 1 ≠ g; omega) _, keepS (keepS (HKs.out _ bv3).2.2.1 (by show g + 1 + 1 ≠ g + 1; omega) _) (by show g + 1 + 1 ≠ g + 1; omega) _, keepS (keepS (HKs.out _ bv3).2.2.2 (by show g + 1 + 1 ≠ g + 1; omega) _) (by show g + 1 + 1 ≠ g + 1; omega) _⟩) (fun hHeldSUB13 => ?_)
  clear hK K hHeldSUB10
  (try simp only [Act.put, List.setIfInBounds_toArray, List.set_cons_zero, List.set_cons_succ])
  refine take_named (i := 14) (d := 5) (v := ?vSUB14) rfl (by kernel_rfl) (by kernel_rfl) (by kernel_rfl) (by kernel_rfl) (fun _ _ _ h => h) (Or.inl ⟨by kernel_rfl, ?ySUB14⟩) (by assumption) ?_
  case ySUB14 => intro wq hSw; (try dsimp only at hSw); go_simp; (try with_reducible rfl)
  (try simp only [Act.put, List.setIfInBounds_toArray, List.set_cons_zero, List.set_cons_succ])
  refine wpAnyH_done (by kernel_rfl) ?_ _
  clear hHeldSUB13
  have hbz := below_viaD HB2.out bv3
  have z := blk_set (blk_set (HK2.out _ bv3) 0 (.int .i64 x)) 1 (.int .i64 y)
  have z0 := blk_cell z 0
  have z1 := blk_cell z 1
  have hg12 : w.heap.size ≤ g + 1 + 1 := by have := Hgw.out; omega
  go_wp2
  exact bodyPost_ret (v := .tuple #[.agg #[.int .i64 x, .int .i64 y], .int .i64 E]) (by simp [results, Tryd.results46, go_sem, z0, z1]) rfl ⟨rfl, (hbz.setCell (p := ⟨g + 1 + 1, 0, none⟩) hg12 _).setCell (p := ⟨g + 1 + 1, 1, none⟩) hg12 _⟩

/-- How two numbers compare. -/
def cmpN (x y : Nat) : Int := if x < y then -1 else if y < x then 1 else 0

set_option maxRecDepth 100000 in
set_option maxHeartbeats 4000000 in
theorem r01cmpF (fn fd gn gd : Int) (w : World) (hfn : 0 ≤ fn ∧ fn ≤ 9223372036854775807) (hfd : 0 < fd ∧ fd ≤ 9223372036854775807) (hgn : 0 ≤ gn ∧ gn ≤ 9223372036854775807) (hgd : 0 < gd ∧ gd ≤ 9223372036854775807) (hf : rightF (fn, fd) = true) (hg2 : rightF (gn, gd) = true) :
    Calls Tryd.prog 41 #[.agg #[.int .i64 fn, .int .i64 fd], .agg #[.int .i64 gn, .int .i64 gd]] w fun e w' => e = .returned (.tuple #[.int .i64 (cmpN (fn.natAbs * gd.natAbs) (gn.natAbs * fd.natAbs)), .int .i64 0]) ∧ Below w.heap.size w w' := by
  have HR1 := Lib.hid (fun W => r01right fn fd W (by omega) (by omega))
  have HR2 := Lib.hid (fun W => r01right gn gd W (by omega) (by omega))
  rw [hf] at HR1
  rw [hg2] at HR2
  have HWa := Lib.hid (fun W => r01whole fn W (by omega))
  have HWb := Lib.hid (fun W => r01whole gn W (by omega))
  have HWc := Lib.hid (fun W => r01whole fd W (by omega))
  have HWd := Lib.hid (fun W => r01whole gd W (by omega))
  have l1 := ln_i64 (n := fn) (by omega)
  have l2 := ln_i64 (n := gn) (by omega)
  have l3 := ln_i64 (n := fd) (by omega)
  have l4 := ln_i64 (n := gd) (by omega)
  have HMa := Lib.hid (fun A B ca cb W h1 h2 => r01mul fn.natAbs gd.natAbs A B ca cb W h1 h2 (by omega) (by omega))
  have HMb := Lib.hid (fun A B ca cb W h1 h2 => r01mul gn.natAbs fd.natAbs A B ca cb W h1 h2 (by omega) (by omega))
  have hX := mul_ln8 l1 l4
  have hY := mul_ln8 l2 l3
  have HL1 := Lib.hid (fun A B ca cb W h1 h2 => r01less (fn.natAbs * gd.natAbs) (gn.natAbs * fd.natAbs) A B ca cb W h1 h2 (by omega) (by omega))
  have HL2 := Lib.hid (fun A B ca cb W h1 h2 => r01less (gn.natAbs * fd.natAbs) (fn.natAbs * gd.natAbs) A B ca cb W h1 h2 (by omega) (by omega))
  obtain ⟨E, hE⟩ : ∃ E, cmpN (fn.natAbs * gd.natAbs) (gn.natAbs * fd.natAbs) = E := ⟨_, rfl⟩
  rw [hE]
  have HE := Lib.hid hE
  have s1 : ¬ fn < 0 := by omega
  have s2 : decide (fn < 0) = false := decide_eq_false s1
  have t1 : ¬ gn < 0 := by omega
  have t2 : decide (gn < 0) = false := decide_eq_false t1
  skip
  obtain ⟨g, hg⟩ : ∃ g, w.heap.size = g := ⟨_, rfl⟩
  obtain ⟨W1, hW1⟩ : ∃ V, (w.alloc (.cells #[.int .i64 fn, .int .i64 fd] 23)).alloc (.cells #[.int .i64 gn, .int .i64 gd] 23) = V := ⟨_, rfl⟩
  have hb1 : Below w.heap.size w W1 := by rw [← hW1]; exact (by repeat (first | exact Below.refl _ _ | assumption | refine Below.drew ?_ | refine below_drewN ?_ _ | refine Below.alloc ?_ (by first | omega | (simp; done) | (simp; omega)) _ | refine Below.setCell ?_ (by first | omega | (simp; done) | (simp; omega)) _))
  have k0 : W1.heap[g]? = some (.cells #[.int .i64 fn, .int .i64 fd] 23 (0, 0)) := by rw [← hW1]; exact blk_alloc (blk_new _ hg.symm) _
  have k1 : W1.heap[g + 1]? = some (.cells #[.int .i64 gn, .int .i64 gd] 23 (0, 0)) := by rw [← hW1]; exact blk_new _ (by simp; omega)
  have HK := Lib.hid (fun (W : World) (hb : Below W1.heap.size W1 W) => (show W.heap[g]? = some (.cells #[.int .i64 fn, .int .i64 fd] 23 (0, 0)) ∧ W.heap[g + 1]? = some (.cells #[.int .i64 gn, .int .i64 gd] 23 (0, 0)) from ⟨blk_below k0 hb (blk_lt k0), blk_below k1 hb (blk_lt k1)⟩))
  have Hgw := Lib.hid (show w.heap.size ≤ g from Nat.le_of_eq hg)
  have HB1 := Lib.hid hb1
  have c0 := blk_cell k0 0
  have c1 := blk_cell k0 1
  clear hE hfn hfd hgn hgd hf hg2 hb1 k0 k1 l1 l2 l3 l4 hX hY
  go_enter Tryd.func41, Tryd.ntmps41
  go_wp2_with fail
  (try rw [hW1])
  (try rw [hg])
  clear hW1 hg
  refine (HR1.out _).mono ?_
  rintro ee u1 ⟨rfl, hr1⟩
  obtain ⟨k0, k1⟩ := HK.out _ hr1
  have c2 := blk_cell k1 0
  have c3 := blk_cell k1 1
  clear k0 k1 c0 c1
  go_wp2_with fail
  refine (HR2.out _).mono ?_
  rintro ee u2 ⟨rfl, hr2⟩
  have hr12 := below_viaD hr1 hr2
  obtain ⟨k0, k1⟩ := HK.out _ hr12
  have c0 := blk_cell k0 0
  have c1 := blk_cell k0 1
  have c2 := blk_cell k1 0
  have c3 := blk_cell k1 1
  have HKs := Lib.hid (fun (W : World) (hb : Below u2.heap.size u2 W) => (show W.cell? ⟨g, 0, none⟩ = some (.int .i64 fn) ∧ W.cell? ⟨g, 1, none⟩ = some (.int .i64 fd) ∧ W.cell? ⟨g + 1, 0, none⟩ = some (.int .i64 gn) ∧ W.cell? ⟨g + 1, 1, none⟩ = some (.int .i64 gd) from ⟨keepD hb (blk_lt k0) c0, keepD hb (blk_lt k0) c1, keepD hb (blk_lt k1) c2, keepD hb (blk_lt k1) c3⟩))
  have HB2 := Lib.hid (below_viaD HB1.out hr12)
  have hS0 : (fun wq : World => wq.cell? ⟨g, 0, none⟩ = some (.int .i64 fn) ∧ wq.cell? ⟨g, 1, none⟩ = some (.int .i64 fd) ∧ wq.cell? ⟨g + 1, 0, none⟩ = some (.int .i64 gn) ∧ wq.cell? ⟨g + 1, 1, none⟩ = some (.int .i64 gd)) u2 := ⟨c0, c1, c2, c3⟩
  have hB0 : Below u2.heap.size u2 u2.drew := (Below.refl _ _).drew
  clear hr1 hr2 hr12 k0 k1 HB1 HK HR1 HR2
  go_upto_region 7 with fail
  refine wp_region_held_drew (S := (fun wq => wq.cell? ⟨g, 0, none⟩ = some (.int .i64 fn) ∧ wq.cell? ⟨g, 1, none⟩ = some (.int .i64 fd) ∧ wq.cell? ⟨g + 1, 0, none⟩ = some (.int .i64 gn) ∧ wq.cell? ⟨g + 1, 1, none⟩ = some (.int .i64 gd))) (by kernel_rfl) hS0 (fun hHeldCMP => ?_)
  refine take_named (i := 0) (d := 32) (v := ?vCMP0) rfl (by kernel_rfl) (by kernel_rfl) (by kernel_rfl) (by kernel_rfl) (fun _ _ _ h => h) (Or.inl ⟨by kernel_rfl, ?yCMP0⟩) (by assumption) ?_
  case yCMP0 => intro wq hSw; (try dsimp only at hSw); go_simp; (try with_reducible rfl)
  (try simp only [Act.put, List.setIfInBounds_toArray, List.set_cons_zero, List.set_cons_succ])
  refine take_named (i := 1) (d := 33) (v := ?vCMP1) rfl (by kernel_rfl) (by kernel_rfl) (by kernel_rfl) (by kernel_rfl) (fun _ _ _ h => h) (Or.inl ⟨by kernel_rfl, ?yCMP1⟩) (by assumption) ?_
  case yCMP1 => intro wq hSw; (try dsimp only at hSw); go_simp; (try with_reducible rfl)
  (try simp only [Act.put, List.setIfInBounds_toArray, List.set_cons_zero, List.set_cons_succ])
  refine take_named (i := 3) (d := 35) (v := ?vCMP3) rfl (by kernel_rfl) (by kernel_rfl) (by kernel_rfl) (by kernel_rfl) (fun _ _ _ h => h) (Or.inl ⟨by kernel_rfl, ?yCMP3⟩) (by assumption) ?_
  case yCMP3 => intro wq hSw; (try dsimp only at hSw); go_simp; (try with_reducible rfl)
  (try simp only [Act.put, List.setIfInBounds_toArray, List.set_cons_zero, List.set_cons_succ])
  refine take_named (i := 4) (d := 36) (v := ?vCMP4) rfl (by kernel_rfl) (by kernel_rfl) (by kernel_rfl) (by kernel_rfl) (fun _ _ _ h => h) (Or.inl ⟨by kernel_rfl, ?yCMP4⟩) (by assumption) ?_
  case yCMP4 => intro wq hSw; (try dsimp only at hSw); go_simp; (try with_reducible rfl)
  (try simp only [Act.put, List.setIfInBounds_toArray, List.set_cons_zero, List.set_cons_succ])
  refine take_named (i := 7) (d := 39) (v := ?vCMP7) rfl (by kernel_rfl) (by kernel_rfl) (by kernel_rfl) (by kernel_rfl) (fun _ _ _ h => h) (Or.inl ⟨by kernel_rfl, ?yCMP7⟩) (by assumption) ?_
  case yCMP7 => intro wq hSw; (try dsimp only at hSw); go_simp; (try with_reducible rfl)
  (try simp only [Act.put, List.setIfInBounds_toArray, List.set_cons_zero, List.set_cons_succ])
  refine take_named (i := 8) (d := 40) (v := ?vCMP8) rfl (by kernel_rfl) (by kernel_rfl) (by kernel_rfl) (by kernel_rfl) (fun _ _ _ h => h) (Or.inl ⟨by kernel_rfl, ?yCMP8⟩) (by assumption) ?_
  case yCMP8 => intro wq hSw; (try dsimp only at hSw); go_simp; (try with_reducible rfl)
  (try simp only [Act.put, List.setIfInBounds_toArray, List.set_cons_zero, List.set_cons_succ])
  refine take_named (i := 10) (d := 42) (v := ?vCMP10) rfl (by kernel_rfl) (by kernel_rfl) (by kernel_rfl) (by kernel_rfl) (fun _ _ _ h => h) (Or.inl ⟨by kernel_rfl, ?yCMP10⟩) (by assumption) ?_
  case yCMP10 => intro wq hSw; (try dsimp only at hSw); go_simp; (try with_reducible rfl)
  (try simp only [Act.put, List.setIfInBounds_toArray, List.set_cons_zero, List.set_cons_succ])
  refine take_named (i := 11) (d := 43) (v := ?vCMP11) rfl (by kernel_rfl) (by kernel_rfl) (by kernel_rfl) (by kernel_rfl) (fun _ _ _ h => h) (Or.inl ⟨by kernel_rfl, ?yCMP11⟩) (by assumption) ?_
  case yCMP11 => intro wq hSw; (try dsimp only at hSw); go_simp; (try with_reducible rfl)
  (try simp only [Act.put, List.setIfInBounds_toArray, List.set_cons_zero, List.set_cons_succ])
  refine wpAnyH_ready (rs := [2]) (by kernel_rfl) (by simp) ?_
  refine AllReadyH.cons rfl (fun K hK => ?_) AllReadyH.nil
  go_simp
  refine (HWa.out _).mono ?_
  rintro ee v1 ⟨Aa, ca, rfl, hda, -, hba⟩
  have bv1 := below_viaD hB0 hba
  have DaC := Lib.hid hda
  refine hK.out _ _ (HKs.out _ bv1) (fun hHeldCMP2 => ?_)
  clear hK K hHeldCMP
  (try simp only [Act.put, List.setIfInBounds_toArray, List.set_cons_zero, List.set_cons_succ])
  refine wpAnyH_ready (rs := [5]) (by kernel_rfl) (by simp) ?_
  refine AllReadyH.cons rfl (fun K hK => ?_) AllReadyH.nil
  go_simp
  refine (HWd.out _).mono ?_
  rintro ee v2 ⟨Ab, cb, rfl, hdb, -, hbb⟩
  have bv2 := below_viaD bv1 hbb
  have DaC_v2 := Lib.hid (DS.go DaC.out hbb)
  have DbC := Lib.hid hdb
  refine hK.out _ _ (HKs.out _ bv2) (fun hHeldCMP5 => ?_)
  clear hK K hHeldCMP2
  (try simp only [Act.put, List.setIfInBounds_toArray, List.set_cons_zero, List.set_cons_succ])
  refine wpAnyH_ready (rs := [6]) (by kernel_rfl) (by simp) ?_
  refine AllReadyH.cons rfl (fun K hK => ?_) AllReadyH.nil
  go_simp
  refine (HMa.out _ _ _ _ _ DaC_v2.out DbC.out).mono ?_
  rintro ee v3 ⟨Ac, cc, rfl, hdc, -, hbc⟩
  have bv3 := below_viaD bv2 hbc
  have DaC_v3 := Lib.hid (DS.go DaC_v2.out hbc)
  have DbC_v3 := Lib.hid (DS.go DbC.out hbc)
  have DxC := Lib.hid hdc
  refine hK.out _ _ (HKs.out _ bv3) (fun hHeldCMP6 => ?_)
  clear hK K hHeldCMP5
  (try simp only [Act.put, List.setIfInBounds_toArray, List.set_cons_zero, List.set_cons_succ])
  refine wpAnyH_ready (rs := [9]) (by kernel_rfl) (by simp) ?_
  refine AllReadyH.cons rfl (fun K hK => ?_) AllReadyH.nil
  go_simp
  refine (HWb.out _).mono ?_
  rintro ee v4 ⟨Ad, cd, rfl, hdd, -, hbd⟩
  have bv4 := below_viaD bv3 hbd
  have DaC_v4 := Lib.hid (DS.go DaC_v3.out hbd)
  have DbC_v4 := Lib.hid (DS.go DbC_v3.out hbd)
  have DxC_v4 := Lib.hid (DS.go DxC.out hbd)
  have DdC := Lib.hid hdd
  refine hK.out _ _ (HKs.out _ bv4) (fun hHeldCMP9 => ?_)
  clear hK K hHeldCMP6
  (try simp only [Act.put, List.setIfInBounds_toArray, List.set_cons_zero, List.set_cons_succ])
  refine wpAnyH_ready (rs := [12]) (by kernel_rfl) (by simp) ?_
  refine AllReadyH.cons rfl (fun K hK => ?_) AllReadyH.nil
  go_simp
  refine (HWc.out _).mono ?_
  rintro ee v5 ⟨Ae, ce, rfl, hde, -, hbe⟩
  have bv5 := below_viaD bv4 hbe
  have DaC_v5 := Lib.hid (DS.go DaC_v4.out hbe)
  have DbC_v5 := Lib.hid (DS.go DbC_v4.out hbe)
  have DxC_v5 := Lib.hid (DS.go DxC_v4.out hbe)
  have DdC_v5 := Lib.hid (DS.go DdC.out hbe)
  have DeC := Lib.hid hde
  refine hK.out _ _ (HKs.out _ bv5) (fun hHeldCMP12 => ?_)
  clear hK K hHeldCMP9
  (try simp only [Act.put, List.setIfInBounds_toArray, List.set_cons_zero, List.set_cons_succ])
  refine wpAnyH_ready (rs := [13]) (by kernel_rfl) (by simp) ?_
  refine AllReadyH.cons rfl (fun K hK => ?_) AllReadyH.nil
  go_simp
  refine (HMb.out _ _ _ _ _ DdC_v5.out DeC.out).mono ?_
  rintro ee v6 ⟨Af, cf, rfl, hdf, -, hbf⟩
  have bv6 := below_viaD bv5 hbf
  have DaC_v6 := Lib.hid (DS.go DaC_v5.out hbf)
  have DbC_v6 := Lib.hid (DS.go DbC_v5.out hbf)
  have DxC_v6 := Lib.hid (DS.go DxC_v5.out hbf)
  have DdC_v6 := Lib.hid (DS.go DdC_v5.out hbf)
  have DeC_v6 := Lib.hid (DS.go DeC.out hbf)
  have DyC := Lib.hid hdf
  refine hK.out _ _ (HKs.out _ bv6) (fun hHeldCMP13 => ?_)
  clear hK K hHeldCMP12
  (try simp only [Act.put, List.setIfInBounds_toArray, List.set_cons_zero, List.set_cons_succ])
  refine take_named (i := 14) (d := 6) (v := ?vCMP14) rfl (by kernel_rfl) (by kernel_rfl) (by kernel_rfl) (by kernel_rfl) (fun _ _ _ h => h) (Or.inl ⟨by kernel_rfl, ?yCMP14⟩) (by assumption) ?_
  case yCMP14 => intro wq hSw; (try dsimp only at hSw); go_simp; (try with_reducible rfl)
  (try simp only [Act.put, List.setIfInBounds_toArray, List.set_cons_zero, List.set_cons_succ])
  refine take_named (i := 15) (d := 7) (v := ?vCMP15) rfl (by kernel_rfl) (by kernel_rfl) (by kernel_rfl) (by kernel_rfl) (fun _ _ _ h => h) (Or.inl ⟨by kernel_rfl, ?yCMP15⟩) (by assumption) ?_
  case yCMP15 => intro wq hSw; (try dsimp only at hSw); go_simp; (try with_reducible rfl)
  (try simp only [Act.put, List.setIfInBounds_toArray, List.set_cons_zero, List.set_cons_succ])
  refine wpAnyH_done (by kernel_rfl) ?_ _
  clear hHeldCMP13
  obtain ⟨d0, d1, d2, d3⟩ := HKs.out _ bv6
  have hbz := below_viaD HB2.out bv6
  have DX := DxC_v6
  have DY := DyC
  have HE2 := Lib.hid (show (if fn.natAbs * gd.natAbs < gn.natAbs * fd.natAbs then (-1 : Int) else if gn.natAbs * fd.natAbs < fn.natAbs * gd.natAbs then 1 else 0) = E from HE.out)
  generalize fn.natAbs * gd.natAbs = X at *
  generalize gn.natAbs * fd.natAbs = Y at *
  rcases Nat.lt_trichotomy X Y with h | h | h
  · have e1 : decide (X < Y) = true := decide_eq_true h
    have e2 : (-1 : Int) = E := by rw [← HE2.out, if_pos h]
    have E2 := Lib.hid e2
    rw [e1] at HL1
    clear e1 e2 h
    go_wp2_with fail
    refine (HL1.out _ _ _ _ _ DX.out DY.out).mono ?_
    rintro ee v7 ⟨rfl, n7, rfl⟩
    go_wp2
    go_ret2
    exact ⟨by rw [← E2.out]; rfl, below_drewN hbz n7⟩
  · have e1 : decide (X < Y) = false := decide_eq_false (by omega)
    have e3 : decide (Y < X) = false := decide_eq_false (by omega)
    have e2 : (0 : Int) = E := by rw [← HE2.out, if_neg (by omega), if_neg (by omega)]
    have E2 := Lib.hid e2
    rw [e1] at HL1
    rw [e3] at HL2
    clear e1 e2 e3 h
    go_wp2_with fail
    refine (HL1.out _ _ _ _ _ DX.out DY.out).mono ?_
    rintro ee v7 ⟨rfl, n7, rfl⟩
    go_wp2_with fail
    refine (HL2.out _ _ _ _ (v6.drewN n7) DY.out DX.out).mono ?_
    rintro ee v8 ⟨rfl, n8, rfl⟩
    go_wp2
    go_ret2
    exact ⟨by rw [← E2.out]; rfl, below_drewN hbz (n7 + n8)⟩
  · have e1 : decide (X < Y) = false := decide_eq_false (by omega)
    have e3 : decide (Y < X) = true := decide_eq_true h
    have e2 : (1 : Int) = E := by rw [← HE2.out, if_neg (by omega), if_pos h]
    have E2 := Lib.hid e2
    rw [e1] at HL1
    rw [e3] at HL2
    clear e1 e2 e3 h
    go_wp2_with fail
    refine (HL1.out _ _ _ _ _ DX.out DY.out).mono ?_
    rintro ee v7 ⟨rfl, n7, rfl⟩
    go_wp2_with fail
    refine (HL2.out _ _ _ _ (v6.drewN n7) DY.out DX.out).mono ?_
    rintro ee v8 ⟨rfl, n8, rfl⟩
    go_wp2
    go_ret2
    exact ⟨by rw [← E2.out]; rfl, below_drewN hbz (n7 + n8)⟩

end Go.Proofs.YtlobdeakgoicpaaDoor
