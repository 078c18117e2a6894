/- The walk of the statement ParMore. -/
import Derived.Test.YtilekdjjfdehcaaDoorParPts
namespace Go.Proofs.YtilekdjjfdehcaaDoor
open Go.RowKit

/-- More tricks for a side never cost it points. -/
theorem more_law (t t' : Nat → Nat → Int) (hr : rightT t = true) (hr' : rightT t' = true) (d0 s0 : Nat) (ht : ∀ d s, d < 5 → s < 4 → t' d s = if d = d0 ∧ s = s0 then t d s + 1 else t d s) (v : Int) (s : Nat) (hs : s ≤ 1) :
    wo (s0 % 2) (parV (finG t v) s) ≤ wo (s0 % 2) (parV (finG t' v) s) := by
  refine par_mono (finG t v) (finG t' v) (s0 % 2) (by omega) (fun b s h3 h37 hs => ?_) s hs
  rw [finG_B t v b s h3 h37 hs, finG_B t' v b s h3 h37 hs]
  have hd := dnm_bd b
  by_cases e : s = s0 % 2
  · subst e
    rw [wo_wo, wo_wo]
    refine ptB_mono v b _ h3 h37 _ _ (bstN_bd hr hd (by omega)).1 ?_ (bstN_bd hr' hd (by omega)).2
    have h1 : t (dnm b) (s0 % 2) ≤ t' (dnm b) (s0 % 2) := by rw [ht _ _ hd (by omega)]; split <;> omega
    have h2 : t (dnm b) (s0 % 2 + 2) ≤ t' (dnm b) (s0 % 2 + 2) := by rw [ht _ _ hd (by omega)]; split <;> omega
    unfold bstN
    split <;> split <;> omega
  · have h1 : t' (dnm b) s = t (dnm b) s := by rw [ht _ _ hd (by omega), if_neg (by omega)]
    have h2 : t' (dnm b) (s + 2) = t (dnm b) (s + 2) := by rw [ht _ _ hd (by omega), if_neg (by omega)]
    have h3 : bstN t' (dnm b) s = bstN t (dnm b) s := by unfold bstN; rw [h1, h2]
    rw [h3]
    exact Int.le_refl _
/-- The table with a trick more. -/
def addT (t : Nat → Nat → Int) (d0 s0 : Nat) (d s : Nat) : Int := if d = d0 ∧ s = s0 then t d s + 1 else t d s
theorem addT_right (t : Nat → Nat → Int) (h : rightT t = true) (d0 s0 : Nat) (hd : d0 < 5) (hs : s0 < 4) (hx : ¬ t d0 s0 = 13) : rightT (addT t d0 s0) = true := by
  refine (rightT_iff _).2 fun d s h1 h2 => decide_eq_true ?_
  have a := rightT_bd h h1 h2
  have c := rightT_bd h hd hs
  unfold addT
  split
  · rename_i e
    obtain ⟨rfl, rfl⟩ := e
    omega
  · exact a

set_option maxRecDepth 100000 in
set_option maxHeartbeats 4000000 in
theorem parMore_walk (A : Array Value) (l : Nat → Int) (hA : BytC A l) (vul : Int) (hv : 0 ≤ vul ∧ vul ≤ 255) (dl : Int) (hd : 0 ≤ dl ∧ dl ≤ 255) (dn : Int) (hn : 0 ≤ dn ∧ dn ≤ 255) (st : Int) (hs : 0 ≤ st ∧ st ≤ 255) (w : World) (hL : LaidS w) :
    Calls Tryd.prog 4 #[.agg A, .int .u8 vul, .int .u8 dl, .int .u8 dn, .int .u8 st] w fun e w' => e = .returned (.bool true) ∧ Below w.heap.size w w' := by
  have HM := Lib.hid (fun W => made18 A l hA W)
  have HR := Lib.hid (mdT_right l (fun i hi => (hA.2 i hi).2))
  have HL := Lib.hid hL
  have HIA := Lib.hid (show (Tryd.prog.info? 22).map (·.size) = some A.size by rw [hA.1]; kernel_rfl)
  obtain ⟨v, hvv⟩ : ∃ v : Nat, vul % 4 = v := ⟨(vul % 4).toNat, by omega⟩
  obtain ⟨d, hdd⟩ : ∃ d : Nat, dl % 4 = d := ⟨(dl % 4).toNat, by omega⟩
  obtain ⟨e, hee⟩ : ∃ e : Nat, dn % 5 = e := ⟨(dn % 5).toNat, by omega⟩
  obtain ⟨s, hss⟩ : ∃ s : Nat, st % 4 = s := ⟨(st % 4).toNat, by omega⟩
  have hv3 : v ≤ 3 := by omega
  have hd3 : d ≤ 3 := by omega
  have he5 : e < 5 := by omega
  have hs4 : s < 4 := by omega
  generalize mdT l = t at HM HR
  clear hA hL
  go_enter Tryd.func4, Tryd.ntmps4
  go_upto_region 1 with fail
  obtain ⟨W1, hW1⟩ : ∃ W1, w.alloc (.cells A 22) = W1 := ⟨_, rfl⟩
  obtain ⟨g, hg⟩ : ∃ g, w.heap.size = g := ⟨_, rfl⟩
  have HK := Lib.hid (show W1.heap[g]? = some (.cells A 22) by rw [← hW1]; exact blk_new _ hg.symm)
  have hB1 : Below w.heap.size w W1 := by rw [← hW1]; exact (by repeat (first | exact Below.refl _ _ | assumption | refine Below.drew ?_ | refine below_drewN ?_ _ | refine Below.alloc ?_ (by first | omega | (simp; done) | (simp; omega)) _ | refine Below.setCell ?_ (by first | omega | (simp; done) | (simp; omega)) _))
  rw [hW1, hg]
  clear hW1 hg
  go_wp2_with (refine wpList_load_row rfl 22 (.tmp 5) rfl g rfl 22 A _ _ HK.out Tryd.underlying22 rfl HIA.out ?_)
  refine (HM.out _).mono ?_
  rintro ee w2 ⟨C, rfl, hC, hb2⟩
  have hB2 := below_via hB1 hb2
  have HC := Lib.hid hC
  clear hB1 hb2 HK hC
  go_upto_region 2 with (first | (refine plain_alloc_to rfl 25 rfl tabZ tabZ_zero ?_) | (refine wpList_store_new rfl 25 _ _ rfl C _ _ rfl rfl HC.out.info (tabZ_tab.1.trans HC.out.1.symm) HC.out.one ?_))
  obtain ⟨W3, hW3⟩ : ∃ W3, w2.alloc (.cells C 25) = W3 := ⟨_, rfl⟩
  obtain ⟨g, hg⟩ : ∃ g, w2.heap.size = g := ⟨_, rfl⟩
  have HK := Lib.hid (show W3.heap[g]? = some (.cells C 25 (0, 0)) by rw [← hW3]; exact blk_new _ hg.symm)
  have hgs : W3.heap.size = g + 1 := by rw [← hW3, ← hg]; simp
  have hB3 : Below w.heap.size w W3 := by rw [← hW3]; exact hB2.alloc hB2.size _
  rw [hW3, hg]
  clear hW3 hg hB2
  go_upto_region 3 with (first | (refine wpList_load_row rfl 25 (.tmp 11) rfl g rfl 25 C _ _ HK.out Tryd.underlying25 rfl HC.out.info ?_) | (refine plain_alloc_to rfl 25 rfl tabZ tabZ_zero ?_) | (refine wpList_store_new rfl 25 _ _ rfl C _ _ rfl rfl HC.out.info (tabZ_tab.1.trans HC.out.1.symm) HC.out.one ?_))
  try simp only [World.size_alloc]
  obtain ⟨W4, hW4⟩ : ∃ W4, W3.alloc (.cells C 25) = W4 := ⟨_, rfl⟩
  have HK2 := Lib.hid (show W4.heap[g + 1]? = some (.cells C 25 (0, 0)) by rw [← hW4]; exact blk_new _ hgs.symm)
  replace HK := Lib.hid (show W4.heap[g]? = some (.cells C 25 (0, 0)) by rw [← hW4]; exact blk_alloc HK.out _)
  have hB4 : Below w.heap.size w W4 := by rw [← hW4]; exact hB3.alloc hB3.size _
  rw [hW4, hgs]
  have hgg : w.heap.size ≤ g + 1 := by have := hB3.size; omega
  clear hW4 hB3 hgs
  have q0 := (blk_cell HK2.out (e * 4 + s)).trans (HC.out.2 e s he5 hs4)
  have f0 := blk_free HK2.out (e * 4 + s)
  have ce : (e : Int) < 5 := by omega
  have cs : (s : Int) < 4 := by omega
  have htb := rightT_bd HR.out he5 hs4
  by_cases h13 : t e s = 13
  · have HAw := Lib.hid (awake18 W4 (HL.out.go hB4))
    rw [h13] at q0
    go_wp2_with fail
    refine HAw.out.mono ?_
    rintro ee w9 ⟨rfl, hb9⟩
    have hBz := Lib.hid (below_via hB4 hb9)
    go_wp2
    go_ret
    exact ⟨rfl, hBz.out⟩
  · have HR' := Lib.hid (addT_right t HR.out e s he5 hs4 h13)
    have HC' := Lib.hid (HC.out.set (t' := addT t e s) e s he5 hs4 (t e s + 1) (fun d' s' _ _ => by unfold addT; by_cases h : d' = e ∧ s' = s; (rw [if_pos h, if_pos h, h.1, h.2]); (rw [if_neg h, if_neg h])))
    have hlw := more_law t (addT t e s) HR.out HR'.out e s (fun _ _ _ _ => rfl) v (d % 2) (by omega)
    have hp1 := parV_bd _ (finG_bd t HR.out v) (d % 2) (by omega)
    have hp2 := parV_bd _ (finG_bd (addT t e s) HR'.out v) (d % 2) (by omega)
    have HP1 := Lib.hid (fun W hW => ppar_pts C t HC.out v d hv3 hd3 HR.out W hW)
    have HP2 := Lib.hid (fun W hW => ppar_pts _ (addT t e s) HC'.out v d hv3 hd3 HR'.out W hW)
    unfold ParR at HP1 HP2
    generalize addT t e s = t' at HC' HP2 hlw hp2 HR'
    generalize parV (finG t v) (d % 2) = n at HP1 hlw hp1
    generalize parV (finG t' v) (d % 2) = m at HP2 hlw hp2
    generalize t e s = y at q0 HC' HP2 h13 htb
    have hw1 : IntKind.i64.wrap (y + 1) = y + 1 := IntWalk.i64_in _ (by omega)
    have hr1 : dn.tmod 5 = (e : Int) := (Int.tmod_eq_emod_of_nonneg hn.1).trans hee
    have hr2 : IntKind.u8.wrap (e : Int) = (e : Int) := IntWalk.u8_in _ (by omega)
    have ce0 : (0 : Int) ≤ (e : Int) := by omega
    have cs0 : (0 : Int) ≤ (s : Int) := by omega
    clear hee hss hdd hvv htb
    go_upto_region 5 with fail
    go_region
    obtain ⟨C', hC'⟩ : ∃ C', C.setIfInBounds (e * 4 + s) (.int .i64 (y + 1)) = C' := ⟨_, rfl⟩
    obtain ⟨W5, hW5⟩ : ∃ W5, (W4.setCell ⟨g + 1, e * 4 + s, none⟩ (.int .i64 (y + 1))).drew = W5 := ⟨_, rfl⟩
    have J1 := Lib.hid (show W5.heap[g + 1]? = some (.cells C' 25 (0, 0)) by rw [← hW5, ← hC']; exact blk_set HK2.out _ _)
    have J0 := Lib.hid (show W5.heap[g]? = some (.cells C 25 (0, 0)) by rw [← hW5]; exact blk_far HK.out (by show g ≠ g + 1; omega) _)
    have hB5 : Below w.heap.size w W5 := by rw [← hW5]; exact (below_drewN (hB4.setCell (p := ⟨g + 1, e * 4 + s, none⟩) hgg _) 1)
    rw [hC'] at HC' HP2
    rw [hW5]
    clear hC' hW5 HK HK2 q0 f0 hB4 hr1 hr2 ce0 cs0 hw1
    go_wp2_with (refine wpList_load_row rfl 25 (.tmp 11) rfl g rfl 25 C _ _ J0.out Tryd.underlying25 rfl HC.out.info ?_)
    refine (HP1.out _ (HL.out.go hB5)).mono ?_
    rintro ee w6 ⟨c1, c2, c3, c4, c5, c6, rfl, hb6⟩
    have hB6 := below_via hB5 hb6
    replace J1 := Lib.hid (blk_below J1.out hb6 (blk_lt J1.out))
    clear J0 hb6 hB5
    go_upto_region 7 with fail
    obtain ⟨W7, hW7⟩ : ∃ W7, w6.alloc (.cells #[.int .u8 c1, .int .u8 c2, .int .u8 c3, .int .u8 c4, .int .i64 c5, .int .i64 c6] 30) = W7 := ⟨_, rfl⟩
    replace J1 := Lib.hid (show W7.heap[g + 1]? = some (.cells C' 25 (0, 0)) by rw [← hW7]; exact blk_alloc J1.out _)
    have hB7 : Below w.heap.size w W7 := by rw [← hW7]; exact hB6.alloc hB6.size _
    rw [hW7]
    clear hW7 hB6
    go_wp2_with (refine wpList_load_row rfl 25 (.tmp 15) rfl (g + 1) rfl 25 C' _ _ J1.out Tryd.underlying25 rfl HC'.out.info ?_)
    refine (HP2.out _ (HL.out.go hB7)).mono ?_
    rintro ee w8 ⟨k1, k2, k3, k4, k5, k6, rfl, hb8⟩
    have hB8 := below_via hB7 hb8
    clear J1 hb8 hB7
    have hsm : (s : Int) % 2 = ((s % 2 : Nat) : Int) := by omega
    have hsl : s % 2 ≤ 1 := by omega
    generalize s % 2 = q at hsm hsl hlw
    have HO1 := Lib.hid (fun W => ours_any n (by omega) q hsl W)
    have HO2 := Lib.hid (fun W => ours_any m (by omega) q hsl W)
    have hge : ¬ wo q m < wo q n := by omega
    generalize wo q m = P2 at HO2 hlw hge
    generalize wo q n = P1 at HO1 hlw hge
    go_upto_region 8 with fail
    obtain ⟨W9, hW9⟩ : ∃ W9, w8.alloc (.cells #[.int .u8 k1, .int .u8 k2, .int .u8 k3, .int .u8 k4, .int .i64 k5, .int .i64 k6] 30) = W9 := ⟨_, rfl⟩
    have hB9 : Below w.heap.size w W9 := by rw [← hW9]; exact hB8.alloc hB8.size _
    rw [hW9]
    clear hW9 hB8
    have HAw := Lib.hid (awake18 W9 (HL.out.go hB9))
    go_wp2_with fail
    refine (HO2.out _).mono ?_
    rintro ee wa ⟨rfl, rfl⟩
    go_wp2_with fail
    refine (HO1.out _).mono ?_
    rintro ee wa ⟨rfl, rfl⟩
    go_wp2_with fail
    refine HAw.out.mono ?_
    rintro ee wb ⟨rfl, hb10⟩
    have hBz := Lib.hid (below_via hB9 hb10)
    go_wp2
    go_ret
    exact ⟨rfl, hBz.out⟩

end Go.Proofs.YtilekdjjfdehcaaDoor
