/- The walks of adjust.full and Sides. (Written by gensides.py.) -/
import Derived.Test.YtchklobblkddhaaGreatDoorAdjSideW
namespace Go.Proofs.YtchklobblkddhaaGreatDoor
open Go.RowKit

/-- A block known whole reads as a row. -/
theorem rd_blk_o {w : World} {g t n sz : Nat} {cs : Array Value} {fr : Nat × Nat} {xs : List Value} (h : w.heap[g]? = some (.cells cs t fr)) (o : Nat) (hx : xs.length = n * sz) (hc : ∀ j, j < xs.length → cs[o + j]? = xs[j]?) : Rd w w.heap.size sz (some ⟨g, o, none⟩) n xs :=
  ⟨hx, fun _ => ⟨g, o, rfl, blk_lt h, fun j hj => (blk_cell h (o + j)).trans (hc j hj)⟩⟩

set_option maxHeartbeats 1000000 in
theorem full_any (x : Oc) (w : World) :
    Calls Tryz.prog 47 #[.agg #[.int .u8 x.l, .int .u8 x.d, .int .u8 x.r, .int .u8 x.s, .int .i64 x.t, .int .i64 x.w]] w fun e w' => ∃ g, e = .returned (.slice (some ⟨g, 0, none⟩) 1 1) ∧ Rd w' w'.heap.size 6 (some ⟨g, 0, none⟩) 1 (ocC [fullO x]) ∧ Below w.heap.size w w' := by
  obtain ⟨x1, x2, x3, x4, x5, x6⟩ := x
  dsimp only
  go_enter Tryz.func47, Tryz.ntmps47
  go_wp2
  go_ret
  refine ⟨_, rfl, rd_blk_o (blk_new _ (by simp)) 0 rfl (fun j hj => ?_), (by repeat (first | exact Below.refl _ _ | assumption | refine Below.drew ?_ | refine below_drewN ?_ _ | refine Below.alloc ?_ (by first | omega | (simp; done) | (simp; omega)) _ | refine Below.setCell ?_ (by first | omega | (simp; done) | (simp; omega)) _))⟩
  rw [Nat.zero_add]
  simp [ocC, fullO]

theorem weight_n (L : List Oc) (vul : Int) (A : Option Addr) (n c : Nat) (hln : n = L.length) (w : World) (hn : L.length ≤ 4611686018427387904) (hv : 0 ≤ vul ∧ vul ≤ 255) (ho : ∀ x ∈ L, OcOk x) (hA : Rd w w.heap.size 6 A n (ocC L)) (hL : LaidS w) :
    Calls Tryz.prog 49 #[.slice A n c, .int .u8 vul] w fun e w' => WRes L vul w e w' := by
  subst hln; exact weight_any L vul A c w hn hv ho hA hL
theorem fullOk {x : Oc} (h : OcOk x) : ∀ y ∈ [fullO x], OcOk y := fun y hy => by
  rw [List.mem_singleton.1 hy]
  exact ⟨h.1, h.2.1, h.2.2.1, h.2.2.2.1, h.2.2.2.2.1, by show -9223372036854775808 ≤ (100 : Int) ∧ (100 : Int) ≤ 9223372036854775807; omega⟩
/-- An entry's first outcomes, as a row of its own variable. -/
theorem EnC.first {C : Array Value} {k f a0 a1 : Int} {o : Nat → Oc} (h : EnC C k f o a0 a1) {w : World} {g t : Nat} {fr : Nat × Nat} (hg : w.heap[g]? = some (.cells C t fr)) (n : Nat) (hn : n ≤ 4) : Rd w w.heap.size 6 (some ⟨g, 7, none⟩) n (ocC (firstO o n)) := by
  have hl : (ocC (firstO o n)).length = n * 6 := by rw [ocC_len, firstO_len]
  refine rd_blk_o hg 7 hl (fun j hj => ?_)
  obtain ⟨q, r, hr, rfl⟩ : ∃ q r, r < 6 ∧ j = q * 6 + r := ⟨j / 6, j % 6, Nat.mod_lt _ (by decide), by omega⟩
  have hq : q < n := by omega
  obtain ⟨d0, d1, d2, d3, d4, d5⟩ := h.2.2.2.2.2 q (by omega)
  obtain ⟨e0, e1, e2, e3, e4, e5⟩ := ocC_get (firstO o n) q (by rw [firstO_len]; exact hq)
  rw [firstO_get o n q hq] at e0 e1 e2 e3 e4 e5
  rw [← Nat.add_assoc]
  have hrr : r = 0 ∨ r = 1 ∨ r = 2 ∨ r = 3 ∨ r = 4 ∨ r = 5 := by omega
  rcases hrr with rfl | rfl | rfl | rfl | rfl | rfl
  · exact d0.trans e0.symm
  · exact d1.trans e1.symm
  · exact d2.trans e2.symm
  · exact d3.trans e3.symm
  · exact d4.trans e4.symm
  · exact d5.trans e5.symm

/-- What Sides returns for an entry that is compared. -/
def SRes (k vul : Int) (o : Nat → Oc) (w : World) (e : Ending) (w' : World) : Prop :=
  ∃ v1 v2, e = .returned (.tuple #[v1, v2, .int .i64 0]) ∧ w'.ownsRow w.heap.size 114 2 v1 (sideA k o).length (pC (wPts (sideA k o) vul)) ∧ w'.ownsRow w.heap.size 114 2 v2 (sideB k o).length (pC (negP (wPts (sideB k o) vul))) ∧ apart2 v1 v2 ∧ Below w.heap.size w w'

set_option maxRecDepth 100000 in
set_option maxHeartbeats 4000000 in
theorem sides_wrong (C : Array Value) (k f a0 a1 vul : Int) (o : Nat → Oc) (hC : EnC C k f o a0 a1) (ho : ∀ i, i < 4 → OcOk (o i)) (hf : 0 ≤ f ∧ f ≤ 255) (hk : 0 ≤ k ∧ k ≤ 255) (h : rightE k f o a0 a1 = false ∨ 3 < vul) (w : World) (hL : LaidS w) :
    Calls Tryz.prog 30 #[.agg C, .int .u8 vul] w fun e w' => e = .returned (.tuple #[.slice none 0 0, .slice none 0 0, .int .i64 2]) ∧ Below w.heap.size w w' := by
  obtain ⟨R, hR⟩ : ∃ R, rightE k f o a0 a1 = R := ⟨_, rfl⟩
  have HRg := Lib.hid (fun W hW => eright_any C k f a0 a1 o hC ho hf hk W hW)
  rw [hR] at HRg
  have HI := Lib.hid hC.size
  have HC := Lib.hid hC
  have HL := Lib.hid hL
  have d4 := hC.2.1
  have h : R = false ∨ 3 < vul := by rw [← hR]; exact h
  clear hC ho hL hR d4
  go_enter Tryz.func30, Tryz.ntmps30
  go_upto_region 1 with fail
  obtain ⟨W1, hW1⟩ : ∃ W1, w.alloc (.cells C 51) = W1 := ⟨_, rfl⟩
  obtain ⟨g, hg⟩ : ∃ g, w.heap.size = g := ⟨_, rfl⟩
  have k1 : W1.heap[g]? = some (.cells C 51) := by rw [← hW1]; exact blk_new _ hg.symm
  have hB1 : Below w.heap.size w W1 := by rw [← hW1]; exact (by repeat (first | exact Below.refl _ _ | assumption | refine Below.drew ?_ | refine below_drewN ?_ _ | refine Below.alloc ?_ (by first | omega | (simp; done) | (simp; omega)) _ | refine Below.setCell ?_ (by first | omega | (simp; done) | (simp; omega)) _))
  rw [hW1, hg]
  have HG := Lib.hid hg
  have HK := Lib.hid k1
  have g1 := blk_lt k1
  clear hW1 k1 hg
  go_wp2_with (refine wpList_load_row_w (by rfl) 51 (.tmp 2) rfl g rfl 51 C _ _ HK.out Tryz.underlying51 rfl HI.out ?_)
  refine (HRg.out _ (HL.out.go hB1)).mono ?_
  rintro ee w2 ⟨rfl, hb2⟩
  have HK2 := Lib.hid (blk_below HK.out hb2 g1)
  have g2 := blk_lt HK2.out
  have hB2 := below_via hB1 hb2
  clear hB1 hb2 HK g1
  cases R
  · go_wp2
    go_ret3
    exact ⟨rfl, hB2⟩
  · have h3 : 3 < vul := by rcases h with h | h; cases h; exact h
    go_wp2
    go_ret3
    exact ⟨rfl, hB2⟩

set_option maxRecDepth 100000 in
set_option maxHeartbeats 4000000 in
theorem sides_none (C : Array Value) (k f a0 a1 vul : Int) (o : Nat → Oc) (hC : EnC C k f o a0 a1) (ho : ∀ i, i < 4 → OcOk (o i)) (hf : 0 ≤ f ∧ f ≤ 255) (hk : 0 ≤ k ∧ k ≤ 255) (hv : 0 ≤ vul ∧ vul ≤ 3) (h : rightE k f o a0 a1 = true) (h04 : k = 0 ∨ k = 4) (w : World) (hL : LaidS w) :
    Calls Tryz.prog 30 #[.agg C, .int .u8 vul] w fun e w' => e = .returned (.tuple #[.slice none 0 0, .slice none 0 0, .int .i64 6]) ∧ Below w.heap.size w w' := by
  have HRg := Lib.hid (fun W hW => eright_any C k f a0 a1 o hC ho hf hk W hW)
  rw [h] at HRg
  have HI := Lib.hid hC.size
  have HC := Lib.hid hC
  have HL := Lib.hid hL
  have d4 := hC.2.1
  have v3 : vul ≤ 3 := hv.2
  have v3' : ¬ 3 < vul := by omega
  clear hC ho hL h
  go_enter Tryz.func30, Tryz.ntmps30
  go_upto_region 1 with fail
  obtain ⟨W1, hW1⟩ : ∃ W1, w.alloc (.cells C 51) = W1 := ⟨_, rfl⟩
  obtain ⟨g, hg⟩ : ∃ g, w.heap.size = g := ⟨_, rfl⟩
  have k1 : W1.heap[g]? = some (.cells C 51) := by rw [← hW1]; exact blk_new _ hg.symm
  have hB1 : Below w.heap.size w W1 := by rw [← hW1]; exact (by repeat (first | exact Below.refl _ _ | assumption | refine Below.drew ?_ | refine below_drewN ?_ _ | refine Below.alloc ?_ (by first | omega | (simp; done) | (simp; omega)) _ | refine Below.setCell ?_ (by first | omega | (simp; done) | (simp; omega)) _))
  rw [hW1, hg]
  have HG := Lib.hid hg
  have HK := Lib.hid k1
  have g1 := blk_lt k1
  clear hW1 k1 hg
  go_wp2_with (refine wpList_load_row_w (by rfl) 51 (.tmp 2) rfl g rfl 51 C _ _ HK.out Tryz.underlying51 rfl HI.out ?_)
  refine (HRg.out _ (HL.out.go hB1)).mono ?_
  rintro ee w2 ⟨rfl, hb2⟩
  have HK2 := Lib.hid (blk_below HK.out hb2 g1)
  have g2 := blk_lt HK2.out
  have hB2 := below_via hB1 hb2
  clear hB1 hb2 HK g1
  have e4 := (blk_cell HK2.out 4).trans d4
  clear d4
  rcases h04 with rfl | rfl
  · go_wp2
    go_ret3
    exact ⟨rfl, hB2⟩
  · go_wp2
    go_ret3
    exact ⟨rfl, hB2⟩

set_option maxRecDepth 100000 in
set_option maxHeartbeats 4000000 in
theorem sides_k1 (C : Array Value) (k f a0 a1 vul : Int) (o : Nat → Oc) (hC : EnC C k f o a0 a1) (ho : ∀ i, i < 4 → OcOk (o i)) (hf : 0 ≤ f ∧ f ≤ 255) (hk : 0 ≤ k ∧ k ≤ 255) (hv : 0 ≤ vul ∧ vul ≤ 3) (h : rightE k f o a0 a1 = true) (hkk : k = 1) (w : World) (hL : LaidS w) :
    Calls Tryz.prog 30 #[.agg C, .int .u8 vul] w fun e w' => SRes k vul o w e w' := by
  have HRg := Lib.hid (fun W hW => eright_any C k f a0 a1 o hC ho hf hk W hW)
  rw [h] at HRg
  have HI := Lib.hid hC.size
  have HC := Lib.hid hC
  have HL := Lib.hid hL
  have d4 := hC.2.1
  have hwo := sides_okB k f o a0 a1 h ho (by omega) vul hv.2
  have v3 : vul ≤ 3 := hv.2
  have v3' : ¬ 3 < vul := by omega
  have HF := Lib.hid (fun W => full_any (o 0) W)
  have hof := fullOk (ho 0 (by decide))
  subst hkk
  have eA : sideA 1 o = [fullO (o 0)] := rfl
  have eB : sideB 1 o = [fullO (o 0)] := rfl
  unfold SRes
  rw [eA, eB] at hwo ⊢
  have Hof := Lib.hid hof
  clear hC ho hL h eA eB hof
  go_enter Tryz.func30, Tryz.ntmps30
  go_upto_region 1 with fail
  obtain ⟨W1, hW1⟩ : ∃ W1, w.alloc (.cells C 51) = W1 := ⟨_, rfl⟩
  obtain ⟨g, hg⟩ : ∃ g, w.heap.size = g := ⟨_, rfl⟩
  have k1 : W1.heap[g]? = some (.cells C 51) := by rw [← hW1]; exact blk_new _ hg.symm
  have hB1 : Below w.heap.size w W1 := by rw [← hW1]; exact (by repeat (first | exact Below.refl _ _ | assumption | refine Below.drew ?_ | refine below_drewN ?_ _ | refine Below.alloc ?_ (by first | omega | (simp; done) | (simp; omega)) _ | refine Below.setCell ?_ (by first | omega | (simp; done) | (simp; omega)) _))
  rw [hW1, hg]
  have HG := Lib.hid hg
  have HK := Lib.hid k1
  have g1 := blk_lt k1
  clear hW1 k1 hg
  go_wp2_with (refine wpList_load_row_w (by rfl) 51 (.tmp 2) rfl g rfl 51 C _ _ HK.out Tryz.underlying51 rfl HI.out ?_)
  refine (HRg.out _ (HL.out.go hB1)).mono ?_
  rintro ee w2 ⟨rfl, hb2⟩
  have HK2 := Lib.hid (blk_below HK.out hb2 g1)
  have g2 := blk_lt HK2.out
  have hB2 := below_via hB1 hb2
  clear hB1 hb2 HK g1
  have e4 := (blk_cell HK2.out 4).trans d4
  clear d4
  obtain ⟨x0, x1, x2, x3, x4, x5⟩ := HC.out.cells HK2.out 0 (by decide)
  go_wp2_with fail
  refine (HF.out _).mono ?_
  rintro ee w3 ⟨gq, rfl, hrd, hb3⟩
  have HRd := Lib.hid hrd
  have hB3 := below_via hB2 hb3
  clear x0 x1 x2 x3 x4 x5 e4 hrd
  have HW1 := Lib.hid (weight_n [fullO (o 0)] vul (some ⟨gq, 0, none⟩) 1 1 (show 1 = [fullO (o 0)].length from rfl) w3 (by simp) ⟨hv.1, by omega⟩ Hof.out HRd.out (HL.out.go hB3))
  have HWO := Lib.hid hwo
  clear hwo
  go_wp2_with fail
  refine HW1.out.mono ?_
  rintro ee w4 hres
  rcases hres with ⟨hf2, -, -⟩ | ⟨-, v1, rfl, o1, hb4⟩
  · exact absurd (HWO.out.1.symm.trans hf2) (by decide)
  have HW2 := Lib.hid (weight_n [fullO (o 0)] vul (some ⟨gq, 0, none⟩) 1 1 (show 1 = [fullO (o 0)].length from rfl) w4 (by simp) ⟨hv.1, by omega⟩ Hof.out (HRd.out.go hb4) (HL.out.go (below_via hB3 hb4)))
  have s4 := hb4.size
  clear HW1
  go_wp2_with fail
  refine HW2.out.mono ?_
  rintro ee w5 hres
  rcases hres with ⟨hf2, -, -⟩ | ⟨-, v2, rfl, o2, hb5⟩
  · exact absurd (HWO.out.2.symm.trans hf2) (by decide)
  obtain ⟨A5, c5, rfl⟩ := own_form o2
  have hlen := wPts_len ([fullO (o 0)]) vul
  have HT : Hid (Calls Tryz.prog 50 #[.slice A5 ([fullO (o 0)]).length c5] w5 fun e w' => ∃ v, e = .returned (.tuple #[v, .int .i64 0]) ∧ w'.ownsRow w5.heap.size 114 2 v ([fullO (o 0)]).length (pC (negP (wPts ([fullO (o 0)]) vul))) ∧ Below w5.heap.size w5 w') := Lib.hid (by
    have hrd : Rd w5 w5.heap.size 2 A5 (wPts ([fullO (o 0)]) vul).length (pC (wPts ([fullO (o 0)]) vul)) := by rw [hlen]; exact Rd.of_own o2
    have h := turn_any (wPts ([fullO (o 0)]) vul) A5 c5 w5 hrd ((wOk_iff _ _).1 HWO.out.2).2.2.2
    rw [hlen] at h
    exact h)
  have s5 := hb5.size
  have hB4 := below_via hB3 hb4
  have hB5 := below_via hB4 hb5
  have hws := hB3.size
  have O1 := Lib.hid (own_mono (own_below o1 hb5 (Nat.le_refl _)) hws)
  clear HW2 o2 hlen o1
  go_wp2_with fail
  refine HT.out.mono ?_
  rintro ee w6 ⟨v3, rfl, o3, hb6⟩
  have hB6 := below_via hB5 hb6
  have O1b := Lib.hid (own_below O1.out hb6 (Nat.le_refl _))
  have hap := Lib.hid (apart_new O1.out o3 (Nat.le_refl _))
  have O3 := Lib.hid (own_mono o3 hB5.size)
  clear O1 o3 HT
  go_wp2
  go_ret3
  exact ⟨v1, v3, rfl, O1b.out, O3.out, hap.out, hB6⟩

set_option maxRecDepth 100000 in
set_option maxHeartbeats 4000000 in
theorem sides_k2 (C : Array Value) (k f a0 a1 vul : Int) (o : Nat → Oc) (hC : EnC C k f o a0 a1) (ho : ∀ i, i < 4 → OcOk (o i)) (hf : 0 ≤ f ∧ f ≤ 255) (hk : 0 ≤ k ∧ k ≤ 255) (hv : 0 ≤ vul ∧ vul ≤ 3) (h : rightE k f o a0 a1 = true) (hkk : k = 2) (w : World) (hL : LaidS w) :
    Calls Tryz.prog 30 #[.agg C, .int .u8 vul] w fun e w' => SRes k vul o w e w' := by
  have HRg := Lib.hid (fun W hW => eright_any C k f a0 a1 o hC ho hf hk W hW)
  rw [h] at HRg
  have HI := Lib.hid hC.size
  have HC := Lib.hid hC
  have HL := Lib.hid hL
  have d4 := hC.2.1
  have hwo := sides_okB k f o a0 a1 h ho (by omega) vul hv.2
  have v3 : vul ≤ 3 := hv.2
  have v3' : ¬ 3 < vul := by omega
  have HP := Lib.hid (fun W => parts_any C k f a0 a1 o hC W)
  have hn4 : partsN o ≤ 4 := parts_le o 4
  have hof : ∀ x ∈ firstO o (partsN o), OcOk x := fun x hx => by
    obtain ⟨i, hi, rfl⟩ := List.mem_map.1 hx
    exact ho i (by have := List.mem_range.1 hi; omega)
  subst hkk
  have eA : sideA 2 o = firstO o (partsN o) := rfl
  have eB : sideB 2 o = firstO o (partsN o) := rfl
  unfold SRes
  rw [eA, eB] at hwo ⊢
  generalize partsN o = n at *
  have Hof := Lib.hid hof
  clear hC ho hL h eA eB hof
  go_enter Tryz.func30, Tryz.ntmps30
  go_upto_region 1 with fail
  obtain ⟨W1, hW1⟩ : ∃ W1, w.alloc (.cells C 51) = W1 := ⟨_, rfl⟩
  obtain ⟨g, hg⟩ : ∃ g, w.heap.size = g := ⟨_, rfl⟩
  have k1 : W1.heap[g]? = some (.cells C 51) := by rw [← hW1]; exact blk_new _ hg.symm
  have hB1 : Below w.heap.size w W1 := by rw [← hW1]; exact (by repeat (first | exact Below.refl _ _ | assumption | refine Below.drew ?_ | refine below_drewN ?_ _ | refine Below.alloc ?_ (by first | omega | (simp; done) | (simp; omega)) _ | refine Below.setCell ?_ (by first | omega | (simp; done) | (simp; omega)) _))
  rw [hW1, hg]
  have HG := Lib.hid hg
  have HK := Lib.hid k1
  have g1 := blk_lt k1
  clear hW1 k1 hg
  go_wp2_with (refine wpList_load_row_w (by rfl) 51 (.tmp 2) rfl g rfl 51 C _ _ HK.out Tryz.underlying51 rfl HI.out ?_)
  refine (HRg.out _ (HL.out.go hB1)).mono ?_
  rintro ee w2 ⟨rfl, hb2⟩
  have HK2 := Lib.hid (blk_below HK.out hb2 g1)
  have g2 := blk_lt HK2.out
  have hB2 := below_via hB1 hb2
  clear hB1 hb2 HK g1
  have e4 := (blk_cell HK2.out 4).trans d4
  clear d4
  have m0 : (0 : Int) ≤ (n : Int) := by omega
  have m1 : (n : Int) ≤ 4 := by omega
  go_wp2_with (refine wpList_load_row_w (by rfl) 51 (.tmp 2) rfl g rfl 51 C _ _ HK2.out Tryz.underlying51 rfl HI.out ?_)
  refine (HP.out _).mono ?_
  rintro ee w3 ⟨rfl, hb3⟩
  have HRd := Lib.hid (HC.out.first (blk_below HK2.out hb3 g2) n hn4)
  have hB3 := below_via hB2 hb3
  clear e4
  have HW1 := Lib.hid (weight_n (firstO o n) vul (some ⟨g, 7, none⟩) n 4 (firstO_len o n).symm w3 (by rw [firstO_len]; omega) ⟨hv.1, by omega⟩ Hof.out HRd.out (HL.out.go hB3))
  have HWO := Lib.hid hwo
  clear hwo
  go_wp2_with fail
  refine HW1.out.mono ?_
  rintro ee w4 hres
  rcases hres with ⟨hf2, -, -⟩ | ⟨-, v1, rfl, o1, hb4⟩
  · exact absurd (HWO.out.1.symm.trans hf2) (by decide)
  have HW2 := Lib.hid (weight_n (firstO o n) vul (some ⟨g, 7, none⟩) n 4 (firstO_len o n).symm w4 (by rw [firstO_len]; omega) ⟨hv.1, by omega⟩ Hof.out (HRd.out.go hb4) (HL.out.go (below_via hB3 hb4)))
  have s4 := hb4.size
  clear HW1
  go_wp2_with fail
  refine HW2.out.mono ?_
  rintro ee w5 hres
  rcases hres with ⟨hf2, -, -⟩ | ⟨-, v2, rfl, o2, hb5⟩
  · exact absurd (HWO.out.2.symm.trans hf2) (by decide)
  obtain ⟨A5, c5, rfl⟩ := own_form o2
  have hlen := wPts_len ((firstO o n)) vul
  have HT : Hid (Calls Tryz.prog 50 #[.slice A5 ((firstO o n)).length c5] w5 fun e w' => ∃ v, e = .returned (.tuple #[v, .int .i64 0]) ∧ w'.ownsRow w5.heap.size 114 2 v ((firstO o n)).length (pC (negP (wPts ((firstO o n)) vul))) ∧ Below w5.heap.size w5 w') := Lib.hid (by
    have hrd : Rd w5 w5.heap.size 2 A5 (wPts ((firstO o n)) vul).length (pC (wPts ((firstO o n)) vul)) := by rw [hlen]; exact Rd.of_own o2
    have h := turn_any (wPts ((firstO o n)) vul) A5 c5 w5 hrd ((wOk_iff _ _).1 HWO.out.2).2.2.2
    rw [hlen] at h
    exact h)
  have s5 := hb5.size
  have hB4 := below_via hB3 hb4
  have hB5 := below_via hB4 hb5
  have hws := hB3.size
  have O1 := Lib.hid (own_mono (own_below o1 hb5 (Nat.le_refl _)) hws)
  clear HW2 o2 hlen o1
  go_wp2_with fail
  refine HT.out.mono ?_
  rintro ee w6 ⟨v3, rfl, o3, hb6⟩
  have hB6 := below_via hB5 hb6
  have O1b := Lib.hid (own_below O1.out hb6 (Nat.le_refl _))
  have hap := Lib.hid (apart_new O1.out o3 (Nat.le_refl _))
  have O3 := Lib.hid (own_mono o3 hB5.size)
  clear O1 o3 HT
  go_wp2
  go_ret3
  exact ⟨v1, v3, rfl, O1b.out, O3.out, hap.out, hB6⟩

set_option maxRecDepth 100000 in
set_option maxHeartbeats 4000000 in
theorem sides_k3 (C : Array Value) (k f a0 a1 vul : Int) (o : Nat → Oc) (hC : EnC C k f o a0 a1) (ho : ∀ i, i < 4 → OcOk (o i)) (hf : 0 ≤ f ∧ f ≤ 255) (hk : 0 ≤ k ∧ k ≤ 255) (hv : 0 ≤ vul ∧ vul ≤ 3) (h : rightE k f o a0 a1 = true) (hkk : k = 3) (w : World) (hL : LaidS w) :
    Calls Tryz.prog 30 #[.agg C, .int .u8 vul] w fun e w' => SRes k vul o w e w' := by
  have HRg := Lib.hid (fun W hW => eright_any C k f a0 a1 o hC ho hf hk W hW)
  rw [h] at HRg
  have HI := Lib.hid hC.size
  have HC := Lib.hid hC
  have HL := Lib.hid hL
  have d4 := hC.2.1
  have hwo := sides_okB k f o a0 a1 h ho (by omega) vul hv.2
  have v3 : vul ≤ 3 := hv.2
  have v3' : ¬ 3 < vul := by omega
  have HF := Lib.hid (fun W => full_any (o 0) W)
  have HF2 := Lib.hid (fun W => full_any (o 1) W)
  have hof := fullOk (ho 0 (by decide))
  have hof2 := fullOk (ho 1 (by decide))
  subst hkk
  have eA : sideA 3 o = [fullO (o 0)] := rfl
  have eB : sideB 3 o = [fullO (o 1)] := rfl
  unfold SRes
  rw [eA, eB] at hwo ⊢
  have Hof := Lib.hid hof
  have Hof2 := Lib.hid hof2
  clear hC ho hL h eA eB hof hof2
  go_enter Tryz.func30, Tryz.ntmps30
  go_upto_region 1 with fail
  obtain ⟨W1, hW1⟩ : ∃ W1, w.alloc (.cells C 51) = W1 := ⟨_, rfl⟩
  obtain ⟨g, hg⟩ : ∃ g, w.heap.size = g := ⟨_, rfl⟩
  have k1 : W1.heap[g]? = some (.cells C 51) := by rw [← hW1]; exact blk_new _ hg.symm
  have hB1 : Below w.heap.size w W1 := by rw [← hW1]; exact (by repeat (first | exact Below.refl _ _ | assumption | refine Below.drew ?_ | refine below_drewN ?_ _ | refine Below.alloc ?_ (by first | omega | (simp; done) | (simp; omega)) _ | refine Below.setCell ?_ (by first | omega | (simp; done) | (simp; omega)) _))
  rw [hW1, hg]
  have HG := Lib.hid hg
  have HK := Lib.hid k1
  have g1 := blk_lt k1
  clear hW1 k1 hg
  go_wp2_with (refine wpList_load_row_w (by rfl) 51 (.tmp 2) rfl g rfl 51 C _ _ HK.out Tryz.underlying51 rfl HI.out ?_)
  refine (HRg.out _ (HL.out.go hB1)).mono ?_
  rintro ee w2 ⟨rfl, hb2⟩
  have HK2 := Lib.hid (blk_below HK.out hb2 g1)
  have g2 := blk_lt HK2.out
  have hB2 := below_via hB1 hb2
  clear hB1 hb2 HK g1
  have e4 := (blk_cell HK2.out 4).trans d4
  clear d4
  obtain ⟨x0, x1, x2, x3, x4, x5⟩ := HC.out.cells HK2.out 0 (by decide)
  obtain ⟨y0, y1, y2, y3, y4, y5⟩ := HC.out.cells HK2.out 1 (by decide)
  have hd2 : Below w2.heap.size w2 w2.drew := (Below.refl _ _).drew
  have HKW := Lib.hid (fun (W : World) (hW : Below w2.heap.size w2 W) => And.intro (HC.out.cells (blk_below HK2.out hW g2) 0 (by decide)) (HC.out.cells (blk_below HK2.out hW g2) 1 (by decide)))
  go_upto_region 13 with fail
  go_region_held3 (fun w' => (w'.cell? ⟨g, 7, none⟩ = some (.int .u8 (o 0).l) ∧ w'.cell? ⟨g, 8, none⟩ = some (.int .u8 (o 0).d) ∧ w'.cell? ⟨g, 9, none⟩ = some (.int .u8 (o 0).r) ∧ w'.cell? ⟨g, 10, none⟩ = some (.int .u8 (o 0).s) ∧ w'.cell? ⟨g, 11, none⟩ = some (.int .i64 (o 0).t) ∧ w'.cell? ⟨g, 12, none⟩ = some (.int .i64 (o 0).w)) ∧ (w'.cell? ⟨g, 13, none⟩ = some (.int .u8 (o 1).l) ∧ w'.cell? ⟨g, 14, none⟩ = some (.int .u8 (o 1).d) ∧ w'.cell? ⟨g, 15, none⟩ = some (.int .u8 (o 1).r) ∧ w'.cell? ⟨g, 16, none⟩ = some (.int .u8 (o 1).s) ∧ w'.cell? ⟨g, 17, none⟩ = some (.int .i64 (o 1).t) ∧ w'.cell? ⟨g, 18, none⟩ = some (.int .i64 (o 1).w))) (first | exact ⟨⟨x0, x1, x2, x3, x4, x5⟩, ⟨y0, y1, y2, y3, y4, y5⟩⟩ | exact HKW.out _ hbm | exact HKW.out _ hbn)
    ((first | (go_at_call 47; (with_reducible refine (HF.out _).mono ?_); rintro ee wm ⟨gq, rfl, hrd, hbm0⟩; have hbm := hd2.trans (hbm0.mono hd2.size)) | (go_at_call 47; (with_reducible refine (HF2.out _).mono ?_); rintro ee wn ⟨gr, rfl, hrd2, hbn0⟩; have hbn := hbm.trans (hbn0.mono hbm.size))))
  have HRd := Lib.hid (hrd.go hbn0)
  have HRd2 := Lib.hid hrd2
  have hB3 := below_via hB2 hbn
  clear x0 x1 x2 x3 x4 x5 y0 y1 y2 y3 y4 y5 e4 hrd hrd2 HKW
  have HW1 := Lib.hid (weight_n [fullO (o 0)] vul (some ⟨gq, 0, none⟩) 1 1 (show 1 = [fullO (o 0)].length from rfl) wn (by simp) ⟨hv.1, by omega⟩ Hof.out HRd.out (HL.out.go hB3))
  have HWO := Lib.hid hwo
  clear hwo
  go_wp2_with fail
  refine HW1.out.mono ?_
  rintro ee w4 hres
  rcases hres with ⟨hf2, -, -⟩ | ⟨-, v1, rfl, o1, hb4⟩
  · exact absurd (HWO.out.1.symm.trans hf2) (by decide)
  have HW2 := Lib.hid (weight_n [fullO (o 1)] vul (some ⟨gr, 0, none⟩) 1 1 (show 1 = [fullO (o 1)].length from rfl) w4 (by simp) ⟨hv.1, by omega⟩ Hof2.out (HRd2.out.go hb4) (HL.out.go (below_via hB3 hb4)))
  have s4 := hb4.size
  clear HW1
  go_wp2_with fail
  refine HW2.out.mono ?_
  rintro ee w5 hres
  rcases hres with ⟨hf2, -, -⟩ | ⟨-, v2, rfl, o2, hb5⟩
  · exact absurd (HWO.out.2.symm.trans hf2) (by decide)
  obtain ⟨A5, c5, rfl⟩ := own_form o2
  have hlen := wPts_len ([fullO (o 1)]) vul
  have HT : Hid (Calls Tryz.prog 50 #[.slice A5 ([fullO (o 1)]).length c5] w5 fun e w' => ∃ v, e = .returned (.tuple #[v, .int .i64 0]) ∧ w'.ownsRow w5.heap.size 114 2 v ([fullO (o 1)]).length (pC (negP (wPts ([fullO (o 1)]) vul))) ∧ Below w5.heap.size w5 w') := Lib.hid (by
    have hrd : Rd w5 w5.heap.size 2 A5 (wPts ([fullO (o 1)]) vul).length (pC (wPts ([fullO (o 1)]) vul)) := by rw [hlen]; exact Rd.of_own o2
    have h := turn_any (wPts ([fullO (o 1)]) vul) A5 c5 w5 hrd ((wOk_iff _ _).1 HWO.out.2).2.2.2
    rw [hlen] at h
    exact h)
  have s5 := hb5.size
  have hB4 := below_via hB3 hb4
  have hB5 := below_via hB4 hb5
  have hws := hB3.size
  have O1 := Lib.hid (own_mono (own_below o1 hb5 (Nat.le_refl _)) hws)
  clear HW2 o2 hlen o1
  go_wp2_with fail
  refine HT.out.mono ?_
  rintro ee w6 ⟨v3, rfl, o3, hb6⟩
  have hB6 := below_via hB5 hb6
  have O1b := Lib.hid (own_below O1.out hb6 (Nat.le_refl _))
  have hap := Lib.hid (apart_new O1.out o3 (Nat.le_refl _))
  have O3 := Lib.hid (own_mono o3 hB5.size)
  clear O1 o3 HT
  go_wp2
  go_ret3
  exact ⟨v1, v3, rfl, O1b.out, O3.out, hap.out, hB6⟩

theorem sides_some (C : Array Value) (k f a0 a1 vul : Int) (o : Nat → Oc) (hC : EnC C k f o a0 a1) (ho : ∀ i, i < 4 → OcOk (o i)) (hf : 0 ≤ f ∧ f ≤ 255) (hk : 0 ≤ k ∧ k ≤ 255) (hv : 0 ≤ vul ∧ vul ≤ 3) (h : rightE k f o a0 a1 = true) (hkk : k = 1 ∨ k = 2 ∨ k = 3) (w : World) (hL : LaidS w) :
    Calls Tryz.prog 30 #[.agg C, .int .u8 vul] w fun e w' => SRes k vul o w e w' := by
  rcases hkk with h1 | h1 | h1
  · exact sides_k1 C k f a0 a1 vul o hC ho hf hk hv h h1 w hL
  · exact sides_k2 C k f a0 a1 vul o hC ho hf hk hv h h1 w hL
  · exact sides_k3 C k f a0 a1 vul o hC ho hf hk hv h h1 w hL

end Go.Proofs.YtchklobblkddhaaGreatDoor
