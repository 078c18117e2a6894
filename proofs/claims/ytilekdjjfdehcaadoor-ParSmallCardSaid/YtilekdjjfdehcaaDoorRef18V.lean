/- The reference finesseref18: Values. -/
import Derived.Test.YtilekdjjfdehcaaDoorRef18G
import Derived.Test.YtilekdjjfdehcaaDoorRef18C
namespace Go.Proofs.YtilekdjjfdehcaaDoor
open Go.RowKit

/-- What Values returns. -/
def RVal (t : Nat → Nat → Int) (v : Nat) (w : World) (e : Ending) (w' : World) : Prop := ∃ B, e = .returned (.agg B) ∧ VC B (valV (finG t v) 2 0) ∧ Below w.heap.size w w'

set_option maxRecDepth 100000 in
set_option maxHeartbeats 2000000 in
theorem r18values (C : Array Value) (t : Nat → Nat → Int) (hC : TabC C t) (v : Nat) (hv : v ≤ 3) (h : rightT t = true) (w : World) :
    Calls Tryd.prog 37 #[.agg C, .int .i64 (v : Int)] w (RVal t v w) := by
  have HF := Lib.hid (fun (b s : Nat) (h3 : 3 ≤ b) (h37 : b ≤ 37) (hs : s ≤ 1) W => r18final_ok C t hC v b s hv h3 h37 hs h W)
  have HI := Lib.hid (show (Tryd.prog.info? 58).map (·.size) = some C.size by rw [hC.1]; kernel_rfl)
  have HG := Lib.hid (finG_bd t h v)
  have HFG := Lib.hid (show ∀ b s, 3 ≤ b → b ≤ 37 → s ≤ 1 → finF t v b s = finG t v b s from fun b s h1 h2 h3 => by unfold finG; rw [if_pos ⟨h1, h2, h3⟩])
  unfold RVal
  generalize finG t v = f at *
  clear h hC
  go_enter Tryd.func37, Tryd.ntmps37
  go_upto_region 2 with (refine plain_alloc_to rfl 81 rfl vcZ vc_zero ?_)
  obtain ⟨g, hg⟩ : ∃ g, w.heap.size = g := ⟨_, rfl⟩
  rw [show ((w.alloc (.cells C 58)).alloc (.cells vcZ 81)).heap.size = g + 1 + 1 by simp; omega, show (w.alloc (.cells C 58)).heap.size = g + 1 by simp; omega]
  obtain ⟨W1, hW1⟩ : ∃ W1, ((w.alloc (.cells C 58)).alloc (.cells vcZ 81)).alloc (.cells vcZ 81) = W1 := ⟨_, rfl⟩
  have K0 := Lib.hid (show W1.heap[g]? = some (.cells C 58) by rw [← hW1]; exact blk_alloc (blk_alloc (blk_new _ hg.symm) _) _)
  have K1 := Lib.hid (show W1.heap[g + 1]? = some (.cells vcZ 81) by rw [← hW1]; exact blk_alloc (blk_new _ (by simp [hg])) _)
  have K2 := Lib.hid (show W1.heap[g + 1 + 1]? = some (.cells vcZ 81) by rw [← hW1]; exact blk_new _ (by simp [hg]))
  have hB1 : Below w.heap.size w W1 := by rw [← hW1]; exact (by repeat (first | exact Below.refl _ _ | assumption | refine Below.drew ?_ | refine below_drewN ?_ _ | refine Below.alloc ?_ (by first | omega | (simp; done) | (simp; omega)) _ | refine Below.setCell ?_ (by first | omega | (simp; done) | (simp; omega)) _))
  have hgw : w.heap.size ≤ g := by omega
  rw [hW1, hg]
  clear hW1 hg
  go_wp2_with fail
  go_loopw [6] (fun i wr => ∃ b : Nat, 2 ≤ b ∧ b ≤ 37 ∧ i = .int .i64 (b : Int) ∧ Hid (wr.heap[g]? = some (.cells C 58 (0, 0))) ∧ Hid (wr.heap[g + 1]? = some (.cells vcZ 81 (0, 0))) ∧
    Hid (∃ D, wr.heap[g + 1 + 1]? = some (.cells D 81 (0, 0)) ∧ VC D (valV f b 0)) ∧ Below w.heap.size w wr) (fun i _ => (intOf i).toNat)
  case atStart => exact ⟨37, by omega, by omega, rfl, K0.out, K1.out, ⟨vcZ, K2.out, vcZ_ok f⟩, hB1⟩
  case round =>
    obtain ⟨b, hb2, hb37, rfl, J0, J1, J2, hbel⟩ := hrel
    rename World => wx
    clear K0 K1 K2 hB1
    by_cases hlt : 3 ≤ b
    · have c0 : (3 : Int) ≤ (b : Int) := by omega
      have Hbel := Lib.hid hbel
      clear hbel
      go_upto_region 6 with fail
      go_loopw [7] (fun i wr => ∃ s : Nat, s ≤ 2 ∧ i = .int .i64 (s : Int) ∧ Hid (wr.heap[g]? = some (.cells C 58 (0, 0))) ∧ Hid (wr.heap[g + 1]? = some (.cells vcZ 81 (0, 0))) ∧
        Hid (∃ D, wr.heap[g + 1 + 1]? = some (.cells D 81 (0, 0)) ∧ VC D (valV f b s)) ∧ Below w.heap.size w wr) (fun i _ => 2 - (intOf i).toNat)
      case atStart => exact ⟨0, by omega, rfl, J0.out, J1.out, J2.out, Hbel.out⟩
      case round =>
        clear J0 J1 J2 Hbel
        obtain ⟨s, hs, rfl, J0, J1, J2, hbel⟩ := hrel
        rename World => wy
        by_cases hls : s < 2
        · obtain ⟨D, jL2, hD⟩ := J2.out
          have L2 := Lib.hid jL2
          have HD := Lib.hid hD
          obtain ⟨r, hr⟩ : ∃ r, 1 - s = r := ⟨_, rfl⟩
          have hr1 : (1 : Int) - (s : Int) = (r : Int) := by omega
          have hrb : r ≤ 1 := by omega
          have HFr := Lib.hid (fun W => HF.out b r hlt hb37 hrb W)
          rw [HFG.out b r hlt hb37 hrb] at HFr
          have hp := HG.out b r
          have hlC : lC f b s = chO f b s (f b r) := by unfold lC; rw [hr]
          have HCh := Lib.hid (fun W => r18choose D _ HD.out (valV_bd f HG.out b s (by omega)) s b (by omega) (f b r) hp W)
          rw [rcV_eq f b s b s (by omega) (by omega) (by omega) (f b r), ← hlC] at HCh
          have HV := Lib.hid (hD.set b s (lC f b s).2 (valV_self f b s hb37 (by omega)) (fun b' s' _ _ hne => valV_other f b s b' s' hne) (by omega))
          unfold ocV at HFr
          generalize f b r = P at *
          generalize lvl b = z1 at *
          generalize rsk t b r = z3 at *
          generalize bstS t (dnm b) r = z4 at *
          generalize bstN t (dnm b) r = z5 at *
          generalize dnm b = z2 at *
          generalize lC f b s = cc at *
          obtain ⟨a1, a2⟩ := cc
          dsimp only at HCh HV
          clear jL2 J2 hD hr hlC
          go_wp2_with (refine wpList_load_row rfl 58 (.tmp 2) rfl g rfl 58 C _ _ J0.out Tryd.underlying58 rfl HI.out ?_)
          refine (HFr.out _).mono ?_
          rintro ee w3 ⟨rfl, hb3⟩
          go_upto_region 9 with fail
          obtain ⟨W3, hW3⟩ : ∃ W3, w3.alloc (.cells #[.int .u8 z1, .int .u8 (z2 : Int), .int .u8 z3, .int .u8 (z4 : Int), .int .i64 z5, .int .i64 0] 30) = W3 := ⟨_, rfl⟩
          have hb4 : Below wy.heap.size wy W3.drew := by rw [← hW3]; exact (hb3.alloc hb3.size _).drew
          rw [hW3]
          clear hW3 hb3
          replace J0 := Lib.hid (blk_below J0.out hb4 (blk_lt J0.out))
          replace J1 := Lib.hid (blk_below J1.out hb4 (blk_lt J1.out))
          replace L2 := Lib.hid (blk_below L2.out hb4 (blk_lt L2.out))
          replace hbel := hbel.trans (hb4.mono hbel.size)
          have Hbel := Lib.hid hbel
          clear hbel hb4
          have hb38 : (b : Int) < 38 := by omega
          have hs2 : (s : Int) < 2 := by omega
          refine wp_region_held_drew (S := fun _ => True) (by kernel_rfl) trivial (fun hHeld => ?_)
          refine take_named (i := 0) (d := 29) (v := ?v0) rfl (by kernel_rfl) (by kernel_rfl) (by kernel_rfl) (by kernel_rfl) (fun _ _ _ h => h) (Or.inl ⟨by kernel_rfl, ?y0⟩) (by assumption) ?_
          case y0 => intro wq hSw; (try dsimp only at hSw); go_simp; (try with_reducible rfl)
          (try simp only [Act.put, List.setIfInBounds_toArray, List.set_cons_zero, List.set_cons_succ])
          refine take_named (i := 1) (d := 30) (v := ?v1) rfl (by kernel_rfl) (by kernel_rfl) (by kernel_rfl) (by kernel_rfl) (fun _ _ _ h => h) (Or.inl ⟨by kernel_rfl, ?y1⟩) (by assumption) ?_
          case y1 => intro wq hSw; (try dsimp only at hSw); go_simp; (try with_reducible rfl)
          (try simp only [Act.put, List.setIfInBounds_toArray, List.set_cons_zero, List.set_cons_succ])
          refine take_named (i := 3) (d := 32) (v := ?v3) rfl (by kernel_rfl) (by kernel_rfl) (by kernel_rfl) (by kernel_rfl) (fun _ _ _ h => h) (Or.inl ⟨by kernel_rfl, ?y3⟩) (by assumption) ?_
          case y3 => intro wq hSw; (try dsimp only at hSw); go_simp; (try with_reducible rfl)
          (try simp only [Act.put, List.setIfInBounds_toArray, List.set_cons_zero, List.set_cons_succ])
          refine take_named (i := 4) (d := 33) (v := ?v4) rfl (by kernel_rfl) (by kernel_rfl) (by kernel_rfl) (by kernel_rfl) (fun _ _ _ h => h) (Or.inl ⟨by kernel_rfl, ?y4⟩) (by assumption) ?_
          case y4 => intro wq hSw; (try dsimp only at hSw); go_simp; (try with_reducible rfl)
          (try simp only [Act.put, List.setIfInBounds_toArray, List.set_cons_zero, List.set_cons_succ])
          refine take_named (i := 5) (d := 34) (v := ?v5) rfl (by kernel_rfl) (by kernel_rfl) (by kernel_rfl) (by kernel_rfl) (fun _ _ _ h => h) (Or.inl ⟨by kernel_rfl, ?y5⟩) (by assumption) ?_
          case y5 => intro wq hSw; (try dsimp only at hSw); go_simp; (try with_reducible rfl)
          (try simp only [Act.put, List.setIfInBounds_toArray, List.set_cons_zero, List.set_cons_succ])
          refine take_named (i := 8) (d := 37) (v := ?v8) rfl (by kernel_rfl) (by kernel_rfl) (by kernel_rfl) (by kernel_rfl) (fun _ _ _ h => h) (Or.inl ⟨by kernel_rfl, ?y8⟩) (by assumption) ?_
          case y8 => intro wq hSw; (try dsimp only at hSw); go_simp; (try with_reducible rfl)
          (try simp only [Act.put, List.setIfInBounds_toArray, List.set_cons_zero, List.set_cons_succ])
          refine wpAnyH_ready (rs := [2]) (by kernel_rfl) (by simp) ?_
          refine AllReadyH.cons rfl (fun K hK => ?_) AllReadyH.nil
          rw [if_pos (by kernel_rfl)]
          refine wp_load_row 81 (.tmp 5) rfl (g + 1 + 1) rfl 81 D _ _ L2.out Tryd.underlying81 rfl HD.out.info ?_
          refine hK.out _ _ trivial (fun hHeld1 => ?_)
          clear hK K hHeld
          simp only [Act.put, List.setIfInBounds_toArray]
          refine wpAnyH_ready (rs := [6]) (by kernel_rfl) (by simp) ?_
          refine AllReadyH.cons rfl (fun K hK => ?_) AllReadyH.nil
          go_simp
          refine (HCh.out _).mono ?_
          rintro e w5 ⟨rfl, hb5⟩
          refine hK.out _ _ trivial (fun hHeld2 => ?_)
          clear hK K hHeld1
          (try simp only [Act.put, List.setIfInBounds_toArray, List.set_cons_zero, List.set_cons_succ])
          replace J0 := Lib.hid (blk_below J0.out hb5 (blk_lt J0.out))
          replace J1 := Lib.hid (blk_below J1.out hb5 (blk_lt J1.out))
          replace L2 := Lib.hid (blk_below L2.out hb5 (blk_lt L2.out))
          replace Hbel := Lib.hid (Hbel.out.trans (hb5.mono Hbel.out.size))
          clear hb5
          have hfd : ∀ W : World, (Instr.field 84 (.agg #[.int .i64 (a1 : Int), .int .i64 a2]) 1).run Tryd.prog W = .ok (.int .i64 a2) W := fun _ => by kernel_rfl
          refine take_named (i := 7) (d := 36) (v := ?v7) rfl (by kernel_rfl) (by kernel_rfl) (by kernel_rfl) (by kernel_rfl) (fun _ _ _ h => h) (Or.inl ⟨by kernel_rfl, ?y7⟩) (by assumption) ?_
          case y7 => intro wq hSw; (try dsimp only at hSw); go_simp; (try with_reducible rfl)
          (try simp only [Act.put, List.setIfInBounds_toArray, List.set_cons_zero, List.set_cons_succ])
          refine take_named (i := 9) (d := 38) (v := ?v9) rfl (by kernel_rfl) (by kernel_rfl) (by kernel_rfl) (by kernel_rfl) (fun _ _ _ h => h) (Or.inl ⟨by kernel_rfl, ?y9⟩) (by assumption) ?_
          case y9 => intro wq hSw; (try dsimp only at hSw); go_simp; (try with_reducible rfl)
          (try simp only [Act.put, List.setIfInBounds_toArray, List.set_cons_zero, List.set_cons_succ])
          have q0 := (blk_cell L2.out (b * 2 + s)).trans (HD.out.2.2 b s hb37 (by omega))
          have f0 := blk_free L2.out (b * 2 + s)
          refine wpAnyH_ready (rs := [10]) (by kernel_rfl) (by simp) ?_
          refine AllReadyH.cons rfl (fun K hK => ?_) AllReadyH.nil
          go_simp
          refine hK.out _ _ trivial (fun hHeld3 => ?_)
          clear hK K hHeld2 hHeld3
          (try simp only [Act.put, List.setIfInBounds_toArray, List.set_cons_zero, List.set_cons_succ])
          refine wpAnyH_done (by kernel_rfl) ?_ _
          have HE := Lib.hid (Hbel.out.setCell (p := ⟨g + 1 + 1, b * 2 + s, none⟩) (by show w.heap.size ≤ g + 1 + 1; omega) (.int .i64 a2))
          have H2 := Lib.hid (blk_set L2.out (b * 2 + s) (.int .i64 a2))
          have H1 := Lib.hid (blk_far J1.out (p := ⟨g + 1 + 1, b * 2 + s, none⟩) (by show g + 1 ≠ g + 1 + 1; omega) (.int .i64 a2))
          have H0 := Lib.hid (blk_far J0.out (p := ⟨g + 1 + 1, b * 2 + s, none⟩) (by show g ≠ g + 1 + 1; omega) (.int .i64 a2))
          clear q0 f0 J0 J1 L2 Hbel
          go_wp2
          go_roundw
          case rel => exact ⟨s + 1, by omega, by go_num, H0.out, H1.out, ⟨_, H2.out, HV.out⟩, HE.out⟩
          case measure => simp [intOf]; omega
        · obtain rfl : s = 2 := by omega
          obtain ⟨D, jL2, hD⟩ := J2.out
          obtain ⟨d, rfl⟩ : ∃ d, b = d + 1 := ⟨b - 1, by omega⟩
          have hd : ((d + 1 : Nat) : Int) - 1 = (d : Int) := by omega
          have L2 := Lib.hid jL2
          have HD := Lib.hid (hD.congr (V' := valV f d 0) (fun b' s' _ hs' => valV_next f d b' s' hs'))
          have Hbel := Lib.hid hbel
          clear jL2 J2 hD hbel
          go_wp2
          go_roundw
          case rel => exact ⟨d, by omega, by omega, by go_num, J0.out, J1.out, ⟨_, L2.out, HD.out⟩, Hbel.out⟩
          case measure => simp [intOf]
    · obtain rfl : b = 2 := by omega
      obtain ⟨D, jL2, hD⟩ := J2.out
      have L2 := Lib.hid jL2
      have HD := Lib.hid hD
      have Hbel := Lib.hid hbel
      clear jL2 J2 hD hbel
      go_wp2_with (first | (refine wpList_load_row rfl 81 (.tmp 5) rfl (g + 1 + 1) rfl 81 D _ _ L2.out Tryd.underlying81 rfl HD.out.info ?_) | (refine wpList_store_row rfl 81 _ _ rfl (g + 1) D rfl rfl 81 vcZ J1.out HD.out.info (by rw [HD.out.1]; rfl) HD.out.2.1 ?_))
      refine bodyPost_ret (v := .agg D) ?_ rfl ⟨D, rfl, HD.out, below_setRow Hbel.out (by omega : w.heap.size ≤ g + 1) D⟩
      exact results_cell_row (P := Tryd.prog) rfl _ _ (g + 1) 81 D (0, 0) _ rfl (setRow_heap wx (g + 1) vcZ D _ _ J1.out) Tryd.underlying81 rfl HD.out.info

end Go.Proofs.YtilekdjjfdehcaaDoor
