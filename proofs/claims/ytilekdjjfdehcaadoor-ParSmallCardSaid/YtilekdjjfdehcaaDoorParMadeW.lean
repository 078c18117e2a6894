/- The walk of Made: a right table of small numbers. -/
import Derived.Test.YtilekdjjfdehcaaDoorParAwakeW
namespace Go.Proofs.YtilekdjjfdehcaaDoor
open Go.RowKit

/-- What Made makes of twenty bytes. -/
def mdT (l : Nat → Int) (d s : Nat) : Int := if s % 2 = 1 then (if 13 - l (d * 4 + (s - 1)) % 14 + l (d * 4 + s) / 14 % 2 < l (d * 4 + s) % 14 then 13 - l (d * 4 + (s - 1)) % 14 + l (d * 4 + s) / 14 % 2 else l (d * 4 + s) % 14) else l (d * 4 + s) % 14
theorem mdT_ok (l : Nat → Int) (h : ∀ i, i < 20 → 0 ≤ l i ∧ l i ≤ 255) (d s : Nat) (hd : d < 5) (hs : s < 4) : 0 ≤ mdT l d s ∧ mdT l d s ≤ 13 := by
  have h1 := h (d * 4 + s) (by omega)
  have h2 := h (d * 4 + (s - 1)) (by omega)
  unfold mdT
  split
  · split <;> omega
  · omega
theorem mdT_right (l : Nat → Int) (h : ∀ i, i < 20 → 0 ≤ l i ∧ l i ≤ 255) : rightT (mdT l) = true :=
  (rightT_iff _).2 fun d s hd hs => decide_eq_true (mdT_ok l h d s hd hs)
/-- The cells of twenty bytes. -/
def BytC (A : Array Value) (l : Nat → Int) : Prop := A.size = 20 ∧ ∀ i, i < 20 → A[i]? = some (.int .u8 (l i)) ∧ 0 ≤ l i ∧ l i ≤ 255
/-- The table as far as it is made. -/
def mdP (l : Nat → Int) (n : Nat) (d s : Nat) : Int := if d * 4 + s < n then mdT l d s else 0
theorem mdP_next (l : Nat → Int) (d s : Nat) (hs : s < 4) (d' s' : Nat) (hs' : s' < 4) : mdP l (d * 4 + s + 1) d' s' = if d' = d ∧ s' = s then mdT l d s else mdP l (d * 4 + s) d' s' := by
  unfold mdP
  by_cases h : d' = d ∧ s' = s
  · obtain ⟨rfl, rfl⟩ := h
    rw [if_pos (by omega), if_pos ⟨rfl, rfl⟩]
  · rw [if_neg h]
    by_cases h2 : d' * 4 + s' < d * 4 + s
    · rw [if_pos (by omega), if_pos h2]
    · rw [if_neg (by omega), if_neg h2]
theorem TabC.set {C : Array Value} {t t' : Nat → Nat → Int} (h : TabC C t) (d s : Nat) (hd : d < 5) (hs : s < 4) (x : Int) (ht : ∀ d' s', d' < 5 → s' < 4 → t' d' s' = if d' = d ∧ s' = s then x else t d' s') : TabC (C.setIfInBounds (d * 4 + s) (.int .i64 x)) t' := by
  refine ⟨by simp [h.1], fun d' s' hd' hs' => ?_⟩
  rw [Array.getElem?_setIfInBounds, ht d' s' hd' hs', h.1]
  by_cases he : d' = d ∧ s' = s
  · obtain ⟨rfl, rfl⟩ := he
    rw [if_pos rfl, if_pos (by omega), if_pos ⟨rfl, rfl⟩]
  · rw [if_neg (by omega), if_neg he]
    exact h.2 d' s' hd' hs'
theorem TabC.one {C : Array Value} {t : Nat → Nat → Int} (h : TabC C t) : C.all (·.oneCell') = true := by
  rw [Array.all_eq_true]
  intro i hi
  have := h.2 (i / 4) (i % 4) (by have := h.1; omega) (by omega)
  rw [show i / 4 * 4 + i % 4 = i by omega, Array.getElem?_eq_getElem hi] at this
  rw [Option.some.inj this]; rfl

set_option maxRecDepth 100000 in
set_option maxHeartbeats 2000000 in
theorem made18 (A : Array Value) (l : Nat → Int) (hA : BytC A l) (w : World) :
    Calls Tryd.prog 11 #[.agg A] w fun e w' => ∃ C, e = .returned (.agg C) ∧ TabC C (mdT l) ∧ Below w.heap.size w w' := by
  have HA := Lib.hid hA
  clear hA
  go_enter Tryd.func11, Tryd.ntmps11
  go_upto_region 2 with (refine plain_alloc_to rfl 25 rfl tabZ tabZ_zero ?_)
  simp only [World.size_alloc]
  obtain ⟨W1, hW1⟩ : ∃ W1, ((w.alloc (.cells A 22)).alloc (.cells tabZ 25)).alloc (.cells tabZ 25) = W1 := ⟨_, rfl⟩
  obtain ⟨g, hg⟩ : ∃ g, w.heap.size = g := ⟨_, rfl⟩
  have K0 := Lib.hid (show W1.heap[g]? = some (.cells A 22 (0, 0)) by rw [← hW1]; exact blk_alloc (blk_alloc (blk_new _ hg.symm) _) _)
  have K1 := Lib.hid (show W1.heap[g + 1]? = some (.cells tabZ 25 (0, 0)) by rw [← hW1]; exact blk_alloc (blk_new _ (by simp [hg])) _)
  have K2 := Lib.hid (show W1.heap[g + 1 + 1]? = some (.cells tabZ 25 (0, 0)) by rw [← hW1]; exact blk_new _ (by simp [hg]))
  have hB1 : Below g w W1 := by rw [← hW1, ← hg]; exact (by repeat (first | exact Below.refl _ _ | assumption | refine Below.drew ?_ | refine below_drewN ?_ _ | refine Below.alloc ?_ (by first | omega | (simp; done) | (simp; omega)) _ | refine Below.setCell ?_ (by first | omega | (simp; done) | (simp; omega)) _))
  rw [hW1, hg]
  have HG := Lib.hid hg
  clear hW1 hg
  have HT0 : TabC tabZ (mdP l 0) := ⟨tabZ_tab.1, fun d s hd hs => (tabZ_tab.2 d s hd hs).trans (by unfold mdP; rw [if_neg (by omega)])⟩
  go_wp2
  go_loopw [7] (fun i wr => ∃ (d : Nat) (C : Array Value), d ≤ 5 ∧ i = .int .i64 (d : Int) ∧ Hid (TabC C (mdP l (d * 4))) ∧ Hid (wr.heap[g]? = some (.cells A 22 (0, 0))) ∧ Hid (wr.heap[g + 1]? = some (.cells tabZ 25 (0, 0))) ∧ Hid (wr.heap[g + 1 + 1]? = some (.cells C 25 (0, 0))) ∧ Below g w wr) (fun i _ => 5 - (intOf i).toNat)
  case atStart => exact ⟨0, tabZ, by omega, rfl, HT0, K0.out, K1.out, K2.out, hB1⟩
  case round =>
    obtain ⟨d, C, hd, rfl, HT, J0, J1, J2, hb⟩ := hrel
    rename World => wx
    by_cases hlt : d < 5
    · have c0 : (d : Int) < 5 := by omega
      go_wp2
      go_loopw [10] (fun i wr => ∃ (s : Nat) (C : Array Value), s ≤ 4 ∧ i = .int .i64 (s : Int) ∧ Hid (TabC C (mdP l (d * 4 + s))) ∧ Hid (wr.heap[g]? = some (.cells A 22 (0, 0))) ∧ Hid (wr.heap[g + 1]? = some (.cells tabZ 25 (0, 0))) ∧ Hid (wr.heap[g + 1 + 1]? = some (.cells C 25 (0, 0))) ∧ Below g w wr) (fun i _ => 4 - (intOf i).toNat)
      case atStart => exact ⟨0, C, by omega, rfl, HT, J0, J1, J2, hb⟩
      case round =>
        obtain ⟨s, D, hs, rfl, HT, J0, J1, J2, hb⟩ := hrel
        rename World => wy
        by_cases hls : s < 4
        · obtain ⟨hx, hx0, hx1⟩ := HA.out.2 (d * 4 + s) (by omega)
          have e0 := (blk_cell J0.out (d * 4 + s)).trans hx
          have e0' : wy.cell? ⟨g, 4 * d + s, none⟩ = _ := (congrArg (fun i => wy.cell? ⟨g, i, none⟩) (show 4 * d + s = d * 4 + s by omega)).trans e0
          have Hm := Lib.hid (show mdT l d s = if s % 2 = 1 then (if 13 - l (d * 4 + (s - 1)) % 14 + l (d * 4 + s) / 14 % 2 < l (d * 4 + s) % 14 then 13 - l (d * 4 + (s - 1)) % 14 + l (d * 4 + s) / 14 % 2 else l (d * 4 + s) % 14) else l (d * 4 + s) % 14 from rfl)
          generalize l (d * 4 + s) = x at hx hx0 hx1 e0 e0' Hm
          have c1 : (s : Int) < 4 := by omega
          have q0 := (blk_cell J2.out (d * 4 + s)).trans (HT.out.2 d s hlt hls)
          have f0 := blk_free J2.out (d * 4 + s)
          by_cases hp : s % 2 = 1
          · have tp : ((s : Int) % 2 == 1) = true := beq_iff_eq.2 (by omega)
            obtain ⟨r, hr⟩ : ∃ r, s - 1 = r := ⟨_, rfl⟩
            have hrs : s = r + 1 := by omega
            have q1 := (blk_cell J2.out (d * 4 + r)).trans (HT.out.2 d r hlt (by omega))
            have hq1 : mdP l (d * 4 + s) d r = l (d * 4 + (s - 1)) % 14 := by
              unfold mdP; rw [if_pos (by omega)]; unfold mdT; rw [if_neg (by omega), hr]
            rw [hq1] at q1
            have hz := (HA.out.2 (d * 4 + (s - 1)) (by omega)).2
            obtain ⟨z, hzz⟩ : ∃ z, l (d * 4 + (s - 1)) % 14 = z := ⟨_, rfl⟩
            have hzb : 0 ≤ z ∧ z ≤ 13 := by omega
            rw [hzz] at q1 Hm
            have hws : IntKind.i64.wrap ((s : Int) - 1) = (r : Int) := (IntWalk.i64_in _ (by omega)).trans (by omega)
            have hr0 : (0 : Int) ≤ (r : Int) := by omega
            have hr4 : (r : Int) < 4 := by omega
            have hw1 : IntKind.i64.wrap (13 - z) = 13 - z := IntWalk.i64_in _ (by omega)
            have hw2 : IntKind.i64.wrap (4 * (d : Int)) = 4 * (d : Int) := IntWalk.i64_in _ (by omega)
            have hw3 : IntKind.i64.wrap (4 * (d : Int) + (s : Int)) = 4 * (d : Int) + (s : Int) := IntWalk.i64_in _ (by omega)
            have hw30 : (0 : Int) ≤ 4 * (d : Int) + (s : Int) := by omega
            have hw31 : 4 * (d : Int) + (s : Int) < 20 := by omega
            have hw32 : (4 * (d : Int) + (s : Int)).toNat = 4 * d + s := by omega
            have hw4 : x.tdiv 14 = x / 14 := Int.tdiv_eq_ediv_of_nonneg hx0
            have hw5 : IntKind.i64.wrap (x / 14) = x / 14 := IntWalk.i64_in _ (by omega)
            have hw6 : (x / 14).tmod 2 = x / 14 % 2 := Int.tmod_eq_emod_of_nonneg (by omega)
            have hw7 : IntKind.i64.wrap (13 - z + x / 14 % 2) = 13 - z + x / 14 % 2 := IntWalk.i64_in _ (by omega)
            clear hq1 hz hzz hr hrs hx
            go_upto_region 10 with fail
            go_quiet (fail)
            obtain ⟨y, hy⟩ : ∃ y, (if 13 - z + x / 14 % 2 < x % 14 then 13 - z + x / 14 % 2 else x % 14) = y := ⟨_, rfl⟩
            have Hy := Lib.hid (show mdT l d s = y by rw [Hm.out, if_pos hp, hy])
            rw [hy]
            clear hws hw1 hw2 hw3 hw30 hw31 hw32 hw4 hw5 hw6 hw7 q1 hy
            go_wp2
            go_roundw
            case rel =>
              refine ⟨s + 1, D.setIfInBounds (d * 4 + s) (.int .i64 y), by omega, by go_num, ?_, (blk_far (w := wy.drewN nq) J0.out (by show g ≠ g + 1 + 1; omega) _), (blk_far (w := wy.drewN nq) J1.out (by show g + 1 ≠ g + 1 + 1; omega) _), (blk_set (w := wy.drewN nq) J2.out _ _), (below_drewN hb nq).setCell (p := ⟨g + 1 + 1, d * 4 + s, none⟩) (by show g ≤ g + 1 + 1; omega) _⟩
              exact HT.out.set d s hlt hls _ (fun d' s' _ h2 => by rw [← Hy.out]; exact mdP_next l d s hls d' s' h2)
            case measure => simp [intOf]; omega
          · have tp : ((s : Int) % 2 == 1) = false := beq_eq_false_iff_ne.2 (by omega)
            have Hy := Lib.hid (show mdT l d s = x % 14 by rw [Hm.out, if_neg hp])
            go_wp2
            go_roundw
            case rel =>
              refine ⟨s + 1, D.setIfInBounds (d * 4 + s) (.int .i64 (x % 14)), by omega, by go_num, ?_, blk_far J0.out (by show g ≠ g + 1 + 1; omega) _, blk_far J1.out (by show g + 1 ≠ g + 1 + 1; omega) _, blk_set J2.out _ _, hb.setCell (p := ⟨g + 1 + 1, d * 4 + s, none⟩) (by show g ≤ g + 1 + 1; omega) _⟩
              exact HT.out.set d s hlt hls _ (fun d' s' _ h2 => by rw [← Hy.out]; exact mdP_next l d s hls d' s' h2)
            case measure => simp [intOf]; omega
        · obtain rfl : s = 4 := by omega
          have HT2 : Hid (TabC D (mdP l ((d + 1) * 4))) := by rw [show (d + 1) * 4 = d * 4 + 4 by omega]; exact HT
          go_wp2
          go_roundw
          case rel => exact ⟨d + 1, D, by omega, by go_num, HT2, J0, J1, J2, hb⟩
          case measure => simp [intOf]; omega
    · obtain rfl : d = 5 := by omega
      have HT2 : TabC C (mdT l) := ⟨HT.out.1, fun d s hd hs => (HT.out.2 d s hd hs).trans (by unfold mdP; rw [if_pos (by omega)])⟩
      have H2 := Lib.hid HT2
      clear HT2
      go_wp2_with (first | (refine wpList_load_row rfl 25 (.tmp 3) rfl (g + 1 + 1) rfl 25 C _ _ J2.out Tryd.underlying25 rfl H2.out.info ?_) | (refine wpList_store_row rfl 25 _ _ rfl (g + 1) C rfl rfl 25 tabZ J1.out H2.out.info (tabZ_tab.1.trans H2.out.1.symm) H2.out.one ?_))
      refine bodyPost_ret (v := .agg C) (results_cell_row Tryd.results11 _ _ (g + 1) _ C _ _ rfl (setRow_heap _ (g + 1) tabZ C _ _ J1.out) Tryd.underlying25 rfl H2.out.info) rfl ⟨C, rfl, H2.out, ?_⟩
      rw [HG.out]
      exact below_setRow hb (by omega) C

end Go.Proofs.YtilekdjjfdehcaaDoor
