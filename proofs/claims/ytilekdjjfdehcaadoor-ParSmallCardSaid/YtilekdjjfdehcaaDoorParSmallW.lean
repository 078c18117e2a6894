/- The walk of ParSmall. -/
import Derived.Test.YtilekdjjfdehcaaDoorParTellsW
import Derived.Test.YtilekdjjfdehcaaDoorParMadeW
namespace Go.Proofs.YtilekdjjfdehcaaDoor
open Go.RowKit

/-- The numbers of tricks that are tried. -/
def manyC : Array Value := #[.int .i64 0, .int .i64 6, .int .i64 7, .int .i64 10, .int .i64 12, .int .i64 13]
theorem many_get (i : Nat) (hi : i < 6) : ∃ a : Int, manyC[i]? = some (.int .i64 a) := by
  rcases (show i = 0 ∨ i = 1 ∨ i = 2 ∨ i = 3 ∨ i = 4 ∨ i = 5 by omega) with rfl | rfl | rfl | rfl | rfl | rfl
  all_goals exact ⟨_, rfl⟩
def fewC : Array Value := #[.int .i64 (-1), .int .i64 14, .int .i64 13]
theorem few_get (i : Nat) (hi : i < 3) : ∃ a : Int, fewC[i]? = some (.int .i64 a) := by
  rcases (show i = 0 ∨ i = 1 ∨ i = 2 by omega) with rfl | rfl | rfl
  all_goals exact ⟨_, rfl⟩

set_option maxRecDepth 100000 in
set_option maxHeartbeats 4000000 in
theorem parSmall_walk (w : World) (hL : LaidS w) : Calls Tryd.prog 7 #[] w fun e w' => e = .returned (.bool true) ∧ Below w.heap.size w w' := by
  have HL := Lib.hid hL
  have HT := Lib.hid (fun (C : Array Value) (t : Nat → Nat → Int) (hC : TabC C t) (v b s d : Nat) (hv : v ≤ 255) (hb : b ≤ 255) (hs : s ≤ 255) (hd : d ≤ 255) W hW => tells18 C t hC hC.one v b s d hv hb hs hd W hW)
  have HX := Lib.hid (fun W => example_any W)
  clear hL
  go_enter Tryd.func7, Tryd.ntmps7
  go_upto_region 2 with fail
  obtain ⟨W1, hW1⟩ : ∃ W1, w.alloc (.cells manyC 3) = W1 := ⟨_, rfl⟩
  obtain ⟨g, hg⟩ : ∃ g, w.heap.size = g := ⟨_, rfl⟩
  have K0 := Lib.hid (show W1.heap[g]? = some (.cells manyC 3 (0, 0)) by rw [← hW1]; exact blk_new _ hg.symm)
  have hB1 : Below w.heap.size w W1 := by rw [← hW1]; exact (by repeat (first | exact Below.refl _ _ | assumption | refine Below.drew ?_ | refine below_drewN ?_ _ | refine Below.alloc ?_ (by first | omega | (simp; done) | (simp; omega)) _ | refine Below.setCell ?_ (by first | omega | (simp; done) | (simp; omega)) _))
  rw [show w.alloc (.cells #[.int .i64 0, .int .i64 6, .int .i64 7, .int .i64 10, .int .i64 12, .int .i64 13] 3) = W1 from hW1, hg]
  clear hW1 hg
  go_wp2
  go_loopw [16] (fun i wr => ∃ n : Nat, n ≤ 6 ∧ i = .int .i64 (n : Int) ∧ Hid (wr.heap[g]? = some (.cells manyC 3 (0, 0))) ∧ Below w.heap.size w wr) (fun i _ => 6 - (intOf i).toNat)
  case atStart => exact ⟨0, by omega, rfl, K0.out, hB1⟩
  case round =>
    clear K0 hB1
    obtain ⟨i, hi, rfl, K0, hB⟩ := hrel
    rename World => wx
    by_cases hlt : i < 6
    · obtain ⟨a, ha⟩ := many_get i hlt
      have qa := (blk_cell K0.out i).trans ha
      have c0 : (i : Int) < 6 := by omega
      clear ha
      go_wp2
      go_loopw [23] (fun j wr => ∃ n : Nat, n ≤ 6 ∧ j = .int .i64 (n : Int) ∧ Hid (wr.heap[g]? = some (.cells manyC 3 (0, 0))) ∧ Below w.heap.size w wr) (fun j _ => 6 - (intOf j).toNat)
      case atStart => exact ⟨0, by omega, rfl, K0.out, hB⟩
      case round =>
        clear K0 hB qa
        obtain ⟨k, hk, rfl, K0, hB⟩ := hrel
        rename World => wy
        by_cases hlk : k < 6
        · obtain ⟨b, hb⟩ := many_get k hlk
          have qb := (blk_cell K0.out k).trans hb
          have c1 : (k : Int) < 6 := by omega
          clear hb
          go_wp2
          go_loopw [28] (fun j wr => ∃ n : Nat, n ≤ 5 ∧ j = .int .i64 (n : Int) ∧ Hid (wr.heap[g]? = some (.cells manyC 3 (0, 0))) ∧ Below w.heap.size w wr) (fun j _ => 5 - (intOf j).toNat)
          case atStart => exact ⟨0, by omega, rfl, K0.out, hB⟩
          case round =>
            clear K0 hB qb
            obtain ⟨d, hd, rfl, K0, hB⟩ := hrel
            rename World => wz
            by_cases hld : d < 5
            · have c2 : (d : Int) < 5 := by omega
              go_upto_region 12 with (refine plain_alloc_to rfl 25 rfl tabZ tabZ_zero ?_)
              obtain ⟨W2, hW2⟩ : ∃ W2, wz.alloc (.cells tabZ 25) = W2 := ⟨_, rfl⟩
              obtain ⟨m, hm⟩ : ∃ m, wz.heap.size = m := ⟨_, rfl⟩
              have J2 := Lib.hid (show W2.heap[m]? = some (.cells tabZ 25 (0, 0)) by rw [← hW2]; exact blk_new _ hm.symm)
              have hb2 : Below wz.heap.size wz W2 := by rw [← hW2]; exact (Below.refl _ _).alloc (Nat.le_refl _) _
              have hwm : w.heap.size ≤ m := by rw [← hm]; exact hB.size
              have hgm : g < m := by rw [← hm]; exact blk_lt K0.out
              rw [hW2, hm]
              clear hW2 hm
              replace hB := below_via hB hb2
              replace K0 := Lib.hid (blk_below K0.out hb2 (blk_lt K0.out))
              clear hb2
              obtain ⟨x, hx⟩ : ∃ x, i % 2 * 2 = x := ⟨_, rfl⟩
              have hx4 : x < 4 := by omega
              have e1 : (i : Int) % 2 * 2 = (x : Int) := by omega
              have e2 : IntKind.i64.wrap ((i : Int) % 2 * 2) = (x : Int) := (IntWalk.i64_in _ (by omega)).trans e1
              have e3 : (x : Int) < 4 := by omega
              have hC1 := tabZ_tab.set d x hld hx4 a (t' := fun d' s' => if d' = d ∧ s' = x then a else 0) (fun _ _ _ _ => rfl)
              obtain ⟨C1, hc1⟩ : ∃ C1, tabZ.setIfInBounds (d * 4 + x) (.int .i64 a) = C1 := ⟨_, rfl⟩
              rw [hc1] at hC1
              have HC1 := Lib.hid hC1
              have q0 := (blk_cell J2.out (d * 4 + x)).trans (tabZ_tab.2 d x hld hx4)
              have f0 := blk_free J2.out (d * 4 + x)
              have hB3 := Lib.hid (hB.setCell (p := ⟨m, d * 4 + x, none⟩) hwm (.int .i64 a))
              have K3 := Lib.hid (blk_far K0.out (p := ⟨m, d * 4 + x, none⟩) (by show g ≠ m; omega) (.int .i64 a))
              have J3 := Lib.hid (blk_set J2.out (d * 4 + x) (.int .i64 a))
              rw [hc1] at J3
              clear hC1 hc1 hB K0 J2 hx
              go_upto_region 13 with fail
              obtain ⟨W3, hW3⟩ : ∃ W3, W2.setCell ⟨m, d * 4 + x, none⟩ (.int .i64 a) = W3 := ⟨_, rfl⟩
              rw [hW3] at hB3 K3 J3 ⊢
              clear hW3 q0 f0 e1 e2
              obtain ⟨y, hy⟩ : ∃ y, (d + i + k) % 5 = y := ⟨_, rfl⟩
              obtain ⟨z, hz⟩ : ∃ z, 1 + k % 2 * 2 = z := ⟨_, rfl⟩
              have hy5 : y < 5 := by omega
              have hz4 : z < 4 := by omega
              have e1 : ((d : Int) + (i : Int) + (k : Int)) % 5 = (y : Int) := by omega
              have e2 : IntKind.i64.wrap (1 + (k : Int) % 2 * 2) = (z : Int) := (IntWalk.i64_in _ (by omega)).trans (by omega)
              have e3 : (y : Int) < 5 := by omega
              have e4 : (z : Int) < 4 := by omega
              have hC2 := HC1.out.set y z hy5 hz4 b (t' := fun d' s' => if d' = y ∧ s' = z then b else if d' = d ∧ s' = x then a else 0) (fun _ _ _ _ => rfl)
              obtain ⟨C2, hc2⟩ : ∃ C2, C1.setIfInBounds (y * 4 + z) (.int .i64 b) = C2 := ⟨_, rfl⟩
              rw [hc2] at hC2
              have HC2 := Lib.hid hC2
              have q0 := (blk_cell J3.out (y * 4 + z)).trans (HC1.out.2 y z hy5 hz4)
              have f0 := blk_free J3.out (y * 4 + z)
              have hB4 := Lib.hid (hB3.out.setCell (p := ⟨m, y * 4 + z, none⟩) hwm (.int .i64 b))
              have K4 := Lib.hid (blk_far K3.out (p := ⟨m, y * 4 + z, none⟩) (by show g ≠ m; omega) (.int .i64 b))
              have J4 := Lib.hid (blk_set J3.out (y * 4 + z) (.int .i64 b))
              rw [hc2] at J4
              clear hC2 hc2 hy hz hB3 K3 J3
              go_upto_region 14 with fail
              obtain ⟨W4, hW4⟩ : ∃ W4, W3.setCell ⟨m, y * 4 + z, none⟩ (.int .i64 b) = W4 := ⟨_, rfl⟩
              rw [hW4] at hB4 K4 J4 ⊢
              clear hW4 q0 f0 e1 e2
              obtain ⟨v', hv'⟩ : ∃ v', (i + k) % 5 = v' := ⟨_, rfl⟩
              obtain ⟨b', hb'⟩ : ∃ b', 2 + 7 * (i + k + d) % 37 = b' := ⟨_, rfl⟩
              obtain ⟨s', hs'⟩ : ∃ s', k % 3 = s' := ⟨_, rfl⟩
              obtain ⟨d', hd'⟩ : ∃ d', (i + d) % 5 = d' := ⟨_, rfl⟩
              have b1 : v' ≤ 255 := by omega
              have b2 : b' ≤ 255 := by omega
              have b3 : s' ≤ 255 := by omega
              have b4 : d' ≤ 255 := by omega
              have e1 : IntKind.u8.wrap (((i : Int) + (k : Int)) % 5) = (v' : Int) := (IntWalk.u8_in _ (by omega)).trans (by omega)
              have e2 : IntKind.u8.wrap (2 + 7 * ((i : Int) + (k : Int) + (d : Int)) % 37) = (b' : Int) := (IntWalk.u8_in _ (by omega)).trans (by omega)
              have e3 : IntKind.u8.wrap ((k : Int) % 3) = (s' : Int) := (IntWalk.u8_in _ (by omega)).trans (by omega)
              have e4 : IntKind.u8.wrap (((i : Int) + (d : Int)) % 5) = (d' : Int) := (IntWalk.u8_in _ (by omega)).trans (by omega)
              have HTc := Lib.hid (fun W hW => HT.out C2 _ HC2.out v' b' s' d' b1 b2 b3 b4 W hW)
              clear hv' hb' hs' hd'
              go_wp2_with (refine wpList_load_row rfl 25 (.tmp 7) rfl m rfl 25 C2 _ _ J4.out Tryd.underlying25 rfl HC2.out.info ?_)
              refine (HTc.out _ (HL.out.go hB4.out)).mono ?_
              rintro ee w5 ⟨rfl, hb5⟩
              have hB5 := Lib.hid (below_via hB4.out hb5)
              have K5 := Lib.hid (blk_below K4.out hb5 (blk_lt K4.out))
              clear hb5 hB4 K4 J4 e1 e2 e3 e4
              go_wp2
              go_roundw
              case rel => exact ⟨d + 1, by omega, by go_num, K5.out, hB5.out⟩
              case measure => simp [intOf]; omega
            · obtain rfl : d = 5 := by omega
              go_wp2
              go_roundw
              case rel => exact ⟨k + 1, by omega, by go_num, K0.out, hB⟩
              case measure => simp [intOf]; omega
        · obtain rfl : k = 6 := by omega
          go_wp2
          go_roundw
          case rel => exact ⟨i + 1, by omega, by go_num, K0.out, hB⟩
          case measure => simp [intOf]; omega
    · have hi6 : (i : Int) = 6 := by omega
      rw [hi6]
      clear hi6 hlt hi
      go_wp2
      clear K0
      go_loopw [79] (fun j wr => ∃ n : Nat, n ≤ 5 ∧ j = .int .i64 (n : Int) ∧ Below w.heap.size w wr) (fun j _ => 5 - (intOf j).toNat)
      case atStart => exact ⟨0, by omega, rfl, hB⟩
      case round =>
        clear hB
        obtain ⟨d, hd, rfl, hB⟩ := hrel
        rename World => wy
        by_cases hld : d < 5
        · have c1 : (d : Int) < 5 := by omega
          go_wp2
          go_loopw [82] (fun j wr => ∃ n : Nat, n ≤ 4 ∧ j = .int .i64 (n : Int) ∧ Below w.heap.size w wr) (fun j _ => 4 - (intOf j).toNat)
          case atStart => exact ⟨0, by omega, rfl, hB⟩
          case round =>
            clear hB
            obtain ⟨s, hs, rfl, hB⟩ := hrel
            rename World => wz
            by_cases hls : s < 4
            · have c2 : (s : Int) < 4 := by omega
              go_upto_region 26 with fail
              obtain ⟨W2, hW2⟩ : ∃ W2, wz.alloc (.cells fewC 3) = W2 := ⟨_, rfl⟩
              obtain ⟨g, hg⟩ : ∃ g, wz.heap.size = g := ⟨_, rfl⟩
              have K0 := Lib.hid (show W2.heap[g]? = some (.cells fewC 3 (0, 0)) by rw [← hW2]; exact blk_new _ hg.symm)
              have hb2 : Below wz.heap.size wz W2 := by rw [← hW2]; exact (Below.refl _ _).alloc (Nat.le_refl _) _
              rw [show wz.alloc (.cells #[.int .i64 (-1), .int .i64 14, .int .i64 13] 3) = W2 from hW2, hg]
              clear hW2 hg
              replace hB := below_via hB hb2
              clear hb2
              go_loopw [87] (fun j wr => ∃ n : Nat, n ≤ 3 ∧ j = .int .i64 (n : Int) ∧ Hid (wr.heap[g]? = some (.cells fewC 3 (0, 0))) ∧ Below w.heap.size w wr) (fun j _ => 3 - (intOf j).toNat)
              case atStart => exact ⟨0, by omega, rfl, K0.out, hB⟩
              case round =>
                clear K0 hB
                obtain ⟨n, hn, rfl, K0, hB⟩ := hrel
                rename World => wv
                by_cases hln : n < 3
                · obtain ⟨a, ha⟩ := few_get n hln
                  have qa := (blk_cell K0.out n).trans ha
                  have c3 : (n : Int) < 3 := by omega
                  clear ha
                  go_wp2_with fail
                  refine (HX.out _).mono ?_
                  rintro ee w3 ⟨rfl, hb3⟩
                  replace hB := below_via hB hb3
                  replace K0 := Lib.hid (blk_below K0.out hb3 (blk_lt K0.out))
                  clear hb3 qa
                  go_upto_region 29 with (first | (refine plain_alloc_to rfl 25 rfl tabZ tabZ_zero ?_) | (refine wpList_store_new rfl 25 _ _ rfl exC _ _ rfl rfl exC_tab.info (by rw [exC_tab.1]; rfl) exC_tab.one ?_))
                  obtain ⟨W4, hW4⟩ : ∃ W4, w3.alloc (.cells exC 25) = W4 := ⟨_, rfl⟩
                  obtain ⟨m, hm⟩ : ∃ m, w3.heap.size = m := ⟨_, rfl⟩
                  have J4 := Lib.hid (show W4.heap[m]? = some (.cells exC 25 (0, 0)) by rw [← hW4]; exact blk_new _ hm.symm)
                  have hb4 : Below w3.heap.size w3 W4 := by rw [← hW4]; exact (Below.refl _ _).alloc (Nat.le_refl _) _
                  have hwm : w.heap.size ≤ m := by rw [← hm]; exact hB.size
                  have hgm : g < m := by rw [← hm]; exact blk_lt K0.out
                  rw [hW4, hm]
                  clear hW4 hm
                  replace hB := below_via hB hb4
                  replace K0 := Lib.hid (blk_below K0.out hb4 (blk_lt K0.out))
                  clear hb4
                  have hC1 := exC_tab.set d s hld hls a (t' := fun d' s' => if d' = d ∧ s' = s then a else exT d' s') (fun _ _ _ _ => rfl)
                  obtain ⟨C1, hc1⟩ : ∃ C1, exC.setIfInBounds (d * 4 + s) (.int .i64 a) = C1 := ⟨_, rfl⟩
                  rw [hc1] at hC1
                  have HC1 := Lib.hid hC1
                  have q0 := (blk_cell J4.out (d * 4 + s)).trans (exC_tab.2 d s hld hls)
                  generalize exT d s = x0 at q0
                  have f0 := blk_free J4.out (d * 4 + s)
                  have hB5 := Lib.hid (hB.setCell (p := ⟨m, d * 4 + s, none⟩) hwm (.int .i64 a))
                  have K5 := Lib.hid (blk_far K0.out (p := ⟨m, d * 4 + s, none⟩) (by show g ≠ m; omega) (.int .i64 a))
                  have J5 := Lib.hid (blk_set J4.out (d * 4 + s) (.int .i64 a))
                  rw [hc1] at J5
                  clear hC1 hc1 hB K0 J4
                  go_upto_region 30 with fail
                  obtain ⟨W5, hW5⟩ : ∃ W5, W4.setCell ⟨m, d * 4 + s, none⟩ (.int .i64 a) = W5 := ⟨_, rfl⟩
                  rw [hW5] at hB5 K5 J5 ⊢
                  clear hW5 q0 f0
                  have e1 : IntKind.u8.wrap (s : Int) = (s : Int) := IntWalk.u8_in _ (by omega)
                  have e2 : IntKind.u8.wrap (d : Int) = (d : Int) := IntWalk.u8_in _ (by omega)
                  have HTc := Lib.hid (fun W hW => HT.out C1 _ HC1.out s d 1 d (by omega) (by omega) (by omega) (by omega) W hW)
                  go_wp2_with (refine wpList_load_row rfl 25 (.tmp 12) rfl m rfl 25 C1 _ _ J5.out Tryd.underlying25 rfl HC1.out.info ?_)
                  refine (HTc.out _ (HL.out.go hB5.out)).mono ?_
                  rintro ee w6 ⟨rfl, hb6⟩
                  have hB6 := Lib.hid (below_via hB5.out hb6)
                  have K6 := Lib.hid (blk_below K5.out hb6 (blk_lt K5.out))
                  clear hb6 hB5 K5 J5 e1 e2
                  go_wp2
                  go_roundw
                  case rel => exact ⟨n + 1, by omega, by go_num, K6.out, hB6.out⟩
                  case measure => simp [intOf]; omega
                · obtain rfl : n = 3 := by omega
                  go_wp2
                  go_roundw
                  case rel => exact ⟨s + 1, by omega, by go_num, hB⟩
                  case measure => simp [intOf]; omega
            · obtain rfl : s = 4 := by omega
              go_wp2
              go_roundw
              case rel => exact ⟨d + 1, by omega, by go_num, hB⟩
              case measure => simp [intOf]; omega
        · obtain rfl : d = 5 := by omega
          have HA := Lib.hid (awake18 wy (HL.out.go hB))
          go_wp2_with fail
          refine HA.out.mono ?_
          rintro ee w5 ⟨rfl, hb5⟩
          have hB5 := below_via hB hb5
          go_wp2
          go_ret
          exact ⟨rfl, hB5⟩

end Go.Proofs.YtilekdjjfdehcaaDoor
