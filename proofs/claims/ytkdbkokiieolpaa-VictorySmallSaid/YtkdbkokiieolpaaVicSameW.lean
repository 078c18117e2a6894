/- The walk of the comparison of victory points with the reference, and of the statement VictoryTells. -/
import Derived.Test.YtkdbkokiieolpaaVicRefW2
namespace Go.Proofs.Ytkdbkokiieolpaa
open Go.RowKit

/-- What a comparison reads: both slices lent, with their marks, and both slices that came in. -/
structure Four (w : World) (g1 g2 : Nat) (A A' : Option Addr) (s l : List Int) : Prop where
  r1 : Rd w w.heap.size 1 (some ⟨g1, 0, none⟩) (s ++ marks 12).length (iC (s ++ marks 12))
  r2 : Rd w w.heap.size 1 (some ⟨g2, 0, none⟩) (l ++ marks 12).length (iC (l ++ marks 12))
  r3 : Rd w w.heap.size 1 A s.length (iC s)
  r4 : Rd w w.heap.size 1 A' l.length (iC l)
theorem pre_marks {w : World} {g : Nat} {l : List Int} (h : Rd w w.heap.size 1 (some ⟨g, 0, none⟩) (l ++ marks 12).length (iC (l ++ marks 12))) : Rd w w.heap.size 1 (some ⟨g, 0, none⟩) l.length (iC l) := by
  have h1 := h.pre (k := l.length) (by rw [List.length_append]; omega)
  rw [iC_app, List.take_left' (by rw [iC_len]; omega)] at h1
  exact h1
theorem Four.below {w w' : World} {g1 g2 : Nat} {A A' : Option Addr} {s l : List Int} (h : Four w g1 g2 A A' s l) (hb : Below w.heap.size w w') : Four w' g1 g2 A A' s l :=
  ⟨(h.r1.below hb).more hb.size, (h.r2.below hb).more hb.size, (h.r3.below hb).more hb.size, (h.r4.below hb).more hb.size⟩

set_option maxHeartbeats 2000000 in
set_option maxRecDepth 100000 in
theorem same_any (s l : List Int) (n : Int) (A A' : Option Addr) (c c' : Nat) (w : World) (hl : Rd w w.heap.size 1 A s.length (iC s)) (hA : A = none → c = 0) (hn : s.length ≤ 1000000)
    (hl' : Rd w w.heap.size 1 A' l.length (iC l)) (hA' : A' = none → c' = 0) (hn' : l.length ≤ 1000000) :
    Calls Try.prog 16 #[.slice A s.length c, .int .i64 n, .slice A' l.length c'] w fun e w' => e = .returned (.bool true) ∧ Below w.heap.size w w' := by
  have hbig : s.length ≤ 4611686018427387904 := by omega
  have HA := Lib.hid hA
  have HA' := Lib.hid hA'
  clear hA hA'
  go_enter Try.func16, Try.ntmps16
  go_wp2_with fail
  refine (lent_any s A c w hl HA.out hn).mono ?_
  rintro e w1 ⟨g1, rfl, hg1, hb1⟩
  have s1 := hb1.size
  go_wp2_with fail
  refine (lent_any l A' c' w1 ((hl'.below hb1).more s1) HA'.out hn').mono ?_
  rintro e w2 ⟨g2, rfl, hg2, hb2⟩
  have s2 := hb2.size
  have hF : Four w2 g1 g2 A A' s l := ⟨(hg1.all.below hb2).more s2, hg2.all, ((hl.below hb1).below (hb2.mono s1)).more (by omega), (((hl'.below hb1).more s1).below hb2).more s2⟩
  have hB2 : Below w.heap.size w w2 := hb1.trans (hb2.mono s1)
  have sW2 := hB2.size
  clear hg1 hg2 hb1 hb2 hl hl' s1 s2
  go_wp2_with fail
  refine (points_any s n _ _ w2 (pre_marks hF.r1) hbig).mono ?_
  rintro e w3 ⟨rfl, hb⟩
  have hF3 := hF.below hb
  have hB3 := hB2.trans (hb.mono sW2)
  have sW3 := hB3.size
  clear hb hF hB2
  go_wp2_with fail
  refine (pointsR_any s n _ _ w3 hF3.r3 hbig).mono ?_
  rintro e w4 ⟨rfl, hb⟩
  have hF4 := hF3.below hb
  have hB4 := hB3.trans (hb.mono sW3)
  have sW4 := hB4.size
  clear hb hF3 hB3
  go_wp2_with fail
  refine (right_any s _ _ w4 (pre_marks hF4.r1) hbig).mono ?_
  rintro e _ ⟨rfl, rfl⟩
  go_wp2_with fail
  refine (rightR_any s _ _ w4 hF4.r3 hbig).mono ?_
  rintro e w5 ⟨rfl, hb⟩
  have hF5 := hF4.below hb
  have hB5 := hB4.trans (hb.mono sW4)
  have sW5 := hB5.size
  clear hb hF4 hB4
  go_wp2_with fail
  refine (margins_any s n _ _ w5 (pre_marks hF5.r1) hbig).mono ?_
  rintro e _ ⟨rfl, nq, rfl⟩
  have hb := below_drewN (Below.refl w5.heap.size w5) nq
  generalize w5.drewN nq = w6 at *
  have hF6 := hF5.below hb
  have hB6 := hB5.trans (hb.mono sW5)
  have sW6 := hB6.size
  clear hb hF5 hB5
  go_wp2_with fail
  refine (marginsR_any s n _ _ w6 hF6.r3 hbig).mono ?_
  rintro e w7 ⟨rfl, hb⟩
  have hF7 := hF6.below hb
  have hB7 := hB6.trans (hb.mono sW6)
  have sW7 := hB7.size
  clear hb hF6 hB6
  go_wp2_with fail
  refine (total_any s l _ _ _ _ w7 (pre_marks hF7.r1) hbig (pre_marks hF7.r2) hn').mono ?_
  rintro e w8 ⟨rfl, hb⟩
  have hF8 := hF7.below hb
  have hB8 := hB7.trans (hb.mono sW7)
  have sW8 := hB8.size
  clear hb hF7 hB7
  go_wp2_with fail
  refine (totalR_any s l _ _ _ _ w8 hF8.r3 hbig hF8.r4 hn').mono ?_
  rintro e w9 ⟨rfl, hb⟩
  have hF9 := hF8.below hb
  have hB9 := hB8.trans (hb.mono sW8)
  have sW9 := hB9.size
  clear hb hF8 hB8 sW2 sW3 sW4 sW5 sW6 sW7 sW8
  by_cases hnn : 1 ≤ n ∧ n ≤ 128
  · go_wp2_with fail
    refine (usual_any n _ hnn).mono ?_
    rintro e w10 ⟨v1, L1, rfl, ho1, hL1, hu1, hb⟩
    have hF10 := hF9.below hb
    have hB10 := hB9.trans (hb.mono sW9)
    have sW10 := hB10.size
    clear hb hF9 hB9
    go_wp2_with fail
    refine (usualR_any n _ hnn).mono ?_
    rintro e w11 ⟨v2, L2, rfl, ho2, hL2, hu2, hb⟩
    obtain rfl : L1 = L2 := usual_eq n L1 L2 (by rw [hL1, hL2]) hu1 hu2
    have hF11 := hF10.below hb
    have hB11 := hB10.trans (hb.mono sW10)
    have sW11 := hB11.size
    obtain ⟨A1, c1, rfl⟩ := own_form ho1
    obtain ⟨A2, c2, rfl⟩ := own_form ho2
    have hq1 := ((Rd.of_own ho1).below hb).more hb.size
    have hq2 := Rd.of_own ho2
    rw [← hL1] at hq1 hq2
    have HL := Lib.hid hL1
    clear hb hF10 hB10 ho1 ho2 hL1 hL2 hu1 hu2
    go_wp2_with fail
    refine (same_eq L1 _ _ HL.out.symm HL.out.symm _ _ _ _ w11 hq1 hq2 (by rw [HL.out]; decide)).mono ?_
    rintro e w12 ⟨rfl, hb⟩
    have hF12 := hF11.below hb
    have hB12 := hB11.trans (hb.mono sW11)
    have sW12 := hB12.size
    clear hb hF11 hB11 hq1 hq2
    go_wp2_with fail
    refine (kept_any s _ _ _ w12 hF12.r1 hF12.r3 hn).mono ?_
    rintro e w13 ⟨rfl, hb⟩
    have hF13 := hF12.below hb
    have hB13 := hB12.trans (hb.mono sW12)
    have sW13 := hB13.size
    clear hb hF12 hB12
    go_wp2_with fail
    refine (kept_any l _ _ _ w13 hF13.r2 hF13.r4 hn').mono ?_
    rintro e w14 ⟨rfl, hb⟩
    go_wp2
    go_ret
    exact ⟨rfl, hB13.trans (hb.mono sW13)⟩
  · have hbad : n < 1 ∨ 128 < n := by omega
    have HB := Lib.hid hbad
    clear hbad hnn
    go_wp2_with fail
    refine (usual_bad n _ HB.out).mono ?_
    rintro e _ ⟨rfl, rfl⟩
    go_wp2_with fail
    refine (usualR_bad n _ HB.out).mono ?_
    rintro e _ ⟨rfl, rfl⟩
    go_wp2_with fail
    refine (same_eq [] 0 0 rfl rfl _ _ _ _ w9 Rd.nil_ Rd.nil_ (by decide)).mono ?_
    rintro e w12 ⟨rfl, hb⟩
    have hF12 := hF9.below hb
    have hB12 := hB9.trans (hb.mono sW9)
    have sW12 := hB12.size
    clear hb hF9 hB9
    go_wp2_with fail
    refine (kept_any s _ _ _ w12 hF12.r1 hF12.r3 hn).mono ?_
    rintro e w13 ⟨rfl, hb⟩
    have hF13 := hF12.below hb
    have hB13 := hB12.trans (hb.mono sW12)
    have sW13 := hB13.size
    clear hb hF12 hB12
    go_wp2_with fail
    refine (kept_any l _ _ _ w13 hF13.r2 hF13.r4 hn').mono ?_
    rintro e w14 ⟨rfl, hb⟩
    go_wp2
    go_ret
    exact ⟨rfl, hB13.trans (hb.mono sW13)⟩

end Go.Proofs.Ytkdbkokiieolpaa
