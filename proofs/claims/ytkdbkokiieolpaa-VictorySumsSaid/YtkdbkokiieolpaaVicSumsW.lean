/- The walk of the statement VictorySums. -/
import Derived.Test.YtkdbkokiieolpaaVicScale
import Derived.Test.YtkdbkokiieolpaaVicLaw
namespace Go.Proofs.Ytkdbkokiieolpaa
open Go.RowKit

set_option maxHeartbeats 2000000 in
set_option maxRecDepth 100000 in
theorem victorySums_walk (l : List Int) (a b : Int) (ha : -32768 ≤ a ∧ a ≤ 32767) (hb : -32768 ≤ b ∧ b ≤ 32767) (A : Option Addr) (c : Nat) (w : World)
    (hl : Rd w w.heap.size 1 A l.length (u8C l)) (hu : U8s l) (hc : l.length ≤ c) (hm : c ≤ 9223372036854775807) :
    Calls Try.prog 3 #[.slice A l.length c, .int .i16 a, .int .i16 b] w fun e w' => e = .returned (.bool true) ∧ Below w.heap.size w w' := by
  have hr := scale_right l hu
  go_enter Try.func3, Try.ntmps3
  go_wp2_with fail
  refine (scale_any l A c w hl hu hc hm).mono ?_
  rintro e w1 ⟨v, rfl, hown, hb1⟩
  obtain ⟨B, d, rfl⟩ := own_form hown
  have hrd := Rd.of_own hown
  have s1 := hb1.size
  clear hown hl hu hc hm
  generalize scaleOf l = s at *
  obtain ⟨k, hk⟩ : ∃ k : Nat, s.length = k + 1 := ⟨s.length - 1, by have := ((rightS_iff s).1 hr).1; omega⟩
  have h50 : s.length ≤ 50 := ((rightS_iff s).1 hr).2.1
  have ra : -1000000 ≤ a ∧ a ≤ 1000000 := by omega
  have rb : -1000000 ≤ b ∧ b ≤ 1000000 := by omega
  have rn : -1000000 ≤ -a ∧ -a ≤ 1000000 := by omega
  have A1 := Lib.hid (ptsA_eq s a hr ra)
  have A2 := Lib.hid (ptsB_eq s a hr ra)
  have A3 := Lib.hid (ptsE_ok s a hr ra)
  have B1 := Lib.hid (ptsA_eq s b hr rb)
  have B2 := Lib.hid (ptsB_eq s b hr rb)
  have B3 := Lib.hid (ptsE_ok s b hr rb)
  have N1 := Lib.hid (show ptsA s (-a) = s.length - moreS s a by rw [ptsA_eq s _ hr rn, moreS_neg s hr]; omega)
  have N2 := Lib.hid (show ptsB s (-a) = s.length + moreS s a by rw [ptsB_eq s _ hr rn, moreS_neg s hr]; omega)
  have N3 := Lib.hid (ptsE_ok s (-a) hr rn)
  have z0 : moreS s 0 = 0 := by have := moreS_neg s hr 0; simp at this; omega
  have Z1 := Lib.hid (show ptsA s 0 = s.length by rw [ptsA_eq s _ hr (by omega), z0]; omega)
  have Z2 := Lib.hid (show ptsB s 0 = s.length by rw [ptsB_eq s _ hr (by omega), z0]; omega)
  have Z3 := Lib.hid (ptsE_ok s 0 hr (by omega))
  have bda := moreS_bd s a
  have bdb := moreS_bd s b
  have m1 := moreS_mono s a b
  have m2 := moreS_mono s b a
  have fu := full_iff s hr a k hk
  obtain ⟨g, off, rfl, hg, hcell⟩ := rd_i hrd k (by omega)
  generalize s[k]'(by omega) = y at hcell fu
  have M1 := Lib.hid m1
  have M2 := Lib.hid m2
  have FU := Lib.hid fu
  have HK := Lib.hid hk
  have k1 : (s.length : Int) - 1 = (k : Int) := by omega
  have k2 : (0 : Int) ≤ (k : Int) := by omega
  have k3 : (k : Int) < (s.length : Int) := by omega
  clear z0 hr ra rb rn m1 m2 fu hk
  go_wp2_with fail
  refine (points_any s a _ d w1 hrd (by omega)).mono ?_
  rintro e w2 ⟨rfl, hb2⟩
  rw [A1.out, A2.out, A3.out]
  have s2 := hb2.size
  have hrd2 := (hrd.below hb2).more s2
  have hcell2 := (bcell hb2 g (off + k) hg).trans hcell
  go_wp2_with fail
  refine (points_any s b _ d w2 hrd2 (by omega)).mono ?_
  rintro e w3 ⟨rfl, hb3⟩
  rw [B1.out, B2.out, B3.out]
  have s3 := hb3.size
  have hrd3 := (hrd2.below hb3).more s3
  have hcell3 := (bcell hb3 g (off + k) (by omega)).trans hcell2
  go_wp2_with fail
  refine (points_any s (-a) _ d w3 hrd3 (by omega)).mono ?_
  rintro e w4 ⟨rfl, hb4⟩
  rw [N1.out, N2.out, N3.out]
  have s4 := hb4.size
  have hrd4 := (hrd3.below hb4).more s4
  have hcell4 := (bcell hb4 g (off + k) (by omega)).trans hcell3
  go_wp2_with fail
  refine (points_any s 0 _ d w4 hrd4 (by omega)).mono ?_
  rintro e w5 ⟨rfl, hb5⟩
  rw [Z1.out, Z2.out, Z3.out]
  have s5 := hb5.size
  have hcell5 := (bcell hb5 g (off + k) (by omega)).trans hcell4
  have hbW : Below w.heap.size w w5 := (((hb1.trans (hb2.mono s1)).trans (hb3.mono (by omega))).trans (hb4.mono (by omega))).trans (hb5.mono (by omega))
  clear hcell hcell2 hcell3 hcell4 hrd hrd2 hrd3 hrd4
  have m1 := M1.out
  have m2 := M2.out
  have fu : (!((s.length : Int) + moreS s a == 2 * (s.length : Int)) == decide (y ≤ a)) = false := by
    have h := FU.out
    have e : ((s.length : Int) + moreS s a == 2 * (s.length : Int)) = decide (y ≤ a) := by
      rw [Bool.eq_iff_iff, beq_iff_eq, decide_eq_true_iff, ← h]; omega
    rw [e]; cases decide (y ≤ a) <;> rfl
  clear M1 M2 FU
  have hS := hbW.size
  go_wp2_with fail
  all_goals first
    | (exfalso; omega)
    | (refine (awake_any _).mono ?_
       rintro e w6 ⟨rfl, hb6⟩
       go_wp2
       go_ret
       exact ⟨rfl, hbW.trans (hb6.mono hS)⟩)

end Go.Proofs.Ytkdbkokiieolpaa
