/- The walk of the statement VictoryUsual. -/
import Derived.Test.YtkdbkokiieolpaaVicAwake
import Derived.Test.YtkdbkokiieolpaaVicLaw2
namespace Go.Proofs.Ytkdbkokiieolpaa
open Go.RowKit

theorem least_strict (t m : Int) (h : least4 t m) (ht : 0 < t) : 4 * (m - 1) * (m - 1) < t := by
  rcases h.1.2 with h1 | h1
  · rw [h1]; simpa using ht
  · exact h1
theorem want_pos (b k : Int) (hb : 1 ≤ b) (hk : 1 ≤ k) : 0 < want b k := by
  unfold want; exact Int.mul_pos (Int.mul_pos (by omega) (by omega)) (by omega)
theorem want_more (b c k : Int) (hk : 0 ≤ k) (h : b ≤ c) : want b k ≤ want c k := by
  unfold want; exact Int.mul_le_mul_of_nonneg_left h (Int.mul_nonneg (by omega) hk)
theorem want_four (b k : Int) : want (4 * b) k = 4 * want b k := by unfold want; grind
theorem usual_open (b : Int) (L : List Int) (hL : L.length = 10) (h : isUsual b L) (j : Nat) (hj : j < 10) : least4 (want b (j + 1)) (L[j]'(by omega)) := h j (by omega)

set_option maxHeartbeats 2000000 in
set_option maxRecDepth 100000 in
theorem victoryUsual_walk (n : Int) (hn : 0 ≤ n ∧ n ≤ 255) (w : World) :
    Calls Try.prog 5 #[.int .u8 n] w fun e w' => e = .returned (.bool true) ∧ Below w.heap.size w w' := by
  obtain ⟨b, hb⟩ : ∃ b, 1 + n % 128 = b := ⟨_, rfl⟩
  have hb1 : 1 ≤ b ∧ b ≤ 128 := by omega
  have Hb := Lib.hid hb
  clear hb
  go_enter Try.func5, Try.ntmps5
  go_wp2_with fail
  rw [Hb.out]
  refine (usual_any b _ hb1).mono ?_
  rintro e w1 ⟨v, L, rfl, hown, hL, hus, hbe⟩
  obtain ⟨A, c, rfl⟩ := own_form hown
  have hrd : Rd w1 w1.heap.size 1 A L.length (iC L) := hL ▸ Rd.of_own hown
  have hrr := Lib.hid (usual_right b hb1 L hL hus)
  have HL := Lib.hid hL
  have Hus := Lib.hid hus
  have s1 := hbe.size
  clear hown hL hus
  go_wp2_with fail
  refine ((HL.out ▸ right_any L A c w1 hrd (by rw [HL.out]; decide))).mono ?_
  rintro e _ ⟨rfl, rfl⟩
  rw [hrr.out]
  go_wp2_with fail
  go_loop [38] (fun i => ∃ k : Nat, k ≤ 10 ∧ i = .int .i64 (k : Int)) (fun i => 10 - (intOf i).toNat)
  case atStart => exact ⟨0, by omega, rfl⟩
  case round =>
    obtain ⟨k, hk, rfl⟩ := hrel
    by_cases hlt : k < 10
    · obtain ⟨g, off, rfl, hg, hc⟩ := rd_i hrd k (by rw [HL.out]; omega)
      have hle := usual_open b L HL.out Hus.out k hlt
      have hw := want_bd b (k + 1) hb1 (by omega)
      have hst := least_strict _ _ hle (want_pos b (k + 1) hb1.1 (by omega))
      have hle2 := hle.2
      have hbd := usual_bd b hb1 L HL.out Hus.out k (by rw [HL.out]; omega)
      generalize (L[k]'(by rw [HL.out]; omega)) = y at hc hle hle2 hst hbd
      have q1 := sq4_bd y (by omega)
      have q2 := sq4_bd (y - 1) (by omega)
      have hw1 : 0 ≤ 9 * ((k : Int) + 1) * ((k : Int) + 1) ∧ 9 * ((k : Int) + 1) * ((k : Int) + 1) ≤ 900 := ⟨hw.1, hw.2.1⟩
      have hw2 : 0 ≤ 9 * ((k : Int) + 1) * ((k : Int) + 1) * b ∧ 9 * ((k : Int) + 1) * ((k : Int) + 1) * b ≤ 115200 := ⟨hw.2.2.1, hw.2.2.2⟩
      have h1 : 9 * ((k : Int) + 1) * ((k : Int) + 1) * b ≤ 4 * y * y := hle2
      have h2 : 4 * (y - 1) * (y - 1) < 9 * ((k : Int) + 1) * ((k : Int) + 1) * b := hst
      clear hw hle hle2 hst
      go_wp2
      go_round
      case rel => exact ⟨k + 1, by omega, by go_num⟩
      case measure => simp [intOf]; omega
    · obtain rfl : k = 10 := by omega
      by_cases hb128 : b < 128
      · go_wp2_with fail
        refine (usual_any (b + 1) _ (by omega)).mono ?_
        rintro e w2 ⟨v2, M, rfl, hown2, hM, hus2, hbe2⟩
        obtain ⟨A2, c2, rfl⟩ := own_form hown2
        have hrd2 : Rd w2 w2.heap.size 1 A2 M.length (iC M) := hM ▸ Rd.of_own hown2
        have HM := Lib.hid hM
        have Hus2 := Lib.hid hus2
        have s2 := hbe2.size
        have hrd1 := (hrd.below hbe2).more s2
        have hB2 := hbe.trans (hbe2.mono s1)
        clear hown2 hM hus2 hrd
        go_wp2_with fail
        go_loopw [91] (fun i wr => ∃ k : Nat, k ≤ 10 ∧ i = .int .i64 (k : Int) ∧ Below w2.heap.size w2 wr) (fun i _ => 10 - (intOf i).toNat)
        case atStart => exact ⟨0, by omega, rfl, Below.refl _ _⟩
        case round =>
          obtain ⟨k, hk, rfl, hbr⟩ := hrel
          by_cases hlt : k < 10
          · obtain ⟨g1, o1, rfl, hg1, hc1⟩ := rd_i hrd1 k (by rw [HL.out]; omega)
            obtain ⟨g2, o2, rfl, hg2, hc2⟩ := rd_i hrd2 k (by rw [HM.out]; omega)
            have hx1 := (bcell hbr g1 (o1 + k) hg1).trans hc1
            have hx2 := (bcell hbr g2 (o2 + k) hg2).trans hc2
            have hcmp := least_le _ _ _ _ (want_more b (b + 1) (k + 1) (by omega) (by omega)) (usual_open b L HL.out Hus.out k hlt) (usual_open (b + 1) M HM.out Hus2.out k hlt)
            have j1 : (k : Int) < 10 := by omega
            have j2 : (0 : Int) ≤ (k : Int) := by omega
            clear hc1 hc2
            generalize (L[k]'(by rw [HL.out]; omega)) = y at hx1 hcmp
            generalize (M[k]'(by rw [HM.out]; omega)) = z at hx2 hcmp
            go_wp2
            go_quiet (fail)
            go_wp2
            go_roundw
            case rel => exact ⟨k + 1, by omega, by go_num, (by repeat (first | exact Below.refl _ _ | assumption | refine Below.drew ?_ | refine below_drewN ?_ _ | refine Below.alloc ?_ (by first | omega | (simp; done) | (simp; omega)) _ | refine Below.setCell ?_ (by first | omega | (simp; done) | (simp; omega)) _))⟩
            case measure => simp [intOf]; omega
          · obtain rfl : k = 10 := by omega
            have hr1 := (hrd1.below hbr).more hbr.size
            have hB3 := hB2.trans (hbr.mono hB2.size)
            obtain ⟨w3, rfl⟩ : ∃ w3 : World, w3 = wr := ⟨_, rfl⟩
            clear hrd1 hrd2 hbr hbe2 hbe
            by_cases hb32 : b ≤ 32
            · go_wp2_with fail
              refine (usual_any (4 * b) _ (by omega)).mono ?_
              rintro e w4 ⟨v4, F, rfl, hown4, hF, hus4, hbe4⟩
              obtain ⟨A4, c4, rfl⟩ := own_form hown4
              have hrd4 : Rd w4 w4.heap.size 1 A4 F.length (iC F) := hF ▸ Rd.of_own hown4
              have HF := Lib.hid hF
              have Hus4 := Lib.hid hus4
              have s4 := hbe4.size
              have hr14 := (hr1.below hbe4).more s4
              have hB4 := hB3.trans (hbe4.mono hB3.size)
              clear hown4 hF hus4 hr1
              go_wp2_with fail
              go_loopw [123] (fun i wr => ∃ k : Nat, k ≤ 10 ∧ i = .int .i64 (k : Int) ∧ Below w4.heap.size w4 wr) (fun i _ => 10 - (intOf i).toNat)
              case atStart => exact ⟨0, by omega, rfl, Below.refl _ _⟩
              case round =>
                obtain ⟨k, hk, rfl, hbr⟩ := hrel
                by_cases hlt : k < 10
                · obtain ⟨g1, o1, rfl, hg1, hc1⟩ := rd_i hr14 k (by rw [HL.out]; omega)
                  obtain ⟨g2, o2, rfl, hg2, hc2⟩ := rd_i hrd4 k (by rw [HF.out]; omega)
                  have hx1 := (bcell hbr g1 (o1 + k) hg1).trans hc1
                  have hx2 := (bcell hbr g2 (o2 + k) hg2).trans hc2
                  have hcmp := least_four _ _ _ (usual_open b L HL.out Hus.out k hlt) (by have := usual_open (4 * b) F HF.out Hus4.out k hlt; rw [want_four] at this; exact this)
                  have hbd := usual_bd b hb1 L HL.out Hus.out k (by rw [HL.out]; omega)
                  have j1 : (k : Int) < 10 := by omega
                  have j2 : (0 : Int) ≤ (k : Int) := by omega
                  clear hc1 hc2
                  generalize (L[k]'(by rw [HL.out]; omega)) = y at hx1 hcmp hbd
                  generalize (F[k]'(by rw [HF.out]; omega)) = z at hx2 hcmp
                  have i1 : IntKind.i64.wrap (2 * y) = 2 * y := IntWalk.i64_in _ (by omega)
                  have i2 : IntKind.i64.wrap (2 * y - 2) = 2 * y - 2 := IntWalk.i64_in _ (by omega)
                  have t1 : decide (2 * y < z) = false := decide_eq_false (by omega)
                  have t2 : decide (z ≤ 2 * y - 2) = false := decide_eq_false (by omega)
                  go_wp2
                  go_quiet (fail)
                  go_wp2
                  go_roundw
                  case rel => exact ⟨k + 1, by omega, by go_num, (by repeat (first | exact Below.refl _ _ | assumption | refine Below.drew ?_ | refine below_drewN ?_ _ | refine Below.alloc ?_ (by first | omega | (simp; done) | (simp; omega)) _ | refine Below.setCell ?_ (by first | omega | (simp; done) | (simp; omega)) _))⟩
                  case measure => simp [intOf]; omega
                · obtain rfl : k = 10 := by omega
                  have hB5 := hB4.trans (hbr.mono hB4.size)
                  go_wp2_with fail
                  refine (awake_any _).mono ?_
                  rintro e w6 ⟨rfl, hb6⟩
                  go_wp2
                  go_ret
                  exact ⟨rfl, hB5.trans (hb6.mono hB5.size)⟩
            · go_wp2_with fail
              refine (awake_any _).mono ?_
              rintro e w6 ⟨rfl, hb6⟩
              go_wp2
              go_ret
              exact ⟨rfl, hB3.trans (hb6.mono hB3.size)⟩
      · obtain rfl : b = 128 := by omega
        go_wp2_with fail
        refine (awake_any _).mono ?_
        rintro e w6 ⟨rfl, hb6⟩
        go_wp2
        go_ret
        exact ⟨rfl, hbe.trans (hb6.mono s1)⟩

end Go.Proofs.Ytkdbkokiieolpaa
