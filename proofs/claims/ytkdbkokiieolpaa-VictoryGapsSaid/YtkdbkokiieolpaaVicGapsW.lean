/- The walk of the statement VictoryGaps. -/
import Derived.Test.YtkdbkokiieolpaaVicScale
import Derived.Test.YtkdbkokiieolpaaVicLaw2
namespace Go.Proofs.Ytkdbkokiieolpaa
open Go.RowKit

set_option maxHeartbeats 2000000 in
set_option maxRecDepth 100000 in
theorem victoryGaps_walk (l : List Int) (n m : Int) (hn : 0 ≤ n ∧ n ≤ 255) (hm' : -32768 ≤ m ∧ m ≤ 32767) (A : Option Addr) (c : Nat) (w : World)
    (hl : Rd w w.heap.size 1 A l.length (u8C l)) (hu : U8s l) (hc : l.length ≤ c) (hm : c ≤ 9223372036854775807) :
    Calls Try.prog 4 #[.slice A l.length c, .int .u8 n, .int .i16 m] w fun e w' => e = .returned (.bool true) ∧ Below w.heap.size w w' := by
  have hr := scale_right l hu
  go_enter Try.func4, Try.ntmps4
  go_wp2_with fail
  refine (scale_any l A c w hl hu hc hm).mono ?_
  rintro e w1 ⟨v, rfl, hown, hb1⟩
  obtain ⟨B, d, rfl⟩ := own_form hown
  have hrd := Rd.of_own hown
  have s1 := hb1.size
  clear hown hl hu hc hm
  generalize scaleOf l = s at *
  have h50 : 1 ≤ s.length ∧ s.length ≤ 50 := ⟨((rightS_iff s).1 hr).1, ((rightS_iff s).1 hr).2.1⟩
  have q0 : 0 ≤ n % (2 * (s.length : Int) + 1) := Int.emod_nonneg _ (by omega)
  have q1 : n % (2 * (s.length : Int) + 1) ≤ 2 * (s.length : Int) := by have := Int.emod_lt_of_pos n (show 0 < 2 * (s.length : Int) + 1 by omega); omega
  obtain ⟨p, hp⟩ : ∃ p, n % (2 * (s.length : Int) + 1) = p := ⟨_, rfl⟩
  rw [hp] at q0 q1
  have law := mar_law s hr p ⟨q0, q1⟩
  have rm : -1000000 ≤ m ∧ m ≤ 1000000 := by omega
  have key : (ptsA s m = p ∧ marL s p ≤ m ∧ m ≤ marH s p) ∨ ((ptsA s m == p) = false ∧ m < marL s p) ∨ ((ptsA s m == p) = false ∧ marH s p < m) := by
    have := law.at_ m rm
    by_cases h1 : m < marL s p
    · exact .inr (.inl ⟨beq_eq_false_iff_ne.2 (fun e => by have := this.1 e; omega), h1⟩)
    · by_cases h2 : marH s p < m
      · exact .inr (.inr ⟨beq_eq_false_iff_ne.2 (fun e => by have := this.1 e; omega), h2⟩)
      · exact .inl ⟨this.2 (by omega), by omega, by omega⟩
  have e1 := Lib.hid law.e
  have e2 := Lib.hid (ptsE_ok s m hr rm)
  have e3 := Lib.hid (ptsE_ok s (marL s p) hr ⟨law.lo, by have := law.le; have := law.hi; omega⟩)
  have e4 := Lib.hid (ptsE_ok s (marH s p) hr ⟨by have := law.le; have := law.lo; omega, law.hi⟩)
  have x1 := Lib.hid ((law.at_ (marL s p) ⟨law.lo, by have := law.le; have := law.hi; omega⟩).2 ⟨by omega, law.le⟩)
  have x2 := Lib.hid ((law.at_ (marH s p) ⟨by have := law.le; have := law.lo; omega, law.hi⟩).2 ⟨law.le, by omega⟩)
  have nx : p < 2 * s.length → Hid (marL s (p + 1) = marH s p + 1) ∧ Hid (marE s (p + 1) = 0) := fun h => ⟨Lib.hid (law.next h), Lib.hid (mar_ok s hr (p + 1) ⟨by omega, by omega⟩)⟩
  have l1 := law.lo
  have l2 := law.le
  have l3 := law.hi
  have f0 := law.first
  have f1 := law.last
  clear law hr rm
  obtain ⟨lo, hlo⟩ : ∃ lo, marL s p = lo := ⟨_, rfl⟩
  obtain ⟨hi, hhi⟩ : ∃ hi, marH s p = hi := ⟨_, rfl⟩
  rw [hlo, hhi] at key
  rw [hlo] at x1 e3 l1 l2 f0
  rw [hhi] at x2 e4 l2 l3 f1 nx
  have Hlo := Lib.hid hlo
  have Hhi := Lib.hid hhi
  clear hlo hhi
  have Hp := Lib.hid hp
  clear hp
  go_wp2_with fail
  rw [Hp.out]
  refine (margins_any s p _ d w1 hrd (by omega)).mono ?_
  rintro e _ ⟨rfl, nq, rfl⟩
  have hb2 := below_drewN (Below.refl w1.heap.size w1) nq
  generalize w1.drewN nq = w2 at *
  rw [e1.out, Hlo.out, Hhi.out]
  have s2 := hb2.size
  have hrd2 := (hrd.below hb2).more s2
  clear Hp
  go_wp2_with fail
  refine (points_any s m _ d w2 hrd2 (by omega)).mono ?_
  rintro e w3 ⟨rfl, hb3⟩
  rw [e2.out]
  have s3 := hb3.size
  have hrd3 := (hrd2.below hb3).more s3
  have hbW : Below w.heap.size w w3 := (hb1.trans (hb2.mono s1)).trans (hb3.mono (by omega))
  clear hrd hrd2 hb1 hb2 hb3
  obtain ⟨x, hx⟩ : ∃ x, ptsA s m = x := ⟨_, rfl⟩
  rw [hx] at key
  rw [hx]
  clear hx e1 e2
  have f2 : p = 0 ∧ lo = -1000000 ∨ 0 < p := by by_cases h : p = 0; exact .inl ⟨h, f0 h⟩; exact .inr (by omega)
  have f3 : p = 2 * (s.length : Int) ∧ hi = 1000000 ∨ p < 2 * (s.length : Int) := by by_cases h : p = 2 * (s.length : Int); exact .inl ⟨h, f1 h⟩; exact .inr (by omega)
  clear f0 f1
  rcases key with ⟨hx, k1, k2⟩ | ⟨hx, k1⟩ | ⟨hx, k1⟩
  all_goals
    first | obtain rfl : p = x := hx.symm | skip
    go_wp2_with fail
    refine (points_any s lo _ d w3 hrd3 (by omega)).mono ?_
    rintro e w4 ⟨rfl, hb4⟩
    rw [x1.out, e3.out]
    have s4 := hb4.size
    have hrd4 := (hrd3.below hb4).more s4
    go_wp2_with fail
    refine (points_any s hi _ d w4 hrd4 (by omega)).mono ?_
    rintro e w5 ⟨rfl, hb5⟩
    rw [x2.out, e4.out]
    have s5 := hb5.size
    have hrd5 := (hrd4.below hb5).more s5
    have hbW5 : Below w.heap.size w w5 := (hbW.trans (hb4.mono (by have := hbW.size; omega))).trans (hb5.mono (by have := hbW.size; omega))
    clear hrd3 hrd4 hb4 hb5 hbW
    have sW := hbW5.size
    rcases f3 with ⟨f3, f4⟩ | f3
    · -- all points
      have t0 : (0 : Int) < 2 * (s.length : Int) := by omega
      first | subst f3 | skip
      subst f4
      clear f2 nx
      go_wp2_with fail
      all_goals
        refine (awake_any _).mono ?_
        rintro e w6 ⟨rfl, hb6⟩
        go_wp2
        go_ret
        exact ⟨rfl, hbW5.trans (hb6.mono sW)⟩
    · obtain ⟨nx1, nx2⟩ := nx f3
      clear nx
      have t1 : (p == 2 * (s.length : Int)) = false := beq_eq_false_iff_ne.2 (by omega)
      rcases f2 with ⟨f2, f4⟩ | f2
      · subst f4
        subst f2
        have y1 := Lib.hid (show marL s 1 = hi + 1 from nx1.out)
        have y2 := Lib.hid (show marE s 1 = 0 from nx2.out)
        go_wp2_with fail
        refine (margins_any s _ _ d w5 hrd5 (by omega)).mono ?_
        rintro e _ ⟨rfl, nq2, rfl⟩
        have hb6 := below_drewN (Below.refl w5.heap.size w5) nq2
        generalize w5.drewN nq2 = w6 at *
        rw [y1.out, y2.out]
        have hbW6 := hbW5.trans (hb6.mono sW)
        go_wp2_with fail
        refine (awake_any _).mono ?_
        rintro e w7 ⟨rfl, hb7⟩
        go_wp2
        go_ret
        exact ⟨rfl, hbW6.trans (hb7.mono hbW6.size)⟩
      · have t2 : (p == 0) = false := beq_eq_false_iff_ne.2 (by omega)
        go_wp2_with fail
        refine (margins_any s _ _ d w5 hrd5 (by omega)).mono ?_
        rintro e _ ⟨rfl, nq2, rfl⟩
        have hb6 := below_drewN (Below.refl w5.heap.size w5) nq2
        generalize w5.drewN nq2 = w6 at *
        rw [nx1.out, nx2.out]
        have hbW6 := hbW5.trans (hb6.mono sW)
        go_wp2_with fail
        refine (awake_any _).mono ?_
        rintro e w7 ⟨rfl, hb7⟩
        go_wp2
        go_ret
        exact ⟨rfl, hbW6.trans (hb7.mono hbW6.size)⟩

end Go.Proofs.Ytkdbkokiieolpaa
