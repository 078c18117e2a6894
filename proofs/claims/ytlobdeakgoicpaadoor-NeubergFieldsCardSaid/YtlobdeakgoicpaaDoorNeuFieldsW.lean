/- The walk of the statement NeubergFields. -/
import Derived.Test.YtlobdeakgoicpaaDoorNeuRefW
import Derived.Test.YtlobdeakgoicpaaDoorNeuAwakeW
namespace Go.Proofs.YtlobdeakgoicpaaDoor
open Go.RowKit

theorem ptsErr_cases (L : List (List Pt)) : (ptsErr L = 2) ∨ (∀ o ∈ L, rightM o = true) := by
  unfold ptsErr
  by_cases h1 : okAll L = true
  · exact Or.inr (List.all_eq_true.1 h1)
  · exact Or.inl (if_neg h1)

/-- Both functions return the same for any results. -/
theorem field_pair (L : List (List Pt)) (all : Int) (hn : L.length ≤ 30) (hlen : ∀ o ∈ L, o.length ≤ 10) :
    ∃ (R : List Pt) (E : Int), R.length ≤ 1000 ∧
      (∀ (A : Option Addr) (c : Nat) (w : World), Laid w → RdL w w.heap.size A L → Calls Tryd.prog 21 #[.slice A L.length c, .int .i64 all] w fun e w' => ∃ P k, e = .returned (.tuple #[.slice P R.length k, .int .i64 E]) ∧ Rd w' w'.heap.size 2 P R.length (pC R) ∧ Below w.heap.size w w') ∧
      (∀ (A : Option Addr) (c : Nat) (w : World), RdL w w.heap.size A L → Calls Tryd.prog 22 #[.slice A L.length c, .int .i64 all] w fun e w' => ∃ P k, e = .returned (.tuple #[.slice P R.length k, .int .i64 E]) ∧ Rd w' w'.heap.size 2 P R.length (pC R) ∧ Below w.heap.size w w') := by
  have hlen' : ∀ o ∈ L, o.length ≤ 1000 := fun o ho => Nat.le_trans (hlen o ho) (by decide)
  by_cases ha : 1 ≤ all ∧ all ≤ 24
  case neg =>
    have hb : boardB (L.length : Int) all = false := by
      cases h : boardB (L.length : Int) all with
      | false => rfl
      | true => exact absurd ((boardB_iff _ all).1 h) (by omega)
    refine ⟨[], 2, by decide, fun A c w _ _ => ?_, fun A c w _ => ?_⟩
    · exact (nfield_b1 A _ c all w ha).mono fun e w' ⟨h, hw⟩ => ⟨none, 0, h, Rd.nil_, by rw [← hw]; exact Below.refl _ _⟩
    · exact (r21field_b1 A _ c all w hb).mono fun e w' ⟨h, hw⟩ => ⟨none, 0, h, Rd.nil_, by rw [← hw]; exact Below.refl _ _⟩
  by_cases hl : all < (L.length : Int)
  · have hb : boardB (L.length : Int) all = false := by
      cases h : boardB (L.length : Int) all with
      | false => rfl
      | true => exact absurd ((boardB_iff _ all).1 h) (by omega)
    refine ⟨[], 2, by decide, fun A c w _ _ => ?_, fun A c w _ => ?_⟩
    · exact (nfield_b3 A _ c all w ha hl).mono fun e w' ⟨h, hw⟩ => ⟨none, 0, h, Rd.nil_, by rw [← hw]; exact Below.refl _ _⟩
    · exact (r21field_b1 A _ c all w hb).mono fun e w' ⟨h, hw⟩ => ⟨none, 0, h, Rd.nil_, by rw [← hw]; exact Below.refl _ _⟩
  have hb : boardB (L.length : Int) all = true := (boardB_iff _ all).2 ⟨ha.1, ha.2, by omega, by omega⟩
  rcases ptsErr_cases L with he | hro
  · refine ⟨[], 2, by decide, fun A c w _ hA => ?_, fun A c w hA => ?_⟩
    · exact (nfield_b2 L A c all w ha (by omega) hA hlen' he).mono fun e w' ⟨h, hw⟩ => ⟨none, 0, h, Rd.nil_, hw⟩
    · exact (r21field_b2 L A c all w hb hA (by omega) hlen' he).mono fun e w' ⟨h, hw⟩ => ⟨none, 0, h, Rd.nil_, by rw [← hw]; exact Below.refl _ _⟩
  · refine ⟨adjL L all, 0, by rw [adjL_len]; omega, fun A c w hL hA => ?_, fun A c w hA => ?_⟩
    · refine (nfield L A c all w hL hA (by omega) ha hro).mono ?_
      rintro e w' ⟨v, rfl, ho, hw⟩
      obtain ⟨P, k, rfl⟩ := own_form ho
      exact ⟨P, k, by rw [adjL_len], by rw [adjL_len]; exact Rd.of_own ho, hw⟩
    · refine (r21field_ok L A c all w ha (by omega) hA hro).mono ?_
      rintro e w' ⟨v, rfl, ho, hw⟩
      obtain ⟨P, k, rfl⟩ := own_form ho
      exact ⟨P, k, by rw [adjL_len], by rw [adjL_len]; exact Rd.of_own ho, hw⟩

set_option maxHeartbeats 4000000 in
set_option maxRecDepth 100000 in
theorem nfields_walk (L : List (List Pt)) (all : Int) (A : Option Addr) (c : Nat) (w : World) (hL : Laid w) (hA : RdL w w.heap.size A L) (hc : L.length ≤ c) (hm : c ≤ 9223372036854775807) (hbig : ∀ o ∈ L, o.length ≤ 9223372036854775807) :
    Calls Tryd.prog 4 #[.slice A L.length c, .int .i64 all] w fun e w' => e = .returned (.bool true) ∧ Below w.heap.size w w' := by
  have HA := Lib.hid hA
  have HL := Lib.hid hL
  have Hbig := Lib.hid hbig
  clear hA hL hbig
  go_enter Tryd.func4, Tryd.ntmps4
  go_wp2
  go_loop [17] (fun i => ∃ k : Nat, k ≤ L.length ∧ i = .int .i64 (k : Int) ∧ Hid (∀ j (hj : j < L.length), j < k → (L[j]).length ≤ 10)) (fun i => L.length - (intOf i).toNat)
  case atStart => exact ⟨0, by omega, rfl, fun j _ h => by omega⟩
  case round =>
    obtain ⟨k, hk, rfl, hok⟩ := hrel
    by_cases hlt : k < L.length
    · obtain ⟨b, off, Ak, ck, rfl, hbw, hc1, hc2, hc3⟩ := HA.out k hlt
      have hnb := Hbig.out _ (List.getElem_mem hlt)
      obtain ⟨nk, hnk⟩ : ∃ nk, (L[k]).length = nk := ⟨_, rfl⟩
      have Hnk := Lib.hid hnk
      rw [hnk] at hc1 hnb
      clear hc2 hc3 hnk
      by_cases h10 : 10 < nk
      · go_wp2_with fail
        refine (nawake _ HL.out).mono ?_
        rintro e w1 ⟨rfl, hb1⟩
        go_wp2
        go_ret
        exact ⟨rfl, hb1⟩
      · go_wp2
        go_round
        case rel =>
          refine ⟨k + 1, by omega, by go_num, fun j hj h => ?_⟩
          by_cases e : j = k
          · subst e; rw [Hnk.out]; omega
          · exact hok.out j hj (by omega)
        case measure => simp [intOf]; omega
    · have Hall := Lib.hid (show ∀ o ∈ L, o.length ≤ 10 from fun o ho => by
        obtain ⟨j, hj, rfl⟩ := List.getElem_of_mem ho
        exact hok.out j hj (by omega))
      have Hall' := Lib.hid (show ∀ o ∈ L, o.length ≤ 1000 from fun o ho => Nat.le_trans (Hall.out o ho) (by decide))
      have t0 : decide ((k : Int) < (L.length : Int)) = false := decide_eq_false (by omega)
      by_cases h30 : 30 < L.length
      · go_wp2_with fail
        refine (nawake _ HL.out).mono ?_
        rintro e w1 ⟨rfl, hb1⟩
        go_wp2
        go_ret
        exact ⟨rfl, hb1⟩
      have t30 : decide (30 < (L.length : Int)) = false := decide_eq_false (by omega)
      obtain ⟨R, E, hR, HF1, HF2⟩ := field_pair L all (by omega) Hall.out
      have HF1 := Lib.hid HF1
      have HF2 := Lib.hid HF2
      go_wp2_with fail
      refine (theirs21 L A c w HA.out (by omega) Hall'.out).mono ?_
      rintro e w1 ⟨v1, xs1, rfl, ho1, hol1, hb1⟩
      obtain ⟨B, d, rfl⟩ := own_form ho1
      have HB1 := Lib.hid (rdl_of_own ho1 hol1)
      have HA1 := Lib.hid (HA.out.go hb1)
      have HL1 := Lib.hid (HL.out.below hb1 HL.out.lt)
      have s1 := hb1.size
      clear ho1 hol1
      go_wp2_with fail
      refine (HF1.out A c w1 HL1.out HA1.out).mono ?_
      rintro e w2 ⟨P2, k2, rfl, hr2, hb2⟩
      have HB2 := Lib.hid (HB1.out.go hb2)
      have hB2 := hb1.trans (hb2.mono s1)
      have Hr2 := Lib.hid hr2
      have HA2 := Lib.hid (HA1.out.go hb2)
      have HL2 := Lib.hid (HL1.out.below hb2 HL1.out.lt)
      clear hr2 hb2
      go_wp2_with fail
      refine (HF2.out B d w2 HB2.out).mono ?_
      rintro e w3 ⟨P3, k3, rfl, hr3, hb3⟩
      have Hr3 := Lib.hid hr3
      have Hr23 := Lib.hid (Hr2.out.go hb3)
      have HB3 := Lib.hid (HB2.out.go hb3)
      have HA3 := Lib.hid (HA2.out.go hb3)
      have HL3 := Lib.hid (HL2.out.below hb3 HL2.out.lt)
      have hB3 := hB2.trans (hb3.mono hB2.size)
      clear hr3 hb3 hB2 hb1 HF1 HF2
      go_wp2_with fail
      refine (fracs_eq R _ _ rfl rfl P2 P3 k2 k3 w3 Hr23.out Hr3.out hR).mono ?_
      rintro e _ ⟨rfl, n2, rfl⟩
      have hb5 := below_drewN (Below.refl w3.heap.size w3) n2
      have HL5 := Lib.hid (HL3.out.below hb5 HL3.out.lt)
      have HA5 := Lib.hid (HA3.out.go hb5)
      have HB5 := Lib.hid (HB3.out.go hb5)
      have hB5 := hB3.trans (hb5.mono hB3.size)
      generalize w3.drewN n2 = w5 at *
      have s5 := hB5.size
      clear hb5
      go_wp2_with fail
      refine (theirs21 L A c w5 HA5.out (by omega) Hall'.out).mono ?_
      rintro e w6 ⟨v6, xs6, rfl, ho6, hol6, hb6⟩
      obtain ⟨C, f, rfl⟩ := own_form ho6
      have HC6 := Lib.hid (rdl_of_own ho6 hol6)
      have HB6 := Lib.hid (HB5.out.go hb6)
      have HL6 := Lib.hid (HL5.out.below hb6 HL5.out.lt)
      have hB6 := hB5.trans (hb6.mono s5)
      clear ho6 hol6 hb6 HA5 HB5 HL5
      go_wp2_with fail
      go_loopw [56] (fun i wr => ∃ k nq : Nat, k ≤ L.length ∧ i = .int .i64 (k : Int) ∧ wr = w6.drewN nq) (fun i _ => L.length - (intOf i).toNat)
      case atStart => exact ⟨0, 0, by omega, rfl, rfl⟩
      case round =>
        obtain ⟨j, nq, hj, rfl, hw⟩ := hrel
        have HW := Lib.hid hw
        clear hw
        by_cases hlt2 : j < L.length
        · obtain ⟨b, off, Ak, ck, rfl, hbw, hc1, hc2, hc3⟩ := HB6.out j hlt2
          obtain ⟨b', off', Ak', ck', rfl, hbw', hd1, hd2, hd3⟩ := HC6.out j hlt2
          have q2 : wr.cell? ⟨b', off' + j, none⟩ = some (.slice Ak' (L[j]).length ck') := by rw [HW.out]; exact hd1
          have jj1 : (j : Int) < (L.length : Int) := by omega
          have jj2 : (0 : Int) ≤ (j : Int) := by omega
          have t1 : decide ((j : Int) < (L.length : Int)) = true := decide_eq_true (by omega)
          have Hx := Lib.hid hc3
          have Hy := Lib.hid hd3
          have Hc1 := Lib.hid hc1
          have hr10 := Hall.out _ (List.getElem_mem hlt2)
          obtain ⟨r, hr⟩ : ∃ r, L[j] = r := ⟨_, rfl⟩
          rw [hr] at q2 Hx Hy Hc1 hr10
          clear hc1 hc2 hc3 hd1 hd2 hd3 hr
          go_wp2_with fail
          go_loopw [63] (fun i wr => ∃ q nq : Nat, q ≤ r.length ∧ i = .int .i64 (q : Int) ∧ wr = w6.drewN nq) (fun i _ => r.length - (intOf i).toNat)
          case atStart => exact ⟨0, nq, by omega, rfl, HW.out⟩
          case round =>
            obtain ⟨q, nq2, hq, rfl, hw2⟩ := hrel
            have HW2 := Lib.hid hw2
            clear hw2
            by_cases hltq : q < r.length
            · obtain ⟨b1, off1, rfl, hbw1, x1, x2⟩ := rd_p Hx.out q hltq
              obtain ⟨b2, off2, rfl, hbw2, y1, y2⟩ := rd_p Hy.out q hltq
              have q1 : wr.cell? ⟨b, off + j, none⟩ = some (.slice (some ⟨b1, off1, none⟩) r.length ck) := by rw [HW2.out]; exact Hc1.out
              have p1 : wr.cell? ⟨b1, off1 + q * 2, none⟩ = some (.int .i64 r[q].1) := by rw [HW2.out]; exact x1
              have p2 : wr.cell? ⟨b1, off1 + q * 2 + 1, none⟩ = some (.int .i64 r[q].2) := by rw [HW2.out]; exact x2
              have p3 : wr.cell? ⟨b2, off2 + q * 2, none⟩ = some (.int .i64 r[q].1) := by rw [HW2.out]; exact y1
              have p4 : wr.cell? ⟨b2, off2 + q * 2 + 1, none⟩ = some (.int .i64 r[q].2) := by rw [HW2.out]; exact y2
              have q11 : (q : Int) < (r.length : Int) := by omega
              have q12 : (0 : Int) ≤ (q : Int) := by omega
              clear x1 x2 y1 y2
              generalize r[q].1 = x at p1 p3
              generalize r[q].2 = y at p2 p4
              go_wp2
              go_quiet (fail)
              go_wp2
              go_roundw
              case rel => exact ⟨q + 1, _, by omega, by go_num, by rw [HW2.out, World.drewN_drewN]⟩
              case measure => simp [intOf]; omega
            · have t0 : decide ((q : Int) < (r.length : Int)) = false := decide_eq_false (by omega)
              go_wp2
              go_roundw
              case rel => exact ⟨j + 1, nq2, by omega, by go_num, HW2.out⟩
              case measure => simp [intOf]; omega
        · have hbd := below_drewN (Below.refl w6.heap.size w6) nq
          rw [← HW.out] at hbd
          have hB7 := hB6.trans (hbd.mono hB6.size)
          have HL7 := Lib.hid (HL6.out.below hbd HL6.out.lt)
          have t0 : decide ((j : Int) < (L.length : Int)) = false := decide_eq_false (by omega)
          go_wp2_with fail
          refine (nawake _ HL7.out).mono ?_
          rintro e w8 ⟨rfl, hb8⟩
          go_wp2
          go_ret
          exact ⟨rfl, hB7.trans (hb8.mono hB7.size)⟩

end Go.Proofs.YtlobdeakgoicpaaDoor
