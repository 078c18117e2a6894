/- The walk of the statement MatchPoints. -/
import Derived.Test.YteemknjnlocgpaaDoorMatAwake
namespace Go.Proofs.YteemknjnlocgpaaDoor
open Go.RowKit

theorem ptsErr_zero (L : List (List Pt)) (h : ptsErr L = 0) : L.length ≤ 24 ∧ ∀ o ∈ L, rightM o = true := by
  unfold ptsErr at h
  by_cases h1 : okAll L = true
  · rw [if_pos h1] at h
    by_cases h2 : 24 < L.length
    · rw [if_pos h2] at h; exact absurd h (by decide)
    · exact ⟨by omega, List.all_eq_true.1 h1⟩
  · rw [if_neg h1] at h; exact absurd h (by decide)

set_option maxHeartbeats 4000000 in
set_option maxRecDepth 100000 in
theorem matchPoints_walk (L : List (List Pt)) (A : Option Addr) (c : Nat) (w : World) (hL : Laid w) (hA : RdL w w.heap.size A L) (hc : L.length ≤ c) (hm : c ≤ 9223372036854775807) (hbig : ∀ o ∈ L, o.length ≤ 9223372036854775807) :
    Calls Tryd.prog 3 #[.slice A L.length c] w fun e w' => e = .returned (.bool true) ∧ Below w.heap.size w w' := by
  have HA := Lib.hid hA
  have HL := Lib.hid hL
  have Hbig := Lib.hid hbig
  clear hA hL hbig
  go_enter Tryd.func3, Tryd.ntmps3
  go_wp2
  go_loop [13] (fun i => ∃ k : Nat, k ≤ L.length ∧ i = .int .i64 (k : Int) ∧ Hid (∀ j (hj : j < L.length), j < k → (L[j]).length ≤ 10)) (fun i => L.length - (intOf i).toNat)
  case atStart => exact ⟨0, by omega, rfl, fun j _ h => by omega⟩
  case round =>
    obtain ⟨k, hk, rfl, hok⟩ := hrel
    by_cases hlt : k < L.length
    · obtain ⟨b, off, Ak, ck, rfl, hbw, hc1, hc2, hc3⟩ := HA.out k hlt
      have hnb := Hbig.out _ (List.getElem_mem hlt)
      obtain ⟨nk, hnk⟩ : ∃ nk, (L[k]).length = nk := ⟨_, rfl⟩
      have Hnk := Lib.hid hnk
      rw [hnk] at hc1 hnb
      clear hc2 hc3 hnk
      by_cases h10 : 10 < nk
      · go_wp2_with fail
        refine (awake_any _ HL.out).mono ?_
        rintro e w1 ⟨rfl, hb1⟩
        go_wp2
        go_ret
        exact ⟨rfl, hb1⟩
      · go_wp2
        go_round
        case rel =>
          refine ⟨k + 1, by omega, by go_num, fun j hj h => ?_⟩
          by_cases e : j = k
          · subst e; rw [Hnk.out]; omega
          · exact hok.out j hj (by omega)
        case measure => simp [intOf]; omega
    · have Hall := Lib.hid (show ∀ o ∈ L, o.length ≤ 1000 from fun o ho => by
        obtain ⟨j, hj, rfl⟩ := List.getElem_of_mem ho
        have := hok.out j hj (by omega); omega)
      have t0 : decide ((k : Int) < (L.length : Int)) = false := decide_eq_false (by omega)
      by_cases h30 : 30 < L.length
      · go_wp2_with fail
        refine (awake_any _ HL.out).mono ?_
        rintro e w1 ⟨rfl, hb1⟩
        go_wp2
        go_ret
        exact ⟨rfl, hb1⟩
      have t30 : decide (30 < (L.length : Int)) = false := decide_eq_false (by omega)
      go_wp2_with fail
      refine (copied_any L A c w HA.out (by omega) Hall.out).mono ?_
      rintro e w1 ⟨v1, xs1, rfl, ho1, hol1, hb1⟩
      obtain ⟨B, d, rfl⟩ := own_form ho1
      have HB1 := Lib.hid (rdl_of_own ho1 hol1)
      have HA1 := Lib.hid (HA.out.go hb1)
      have HL1 := Lib.hid (HL.out.below hb1 HL.out.lt)
      have s1 := hb1.size
      clear ho1 hol1
      by_cases hz : ptsErr L = 0
      · obtain ⟨h24, hro⟩ := ptsErr_zero L hz
        have Hro := Lib.hid hro
        clear hz hro
        go_wp2_with fail
        refine (points_any L A c w1 HL1.out HA1.out h24 Hro.out).mono ?_
        rintro e w2 ⟨v2, rfl, ho2, hb2⟩
        obtain ⟨P2, k2, rfl⟩ := own_form ho2
        have HB2 := Lib.hid (HB1.out.go hb2)
        have hB2 := hb1.trans (hb2.mono s1)
        have Hr2 := Lib.hid (show Rd w2 w2.heap.size 2 P2 (ptsL L).length (pC (ptsL L)) by rw [ptsL_len]; exact Rd.of_own ho2)
        have HA2 := Lib.hid (HA1.out.go hb2)
        have HL2 := Lib.hid (HL1.out.below hb2 HL1.out.lt)
        clear ho2 hb2
        go_wp2_with fail
        refine (pointsR_any L B d w2 HB2.out h24 Hro.out).mono ?_
        rintro e w3 ⟨v3, rfl, ho3, hb3⟩
        obtain ⟨P3, k3, rfl⟩ := own_form ho3
        have Hr3 := Lib.hid (show Rd w3 w3.heap.size 2 P3 (ptsL L).length (pC (ptsL L)) by rw [ptsL_len]; exact Rd.of_own ho3)
        have Hr23 := Lib.hid (Hr2.out.go hb3)
        have HB3 := Lib.hid (HB2.out.go hb3)
        have HA3 := Lib.hid (HA2.out.go hb3)
        have HL3 := Lib.hid (HL2.out.below hb3 HL2.out.lt)
        have hB3 := hB2.trans (hb3.mono hB2.size)
        clear ho3 hb3 hB2 hb1
        go_wp2_with fail
        go_loopw [40] (fun i wr => ∃ k nq : Nat, k ≤ L.length ∧ i = .int .i64 (k : Int) ∧ wr = w3.drewN nq) (fun i _ => L.length - (intOf i).toNat)
        case atStart => exact ⟨0, 0, by omega, rfl, rfl⟩
        case round =>
          obtain ⟨j, nq, hj, rfl, hw⟩ := hrel
          have HW := Lib.hid hw
          clear hw
          by_cases hlt2 : j < L.length
          · obtain ⟨b, off, Ak, ck, rfl, hbw, hc1, hc2, hc3⟩ := HA3.out j hlt2
            obtain ⟨b', off', Ak', ck', rfl, hbw', hd1, hd2, hd3⟩ := HB3.out j hlt2
            have q1 : wr.cell? ⟨b, off + j, none⟩ = some (.slice Ak (L[j]).length ck) := by rw [HW.out]; exact hc1
            have q2 : wr.cell? ⟨b', off' + j, none⟩ = some (.slice Ak' (L[j]).length ck') := by rw [HW.out]; exact hd1
            have Q3 := Lib.hid (show Rd wr wr.heap.size 2 Ak (L[j]).length (pC L[j]) by rw [HW.out]; exact hc3.drewN nq)
            have Q4 := Lib.hid (show Rd wr wr.heap.size 2 Ak' (L[j]).length (pC L[j]) by rw [HW.out]; exact hd3.drewN nq)
            have HQ := Lib.hid (fun (W : World) (h1 : Rd W W.heap.size 2 Ak (L[j]).length (pC L[j])) (h2 : Rd W W.heap.size 2 Ak' (L[j]).length (pC L[j])) => kept_eq L[j] _ _ rfl rfl Ak Ak' ck ck' W h1 h2 (Hall.out _ (List.getElem_mem hlt2)))
            have jj1 : (j : Int) < (L.length : Int) := by omega
            have jj2 : (0 : Int) ≤ (j : Int) := by omega
            clear hc1 hc2 hc3 hd1 hd2 hd3
            generalize (L[j]).length = nk at q1 q2 Q3 Q4 HQ
            go_wp2
            go_quiet ((go_at_call 14; exact Calls.quiet_of (HQ.out _ (Q3.out.drewN _) (Q4.out.drewN _))))
            go_wp2
            go_roundw
            case rel => exact ⟨j + 1, _, by omega, by go_num, by rw [HW.out, World.drewN_drewN]⟩
            case measure => simp [intOf]; omega
          · have hbd := below_drewN (Below.refl w3.heap.size w3) nq
            rw [← HW.out] at hbd
            have h1 := Lib.hid (Hr23.out.go hbd)
            have h2 := Lib.hid (Hr3.out.go hbd)
            have hB4 := hB3.trans (hbd.mono hB3.size)
            have HL4 := Lib.hid (HL3.out.below hbd HL3.out.lt)
            go_wp2_with fail
            refine (fracs_eq (ptsL L) _ _ (ptsL_len L).symm (ptsL_len L).symm P2 P3 k2 k3 wr h1.out h2.out (by rw [ptsL_len]; omega)).mono ?_
            rintro e _ ⟨rfl, n2, rfl⟩
            have hb5 := below_drewN (Below.refl wr.heap.size wr) n2
            have HL5 := Lib.hid (HL4.out.below hb5 HL4.out.lt)
            have hB5 := hB4.trans (hb5.mono hB4.size)
            generalize wr.drewN n2 = w5 at *
            go_wp2_with fail
            refine (awake_any _ HL5.out).mono ?_
            rintro e w6 ⟨rfl, hb6⟩
            go_wp2
            go_ret
            exact ⟨rfl, hB5.trans (hb6.mono hB5.size)⟩
      · have Hz := Lib.hid hz
        clear hz
        go_wp2_with fail
        refine (points_bad L A c w1 HA1.out (by omega) Hall.out Hz.out).mono ?_
        rintro e w2 ⟨rfl, hb2⟩
        have HB2 := Lib.hid (HB1.out.go hb2)
        have hB2 := hb1.trans (hb2.mono s1)
        have HA2 := Lib.hid (HA1.out.go hb2)
        have HL2 := Lib.hid (HL1.out.below hb2 HL1.out.lt)
        clear hb2 hb1
        go_wp2_with fail
        refine (pointsR_bad L B d w2 HB2.out (by omega) Hall.out Hz.out).mono ?_
        rintro e w3 ⟨rfl, rfl⟩
        generalize ptsErr L = er
        go_wp2_with fail
        go_loopw [40] (fun i wr => ∃ k nq : Nat, k ≤ L.length ∧ i = .int .i64 (k : Int) ∧ wr = w3.drewN nq) (fun i _ => L.length - (intOf i).toNat)
        case atStart => exact ⟨0, 0, by omega, rfl, rfl⟩
        case round =>
          obtain ⟨j, nq, hj, rfl, hw⟩ := hrel
          have HW := Lib.hid hw
          clear hw
          by_cases hlt2 : j < L.length
          · obtain ⟨b, off, Ak, ck, rfl, hbw, hc1, hc2, hc3⟩ := HA2.out j hlt2
            obtain ⟨b', off', Ak', ck', rfl, hbw', hd1, hd2, hd3⟩ := HB2.out j hlt2
            have q1 : wr.cell? ⟨b, off + j, none⟩ = some (.slice Ak (L[j]).length ck) := by rw [HW.out]; exact hc1
            have q2 : wr.cell? ⟨b', off' + j, none⟩ = some (.slice Ak' (L[j]).length ck') := by rw [HW.out]; exact hd1
            have Q3 := Lib.hid (show Rd wr wr.heap.size 2 Ak (L[j]).length (pC L[j]) by rw [HW.out]; exact hc3.drewN nq)
            have Q4 := Lib.hid (show Rd wr wr.heap.size 2 Ak' (L[j]).length (pC L[j]) by rw [HW.out]; exact hd3.drewN nq)
            have HQ := Lib.hid (fun (W : World) (h1 : Rd W W.heap.size 2 Ak (L[j]).length (pC L[j])) (h2 : Rd W W.heap.size 2 Ak' (L[j]).length (pC L[j])) => kept_eq L[j] _ _ rfl rfl Ak Ak' ck ck' W h1 h2 (Hall.out _ (List.getElem_mem hlt2)))
            have jj1 : (j : Int) < (L.length : Int) := by omega
            have jj2 : (0 : Int) ≤ (j : Int) := by omega
            clear hc1 hc2 hc3 hd1 hd2 hd3
            generalize (L[j]).length = nk at q1 q2 Q3 Q4 HQ
            go_wp2
            go_quiet ((go_at_call 14; exact Calls.quiet_of (HQ.out _ (Q3.out.drewN _) (Q4.out.drewN _))))
            go_wp2
            go_roundw
            case rel => exact ⟨j + 1, _, by omega, by go_num, by rw [HW.out, World.drewN_drewN]⟩
            case measure => simp [intOf]; omega
          · have hbd := below_drewN (Below.refl w3.heap.size w3) nq
            rw [← HW.out] at hbd
            have hB4 := hB2.trans (hbd.mono hB2.size)
            have HL4 := Lib.hid (HL2.out.below hbd HL2.out.lt)
            go_wp2_with fail
            refine (fracs_eq [] 0 0 rfl rfl none none 0 0 wr Rd.nil_ Rd.nil_ (by decide)).mono ?_
            rintro e _ ⟨rfl, n2, rfl⟩
            have hb5 := below_drewN (Below.refl wr.heap.size wr) n2
            have HL5 := Lib.hid (HL4.out.below hb5 HL4.out.lt)
            have hB5 := hB4.trans (hb5.mono hB4.size)
            generalize wr.drewN n2 = w5 at *
            go_wp2_with fail
            refine (awake_any _ HL5.out).mono ?_
            rintro e w6 ⟨rfl, hb6⟩
            go_wp2
            go_ret
            exact ⟨rfl, hB5.trans (hb6.mono hB5.size)⟩

end Go.Proofs.YteemknjnlocgpaaDoor
