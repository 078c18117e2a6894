/- The walk of the statement NeubergFull. -/
import Derived.Test.YtlobdeakgoicpaaDoorNeuAwakeW
import Derived.Test.YtlobdeakgoicpaaDoorMatMadeW
namespace Go.Proofs.YtlobdeakgoicpaaDoor
open Go.RowKit

theorem adjL_sm2 (L : List (List Pt)) (hL : ∀ o ∈ L, rightM o = true) (all : Int) (hn : L.length ≤ 24) (ha : (L.length : Int) ≤ all ∧ all ≤ 24) : ∀ f ∈ adjL L all, smF f := by
  intro f hf
  obtain ⟨k, hk, rfl⟩ := List.getElem_of_mem hf
  rw [adjL_len] at hk
  rw [adjL_pt L all k hk]
  exact (adj_rng L hL all hn ha k hk).2.2.2.1
theorem rdl_take {w : World} {B : Nat} {A : Option Addr} {L : List (List Pt)} (h : RdL w B A L) (k : Nat) : RdL w B A (L.take k) := fun i hi => by
  rw [List.length_take] at hi
  have e : (L.take k)[i]'(by rw [List.length_take]; exact hi) = L[i]'(by omega) := List.getElem_take
  rw [e]
  exact h i (by omega)

set_option maxHeartbeats 4000000 in
set_option maxRecDepth 100000 in
theorem nfull_walk (S : List Sm) (more : Int) (hmo : 0 ≤ more ∧ more ≤ 255) (A : Option Addr) (c : Nat) (w : World) (hL : Laid w) (hS : RdS w w.heap.size A S) (hok : ∀ s ∈ S, SmOk s) (hc : S.length ≤ c) (hm : c ≤ 9223372036854775807) :
    Calls Tryd.prog 8 #[.slice A S.length c, .int .u8 more] w fun e w' => e = .returned (.bool true) ∧ Below w.heap.size w w' := by
  have h0 := hL.lt
  have HL := Lib.hid hL
  have HM : Calls Tryd.prog 27 #[.slice A S.length c, .int .i64 24] w _ := all_any S 24 A c w hS hok hc hm (by decide)
  have HM := Lib.hid HM
  have hr := allL_right S 24
  have hn := allL_len S 24
  have hn24 : (allL S 24).length ≤ 24 := by rw [hn]; omega
  generalize allL S 24 = L at HM hr hn24
  have Hr := Lib.hid hr
  clear hL hS hok hc hm hn hr
  go_enter Tryd.func8, Tryd.ntmps8
  go_wp2_with fail
  refine HM.out.mono ?_
  rintro e w1 ⟨v, xs, rfl, ho1, hl1, hb1⟩
  have HL1 := Lib.hid (HL.out.below hb1 h0)
  have h1 := hb1.size
  by_cases hz : L.length = 0
  · obtain ⟨B, cb, rfl⟩ := own_form ho1
    have hzi : (L.length : Int) = 0 := by omega
    have hzb : ((L.length : Int) == 0) = true := by rw [hzi]; rfl
    go_wp2_with fail
    refine (nawake _ HL1.out).mono ?_
    rintro ee wz ⟨rfl, hbz⟩
    go_wp2
    go_ret
    exact ⟨rfl, hb1.trans (hbz.mono h1)⟩
  obtain ⟨b, cb, rfl⟩ := own_at' ho1 (by omega)
  have HA := Lib.hid (rdl_of_own ho1 hl1)
  have hcb : L.length ≤ cb := by
    rcases ho1.2 with ⟨hv, _⟩ | ⟨g, cap, cur, hv, _, _, hncap, _⟩
    · injection hv with h; cases h
    · injection hv with h1 h2 h3; omega
  clear ho1 hl1 HM HL
  have hzb : ((L.length : Int) == 0) = false := beq_eq_false_iff_ne.2 (by omega)
  have hzn : ¬ (L.length : Int) = 0 := by omega
  obtain ⟨q, hq⟩ : ∃ q : Int, (L.length : Int) + more % 24 = q := ⟨_, rfl⟩
  obtain ⟨all, hall⟩ : ∃ a : Int, min q 24 = a := ⟨_, rfl⟩
  have halb : (1 ≤ all ∧ all ≤ 24) ∧ (L.length : Int) ≤ all := by omega
  have w1' : IntKind.i64.wrap ((L.length : Int) + more % 24) = q := by rw [hq]; exact IntWalk.i64_in _ (by omega)
  go_upto_region 5 with fail
  clear w1' hq hall
  have HP := Lib.hid (points_any L (some ⟨b, 0, none⟩) cb w1 HL1.out HA.out (by omega) Hr.out)
  go_wp2_with fail
  refine HP.out.mono ?_
  rintro e w2 ⟨v, rfl, ho2, hb2⟩
  obtain ⟨P, cp, rfl⟩ := own_form ho2
  have R2 := (show Rd w2 w2.heap.size 2 P (ptsL L).length (pC (ptsL L)) by rw [ptsL_len]; exact Rd.of_own ho2)
  have HL2 := HL1.out.below hb2 HL1.out.lt
  have HA2 := HA.out.go hb2
  have HF1 := Lib.hid (nfield L (some ⟨b, 0, none⟩) cb (L.length : Int) w2 HL2 HA2 (Int.le_refl _) (by omega) Hr.out)
  have H12 := hb1.trans (hb2.mono h1)
  clear HP HA HL1 ho2 hb2 hb1
  go_wp2_with fail
  refine HF1.out.mono ?_
  rintro e w3 ⟨v, rfl, ho3, hb3⟩
  obtain ⟨P2, cp2, rfl⟩ := own_form ho3
  have R23 := R2.go hb3
  have R3 := (show Rd w3 w3.heap.size 2 P2 (adjL L (L.length : Int)).length (pC (adjL L (L.length : Int))) by rw [adjL_len]; exact Rd.of_own ho3)
  have HL3 := HL2.below hb3 HL2.lt
  have HA3 := HA2.go hb3
  have HF2 := Lib.hid (nfield L (some ⟨b, 0, none⟩) cb all w3 HL3 HA3 halb.2 halb.1 Hr.out)
  have H13 := H12.trans (hb3.mono H12.size)
  clear HF1 HL2 HA2 ho3 hb3 H12 R2
  go_wp2_with fail
  refine HF2.out.mono ?_
  rintro e w4 ⟨v, rfl, ho4, hb4⟩
  obtain ⟨P3, cp3, rfl⟩ := own_form ho4
  have R24 := R23.go hb4
  have R34 := R3.go hb4
  have R4 := (show Rd w4 w4.heap.size 2 P3 (adjL L all).length (pC (adjL L all)) by rw [adjL_len]; exact Rd.of_own ho4)
  have HL4 := HL3.below hb4 HL3.lt
  have HA4 := HA3.go hb4
  have hone : L.take 1 = [L[0]'(by omega)] := by
    match L, hz with
    | r :: L', _ => rfl
  have HF3 := Lib.hid (show Calls Tryd.prog 21 #[.slice (some ⟨b, 0, none⟩) 1 cb, .int .i64 all] w4 fun e w' => ∃ v, e = .returned (.tuple #[v, .int .i64 0]) ∧ w'.ownsRow w4.heap.size 23 2 v 1 (pC [(all - 1, 1)]) ∧ Below w4.heap.size w4 w' from by
    have hrd := rdl_take HA4 1
    rw [hone] at hrd
    have h := nfield [L[0]'(by omega)] (some ⟨b, 0, none⟩) cb all w4 HL4 hrd (by show (1 : Int) ≤ all; omega) halb.1 (fun o ho => by rw [List.mem_singleton.1 ho]; exact Hr.out _ (List.getElem_mem _))
    rw [adj_one _ (Hr.out _ (List.getElem_mem _)) all] at h
    exact h)
  have H14 := H13.trans (hb4.mono H13.size)
  clear HF2 HL3 HA3 ho4 hb4 H13 R23 R3 HA4 hone
  have c0 : (1 : Int) ≤ (cb : Int) := by omega
  have c0' : (1 : Int) ≤ (L.length : Int) := by omega
  go_wp2_with fail
  refine HF3.out.mono ?_
  rintro e w5 ⟨v, rfl, ho5, hb5⟩
  obtain ⟨p4, cp4, rfl⟩ := own_at' ho5 (by decide)
  have hrd := Rd.of_own ho5
  obtain ⟨b', o', he, hp4, d0, d1⟩ := rd_p (l := [(all - 1, 1)]) hrd 0 (by simp)
  obtain ⟨rfl, rfl⟩ : p4 = b' ∧ 0 = o' := by injection he with he; injection he with y1 y2; exact ⟨y1, y2⟩
  have d0 : w5.cell? ⟨p4, 0, none⟩ = some (.int .i64 (all - 1)) := d0
  have d1 : w5.cell? ⟨p4, 1, none⟩ = some (.int .i64 1) := d1
  have HR1 := Lib.hid (R24.go hb5)
  have HR2 := Lib.hid (R34.go hb5)
  have HR3 := Lib.hid (R4.go hb5)
  have HL5 := Lib.hid (HL4.below hb5 HL4.lt)
  have H15 := H14.trans (hb5.mono H14.size)
  have z5 := H15.size
  clear HF3 HL4 ho5 hb5 H14 R24 R34 R4 hrd he c0 c0'
  have hd : Below w5.heap.size w5 w5.drew := (Below.refl _ _).drew
  have hnn : ((L.length : Int) != (L.length : Int)) = false := by simp
  have a1 : IntKind.i64.wrap (all - 1) = all - 1 := IntWalk.i64_in _ (by omega)
  go_upto_region 9 with fail
  go_region_held3 (fun w' => w'.cell? ⟨p4, 0, none⟩ = some (.int .i64 (all - 1)) ∧ w'.cell? ⟨p4, 1, none⟩ = some (.int .i64 1)) ((first | exact ⟨d0, d1⟩ | exact ⟨keepB hbm hp4 d0, keepB hbm hp4 d1⟩))
    ((go_at_call 24; (with_reducible refine (q_any _ _ _).mono ?_); rintro ee wm ⟨rfl, hbm0⟩; have hbm := hd.trans (hbm0.mono hd.size)))
  clear a1 d0 d1 hbm0 hd
  have szm := hbm.size
  go_wp2_with fail
  go_loopw [104] (fun i wr => ∃ j : Nat, j ≤ L.length ∧ i = .int .i64 (j : Int) ∧ Below w5.heap.size w5 wr) (fun i _ => L.length - (intOf i).toNat)
  case atStart => exact ⟨0, by omega, rfl, hbm⟩
  case round =>
    obtain ⟨i, hi, rfl, hbel⟩ := hrel
    have hsr := hbel.size
    by_cases hlt : i < L.length
    · obtain ⟨pa, oa, rfl, hpa, e0, e1⟩ := rd_p HR1.out i (by rw [ptsL_len]; exact hlt)
      obtain ⟨pb, ob, rfl, hpb, e2, e3⟩ := rd_p HR2.out i (by rw [adjL_len]; exact hlt)
      obtain ⟨pc, oc, rfl, hpc, e4, e5⟩ := rd_p HR3.out i (by rw [adjL_len]; exact hlt)
      rw [adj_full L i hlt] at e2 e3
      have d0 := (bcell hbel pa (oa + i * 2) hpa).trans e0
      have d1 := (bcell hbel pa (oa + i * 2 + 1) hpa).trans e1
      have d2 := (bcell hbel pb (ob + i * 2) hpb).trans e2
      have d3 := (bcell hbel pb (ob + i * 2 + 1) hpb).trans e3
      have i0 : (0 : Int) ≤ (i : Int) := by omega
      have i1 : (i : Int) < (L.length : Int) := by omega
      obtain ⟨f, hf⟩ : ∃ f, (ptsL L)[i]'(by rw [ptsL_len]; exact hlt) = f := ⟨_, rfl⟩
      obtain ⟨F, hF⟩ : ∃ F, (adjL L all)[i]'(by rw [adjL_len]; exact hlt) = F := ⟨_, rfl⟩
      rw [hf] at d0 d1 d2 d3 e0 e1
      rw [hF] at e4 e5
      have Hf := Lib.hid hf
      have HF := Lib.hid hF
      clear hf hF e2 e3
      go_upto_region 14 with fail
      go_quiet (fail)
      clear d0 d1 d2 d3
      go_wp2_with fail
      go_loopw [117] (fun v wx => ∃ j : Nat, j ≤ i ∧ v = .int .i64 (j : Int) ∧ Below w5.heap.size w5 wx) (fun v _ => i - (intOf v).toNat)
      case atStart => exact ⟨0, by omega, rfl, below_drewN hbel _⟩
      case round =>
        clear hbel hsr
        obtain ⟨k, hk, rfl, hbel⟩ := hrel
        have hsr := hbel.size
        by_cases hlt2 : k < i
        · obtain ⟨b', o', he, -, g0, g1⟩ := rd_p HR1.out k (by rw [ptsL_len]; omega)
          obtain ⟨rfl, rfl⟩ : pa = b' ∧ oa = o' := by injection he with he; injection he with y1 y2; exact ⟨y1, y2⟩
          obtain ⟨b', o', he2, -, g4, g5⟩ := rd_p HR3.out k (by rw [adjL_len]; omega)
          obtain ⟨rfl, rfl⟩ : pc = b' ∧ oc = o' := by injection he2 with he2; injection he2 with y1 y2; exact ⟨y1, y2⟩
          have hsm := pts_sm L Hr.out (by omega)
          have hsa := adjL_sm2 L Hr.out all (by omega) ⟨halb.2, halb.1.2⟩
          have HC1 := Lib.hid (fun W => fcmp_sm _ _ (hsm _ (List.getElem_mem (by rw [ptsL_len]; exact hlt : i < (ptsL L).length))) (hsm _ (List.getElem_mem (by rw [ptsL_len]; omega : k < (ptsL L).length))) W)
          have HC2 := Lib.hid (fun W => fcmp_sm _ _ (hsa _ (List.getElem_mem (by rw [adjL_len]; exact hlt : i < (adjL L all).length))) (hsa _ (List.getElem_mem (by rw [adjL_len]; omega : k < (adjL L all).length))) W)
          rw [adj_order L all (by omega) i k hlt (by omega)] at HC2
          generalize cmpF _ _ = u at HC1 HC2
          rw [Hf.out] at HC1
          rw [HF.out] at HC2
          generalize (ptsL L)[k]'_ = g at g0 g1 HC1
          generalize (adjL L all)[k]'_ = G at g4 g5 HC2
          have d0 := (bcell hbel pa (oa + i * 2) hpa).trans e0
          have d1 := (bcell hbel pa (oa + i * 2 + 1) hpa).trans e1
          have d2 := (bcell hbel pa (oa + k * 2) hpa).trans g0
          have d3 := (bcell hbel pa (oa + k * 2 + 1) hpa).trans g1
          have d4 := (bcell hbel pc (oc + i * 2) hpc).trans e4
          have d5 := (bcell hbel pc (oc + i * 2 + 1) hpc).trans e5
          have d6 := (bcell hbel pc (oc + k * 2) hpc).trans g4
          have d7 := (bcell hbel pc (oc + k * 2 + 1) hpc).trans g5
          clear g0 g1 g4 g5 he he2 hsm hsa
          obtain ⟨g1', g2'⟩ := g
          obtain ⟨G1', G2'⟩ := G
          unfold fV at HC1 HC2
          dsimp only at HC1 HC2 d2 d3 d6 d7
          have la : pa < wr.heap.size := by omega
          have lc : pc < wr.heap.size := by omega
          have k0 : (0 : Int) ≤ (k : Int) := by omega
          have k1 : (k : Int) < (L.length : Int) := by omega
          have hd : Below wr.heap.size wr wr.drew := (Below.refl _ _).drew
          have HK := Lib.hid (fun (w' : World) (h : Below wr.heap.size wr w') => (show w'.cell? ⟨pa, oa + i * 2, none⟩ = some (.int .i64 f.1) ∧ w'.cell? ⟨pa, oa + i * 2 + 1, none⟩ = some (.int .i64 f.2) ∧ w'.cell? ⟨pa, oa + k * 2, none⟩ = some (.int .i64 g1') ∧ w'.cell? ⟨pa, oa + k * 2 + 1, none⟩ = some (.int .i64 g2') from ⟨keepB h la d0, keepB h la d1, keepB h la d2, keepB h la d3⟩))
          go_upto_region 19 with fail
          go_region_held3 (fun w' => w'.cell? ⟨pa, oa + i * 2, none⟩ = some (.int .i64 f.1) ∧ w'.cell? ⟨pa, oa + i * 2 + 1, none⟩ = some (.int .i64 f.2) ∧ w'.cell? ⟨pa, oa + k * 2, none⟩ = some (.int .i64 g1') ∧ w'.cell? ⟨pa, oa + k * 2 + 1, none⟩ = some (.int .i64 g2')) ((first | exact ⟨d0, d1, d2, d3⟩ | exact HK.out _ hbo))
            ((go_at_call 29; (with_reducible refine (HC1.out _).mono ?_); rintro ee wo ⟨rfl, hbo0⟩; have hbo := hd.trans (hbo0.mono hd.size)))
          have d4 := keepB hbo lc d4
          have d5 := keepB hbo lc d5
          have d6 := keepB hbo lc d6
          have d7 := keepB hbo lc d7
          have lc : pc < wo.heap.size := by have := hbo.size; omega
          have hbel2 := hbel.trans (hbo.mono hsr)
          have hd2 : Below wo.heap.size wo wo.drew := (Below.refl _ _).drew
          have HK2 := Lib.hid (fun (w' : World) (h : Below wo.heap.size wo w') => (show w'.cell? ⟨pc, oc + i * 2, none⟩ = some (.int .i64 F.1) ∧ w'.cell? ⟨pc, oc + i * 2 + 1, none⟩ = some (.int .i64 F.2) ∧ w'.cell? ⟨pc, oc + k * 2, none⟩ = some (.int .i64 G1') ∧ w'.cell? ⟨pc, oc + k * 2 + 1, none⟩ = some (.int .i64 G2') from ⟨keepB h lc d4, keepB h lc d5, keepB h lc d6, keepB h lc d7⟩))
          clear d0 d1 d2 d3 HK hbo hbo0 hd HC1
          go_upto_region 20 with fail
          go_region_held3 (fun w' => w'.cell? ⟨pc, oc + i * 2, none⟩ = some (.int .i64 F.1) ∧ w'.cell? ⟨pc, oc + i * 2 + 1, none⟩ = some (.int .i64 F.2) ∧ w'.cell? ⟨pc, oc + k * 2, none⟩ = some (.int .i64 G1') ∧ w'.cell? ⟨pc, oc + k * 2 + 1, none⟩ = some (.int .i64 G2')) ((first | exact ⟨d4, d5, d6, d7⟩ | exact HK2.out _ hbn))
            ((go_at_call 29; (with_reducible refine (HC2.out _).mono ?_); rintro ee wn ⟨rfl, hbn0⟩; have hbn := hd2.trans (hbn0.mono hd2.size)))
          have hbel3 := hbel2.trans (hbn.mono hbel2.size)
          have huu : (u != u) = false := by simp
          clear d4 d5 d6 d7 HK2 HC2 hd2 hbn hbn0
          go_wp2
          go_roundw
          case rel => exact ⟨k + 1, by omega, by go_num, hbel3⟩
          case measure => simp [intOf]; omega
        · have t0 : decide ((k : Int) < (i : Int)) = false := decide_eq_false (by omega)
          go_wp2
          go_roundw
          case rel => exact ⟨i + 1, by omega, by go_num, hbel⟩
          case measure => simp [intOf]; omega
    · have t0 : decide ((i : Int) < (L.length : Int)) = false := decide_eq_false (by omega)
      go_wp2_with fail
      refine (nawake _ (HL5.out.below hbel HL5.out.lt)).mono ?_
      rintro ee wz ⟨rfl, hbz⟩
      go_wp2
      go_ret
      exact ⟨rfl, H15.trans ((hbel.trans (hbz.mono hsr)).mono z5)⟩

end Go.Proofs.YtlobdeakgoicpaaDoor
