/- The walk of the statement MatchPairs. -/
import Derived.Test.YteemknjnlocgpaaDoorMatSumLaw
import Derived.Test.YteemknjnlocgpaaDoorMatMadeW
import Derived.Test.YteemknjnlocgpaaDoorMatAwake
namespace Go.Proofs.YteemknjnlocgpaaDoor
open Go.RowKit

/-- Take operation i first, its temporary named. -/
theorem take_named {P : Program} {ops : Array Oper} {Q : Exit → Act → World → Prop} {md : Region.Mode} {S : World → Prop} {i d : Nat} {oi : Oper} {v : Value} {fuel : Nat} {listed : Array Bool} {a : Act} {w : World} (hi : ops[i]? = some oi) (hd : oi.dst = some d)
    (hs : Region.noSelect ops = true) (hf : Region.free md ops listed i = true) (hr : (Region.ready md ops listed).contains i = true)
    (hQ : ∀ c a w, Q (.panic c) (a.put (some d) v) w → Q (.panic c) a w) (hy : YieldsIf P ops S oi v a) (hS : S w)
    (h : wpAnyH P md ops Q S fuel (listed.setIfInBounds i true) (a.put (some d) v) w) : wpAnyH P md ops Q S (fuel + 1) listed a w := by
  rw [← hd] at h hQ
  exact wpAnyH_take hi hs hf hr hQ hy hS h

set_option maxHeartbeats 4000000 in
set_option maxRecDepth 100000 in
theorem matchPairs_walk (S : List Sm) (A : Option Addr) (c : Nat) (w : World) (hL : Laid w) (hS : RdS w w.heap.size A S) (hok : ∀ s ∈ S, SmOk s) (hc : S.length ≤ c) (hm : c ≤ 9223372036854775807) :
    Calls Tryd.prog 8 #[.slice A S.length c] w fun e w' => e = .returned (.bool true) ∧ Below w.heap.size w w' := by
  have h0 := hL.lt
  have HL := Lib.hid hL
  have HM : Calls Tryd.prog 30 #[.slice A S.length c, .int .i64 12] w _ := all_any S 12 A c w hS hok hc hm (by decide)
  have HM := Lib.hid HM
  have hr := allL_right S 12
  have hn := allL_len S 12
  have hn12 : (allL S 12).length ≤ 12 := by rw [hn]; omega
  generalize allL S 12 = L at HM hr hn12
  have Hr := Lib.hid hr
  clear hL hS hok hc hm hn hr
  go_enter Tryd.func8, Tryd.ntmps8
  go_wp2_with fail
  refine HM.out.mono ?_
  rintro e w1 ⟨v, xs, rfl, ho1, hl1, hb1⟩
  obtain ⟨B, cb, rfl⟩ := own_form ho1
  have HA := Lib.hid (rdl_of_own ho1 hl1)
  have HL1 := Lib.hid (HL.out.below hb1 h0)
  have h1 := hb1.size
  clear ho1 hl1 HM HL
  have HP := Lib.hid (points_any L B cb w1 HL1.out HA.out (by omega) Hr.out)
  go_wp2_with fail
  refine HP.out.mono ?_
  rintro e w2 ⟨v, rfl, ho2, hb2⟩
  obtain ⟨P, cp, rfl⟩ := own_form ho2
  have hpl := ptsL_len L
  have HR := Lib.hid (show Rd w2 w2.heap.size 2 P (ptsL L).length (pC (ptsL L)) by rw [hpl]; exact Rd.of_own ho2)
  have HL2 := Lib.hid (HL1.out.below hb2 HL1.out.lt)
  have HA2 := Lib.hid (HA.out.go hb2)
  have hB2 : Below w.heap.size w w2 := hb1.trans (hb2.mono h1)
  have h2 := hB2.size
  have h02 : 0 < w2.heap.size := by omega
  clear ho2 HP HA HL1 hb1 hb2 h1
  have Hpl := Lib.hid hpl
  clear hpl
  go_wp2_with fail
  go_loopw [35] (fun i wr => ∃ k : Nat, k ≤ L.length ∧ i = .int .i64 (k : Int) ∧ Below w2.heap.size w2 wr) (fun i _ => L.length - (intOf i).toNat)
  case atStart => exact ⟨0, by omega, rfl, Below.refl _ _⟩
  case round =>
    obtain ⟨i, hi, rfl, hbel⟩ := hrel
    have hsr := hbel.size
    by_cases hlt : i < L.length
    · obtain ⟨b, off, Ai, ci, rfl, hbw, hc1, hc2, hc3⟩ := HA2.out i hlt
      have hd1 := (bcell hbel b (off + i) hbw).trans hc1
      have hri := Hr.out _ (List.getElem_mem hlt)
      have Hc3 := Lib.hid hc3
      have HP := Lib.hid (othK_all L i hlt)
      obtain ⟨l, hl⟩ : ∃ l, L[i] = l := ⟨_, rfl⟩
      rw [hl] at hd1 Hc3 hri
      have Hl := Lib.hid hl
      clear hc1 hc2 hc3 hl
      go_wp2_with fail
      refine (whole_any 0 _).mono ?_
      rintro e w3 ⟨rfl, hb3⟩
      unfold fV
      dsimp only
      have hbel3 := hbel.trans (hb3.mono hsr)
      have h3 := hbel3.size
      clear hb3
      go_wp2_with fail
      obtain ⟨H, hH⟩ : ∃ H, w3.heap.size = H := ⟨_, rfl⟩
      rw [hH]
      have hBx : Below H w3 (w3.alloc (.cells #[.int .i64 0, .int .i64 1] 46)) := by rw [← hH]; exact (by repeat (first | exact Below.refl _ _ | assumption | refine Below.drew ?_ | refine below_drewN ?_ _ | refine Below.alloc ?_ (by first | omega | (simp; done) | (simp; omega)) _ | refine Below.setCell ?_ (by first | omega | (simp; done) | (simp; omega)) _))
      have kx : (w3.alloc (.cells #[.int .i64 0, .int .i64 1] 46)).heap[H]? = some (.cells #[.int .i64 0, .int .i64 1] 46) := blk_new _ hH.symm
      have h23 : w2.heap.size ≤ H := by omega
      have Hk := Lib.hid hH
      clear hH
      go_loopw [43] (fun k wr => ∃ (j : Nat) (f : Pt), j ≤ L.length ∧ k = .int .i64 (j : Int) ∧ Hid (f = fr (othK L i j hlt) 10000) ∧ wr.heap[H]? = some (.cells #[.int .i64 f.1, .int .i64 f.2] 46) ∧ Below H w3 wr) (fun k _ => L.length - (intOf k).toNat)
      case atStart => exact ⟨0, (0, 1), by omega, rfl, (by show _ = _; unfold othK gAllTo; simp; exact (whole_fr 0).symm), kx, hBx⟩
      case round =>
        obtain ⟨j, ⟨x1, x2⟩, hj, rfl, hf, hk6, hin⟩ := hrel
        dsimp only at hk6
        have hl6 := blk_lt hk6
        have hVr := hbel3.trans (hin.mono h23)
        by_cases hlt2 : j < L.length
        · obtain ⟨b', off', Aj, cj, hbe, hbw2, hc1, hc2, hc3⟩ := HA2.out j hlt2
          obtain ⟨rfl, rfl⟩ : b = b' ∧ off = off' := by injection hbe with h; injection h with e1 e2; exact ⟨e1, e2⟩
          have hd2 := (bcell hVr b (off + j) hbw2).trans hc1
          have hrj := Hr.out _ (List.getElem_mem hlt2)
          have Hc4 := Lib.hid hc3
          have hn4 := ((rightM_iff _).1 hri).2.1
          have hn5 := ((rightM_iff _).1 hrj).2.1
          have hsv := hVr.size
          have HC1 := Lib.hid (fun (W : World) (hW : Below w2.heap.size w2 W) => compare_any l L[j] Ai Aj ci cj W (HL2.out.below hW h02) ((Hc3.out.below hW).more hW.size) ((Hc4.out.below hW).more hW.size) (by omega) (by omega))
          have HC2 := Lib.hid (fun (W : World) (hW : Below w2.heap.size w2 W) => compare_any L[j] l Aj Ai cj ci W (HL2.out.below hW h02) ((Hc4.out.below hW).more hW.size) ((Hc3.out.below hW).more hW.size) (by omega) (by omega))
          rw [cmpE_ok _ _ hri hrj] at HC1
          rw [cmpE_ok _ _ hrj hri] at HC2
          have hx := cmpV_sm _ _ hri hrj
          have hy := cmpV_sm _ _ hrj hri
          have HD := Lib.hid (fun W => fadd_sm (cmpV l L[j]) (cmpV L[j] l) hx hy W)
          rw [pair_two l L[j] hri hrj] at HD
          have hself : i = j → cmpV l L[j] = (1, 1) := by rintro rfl; rw [Hl.out]; exact pair_self l hri
          have hsm := othK_rng L Hr.out (by omega) i j hlt hj
          have hsf : smF (x1, x2) := by rw [show _ = _ from hf.out]; exact sm_fr _ (by omega)
          have HE := Lib.hid (fun W => fadd_sm (x1, x2) (cmpV l L[j]) hsf hx W)
          have hnext : addF (x1, x2) (cmpV l L[j]) = fr (othK L i j hlt + gAB L[i] L[j]) 10000 := by
            rw [show _ = _ from hf.out, cmpV_fr _ _ hri hrj, add_fr, Hl.out]
          have hsucc := othK_succ L Hr.out i j hlt hlt2
          have Hs := Lib.hid hsucc
          have Hn := Lib.hid hnext
          have Hself := Lib.hid hself
          clear hc1 hc2 hc3 hbe hrj hx hy hsm hsf hnext hsucc hself hn4 hn5
          generalize addF (x1, x2) (cmpV l L[j]) = z at HE Hn
          generalize cmpV l L[j] = x at HC1 HD HE Hself
          generalize cmpV L[j] l = y at HC2 HD
          generalize (L[j]).length = nj at hd2 HC1 HC2
          obtain ⟨y1, y2⟩ := y
          obtain ⟨z1, z2⟩ := z
          obtain ⟨p1, p2⟩ := x
          unfold fV at HC1 HC2 HD HE
          dsimp only at HC1 HC2 HD HE
          have hd1' := (bcell hVr b (off + i) hbw).trans ((bcell hbel b (off + i) hbw).symm.trans hd1)
          go_wp2_with fail
          refine (HC1.out _ hVr).mono ?_
          rintro ee wa ⟨rfl, hba⟩
          obtain ⟨W4, hW4⟩ : ∃ W4, wa.alloc (.cells #[.int .i64 p1, .int .i64 p2] 46) = W4 := ⟨_, rfl⟩
          obtain ⟨G1, hG1⟩ : ∃ G, wa.heap.size = G := ⟨_, rfl⟩
          have hb4 : Below wr.heap.size wr W4 := by rw [← hW4]; exact hba.alloc hba.size _
          have n4 : W4.heap[G1]? = some (.cells #[.int .i64 p1, .int .i64 p2] 46) := by rw [← hW4]; exact blk_new _ hG1.symm
          have s4 : W4.heap.size = G1 + 1 := by rw [← hW4]; simp; omega
          have hV4 := hVr.trans (hb4.mono hsv)
          have g1w : wr.heap.size ≤ G1 := by have := hba.size; omega
          go_wp2_with fail
          (try rw [hW4]); (try rw [hG1])
          refine (HC2.out _ hV4).mono ?_
          rintro ee wb ⟨rfl, hbb⟩
          clear hW4 hG1 hba
          obtain ⟨W5, hW5⟩ : ∃ W5, wb.alloc (.cells #[.int .i64 y1, .int .i64 y2] 46) = W5 := ⟨_, rfl⟩
          obtain ⟨G2, hG2⟩ : ∃ G, wb.heap.size = G := ⟨_, rfl⟩
          have hb5 : Below W4.heap.size W4 W5 := by rw [← hW5]; exact hbb.alloc hbb.size _
          have n5 : W5.heap[G2]? = some (.cells #[.int .i64 y1, .int .i64 y2] 46) := by rw [← hW5]; exact blk_new _ hG2.symm
          have s5 : W5.heap.size = G2 + 1 := by rw [← hW5]; simp; omega
          have g2w : W4.heap.size ≤ G2 := by have := hbb.size; omega
          have n4 := blk_below n4 hb5 (by omega)
          have q0 := blk_cell n4 0
          have q1 := blk_cell n4 1
          have q2 := blk_cell n5 0
          have q3 := blk_cell n5 1
          go_upto_region 14 with fail
          (try rw [hW5]); (try rw [hG2])
          clear hW5 hG2 hbb
          go_wp2_with fail
          refine (HD.out _).mono ?_
          rintro ee wc ⟨rfl, hbc⟩
          go_upto_region 15 with fail
          obtain ⟨W6, hW6⟩ : ∃ W6, wc.alloc (.cells #[.int .i64 2, .int .i64 1] 46) = W6 := ⟨_, rfl⟩
          obtain ⟨G3, hG3⟩ : ∃ G, wc.heap.size = G := ⟨_, rfl⟩
          have hb6 : Below W5.heap.size W5 W6 := by rw [← hW6]; exact hbc.alloc hbc.size _
          have n6 : W6.heap[G3]? = some (.cells #[.int .i64 2, .int .i64 1] 46) := by rw [← hW6]; exact blk_new _ hG3.symm
          have s6 : W6.heap.size = G3 + 1 := by rw [← hW6]; simp; omega
          have g3w : W5.heap.size ≤ G3 := by have := hbc.size; omega
          have n4 := blk_below n4 hb6 (by omega)
          (try rw [hW6]); (try rw [hG3])
          clear hW6 hG3 hbc q0 q1 q2 q3 n5
          have hb46 : Below wr.heap.size wr W6 := (hb4.trans (hb5.mono (by omega))).trans (hb6.mono (by omega))
          have k6 := blk_below hk6 hb46 hl6
          have hin6 := hin.trans (hb46.mono (by omega))
          have hd : Below W6.heap.size W6 W6.drew := (Below.refl _ _).drew
          have HW2 := Lib.hid (fun W => whole_any 2 W)
          have HW1 := Lib.hid (fun W => whole_any 1 W)
          unfold fV at HW2 HW1
          dsimp only at HW2 HW1
          have q0 := blk_cell n6 0
          have q1 := blk_cell n6 1
          have q2 := blk_cell n4 0
          have q3 := blk_cell n4 1
          have lG1 : G1 < W6.heap.size := by omega
          have lG3 : G3 < W6.heap.size := by omega
          have lH : H < W6.heap.size := by omega
          clear HC1 HC2 HD hb4 hb5 hb6 hd1' hd2 hk6 hin hV4 hVr
          by_cases hij : i = j
          · obtain ⟨rfl, rfl⟩ : p1 = 1 ∧ p2 = 1 := by have h := Hself.out hij; exact ⟨congrArg Prod.fst h, congrArg Prod.snd h⟩
            have hs2 := Hs.out
            rw [if_pos hij] at hs2
            have Hs2 := Lib.hid hs2
            have t1 : ((i : Int) == (j : Int)) = true := by rw [hij]; exact beq_self_eq_true _
            have t2 : ((i : Int) != (j : Int)) = false := by rw [hij]; simp
            clear Hs hs2 HE Hself Hn hij
            have HS := Lib.hid (fun (wx : World) (hb : Below W6.heap.size W6 wx) => (show wx.cell? ⟨G3, 0, none⟩ = some (.int .i64 2) ∧ wx.cell? ⟨G3, 1, none⟩ = some (.int .i64 1) ∧ wx.cell? ⟨G1, 0, none⟩ = some (.int .i64 1) ∧ wx.cell? ⟨G1, 1, none⟩ = some (.int .i64 1) from ⟨keepB hb lG3 q0, keepB hb lG3 q1, keepB hb lG1 q2, keepB hb lG1 q3⟩))
            go_region_held3 (fun w' => w'.cell? ⟨G3, 0, none⟩ = some (.int .i64 2) ∧ w'.cell? ⟨G3, 1, none⟩ = some (.int .i64 1) ∧ w'.cell? ⟨G1, 0, none⟩ = some (.int .i64 1) ∧ w'.cell? ⟨G1, 1, none⟩ = some (.int .i64 1)) ((first | exact ⟨q0, q1, q2, q3⟩ | exact HS.out _ hbn | exact HS.out _ hbm))
              ((first | (go_at_call 29; (with_reducible refine (HW2.out _).mono ?_); rintro ee wm ⟨rfl, hbm0⟩; first | (have hbm := hd.trans (hbm0.mono hd.size)) | (have hbm := hbn.trans (hbm0.mono hbn.size))) | (go_at_call 29; (with_reducible refine (HW1.out _).mono ?_); rintro ee wn ⟨rfl, hbn0⟩; first | (have hbn := hd.trans (hbn0.mono hd.size)) | (have hbn := hbm.trans (hbn0.mono hbm.size)))))
            all_goals go_wp2
            all_goals go_roundw
            case rel =>
              have hbz : Below W6.heap.size W6 ‹World› := by first | exact hbn | exact hbm
              exact ⟨j + 1, (x1, x2), by omega, by go_num, (show _ = _ by rw [Hs2.out]; exact hf.out), blk_below k6 hbz lH, hin6.trans (hbz.mono (by omega))⟩
            case measure => simp [intOf]; omega
          · have hs2 := Hs.out
            rw [if_neg hij] at hs2
            have Hn2 := Lib.hid (show (z1, z2) = fr (othK L i (j + 1) hlt) 10000 by rw [hs2]; exact Hn.out)
            have t1 : ((i : Int) == (j : Int)) = false := beq_eq_false_iff_ne.2 (by omega)
            have t2 : ((i : Int) != (j : Int)) = true := bne_iff_ne.2 (by omega)
            have t3 : ¬ (i : Int) = (j : Int) := by omega
            have HS := Lib.hid (fun (wx : World) (hb : Below W6.heap.size W6 wx) => (show wx.cell? ⟨G3, 0, none⟩ = some (.int .i64 2) ∧ wx.cell? ⟨G3, 1, none⟩ = some (.int .i64 1) ∧ wx.cell? ⟨G1, 0, none⟩ = some (.int .i64 p1) ∧ wx.cell? ⟨G1, 1, none⟩ = some (.int .i64 p2) from ⟨keepB hb lG3 q0, keepB hb lG3 q1, keepB hb lG1 q2, keepB hb lG1 q3⟩))
            clear Hs hs2 Hself Hn hf
            refine wp_region_held_drew (S := (fun w' => w'.cell? ⟨G3, 0, none⟩ = some (.int .i64 2) ∧ w'.cell? ⟨G3, 1, none⟩ = some (.int .i64 1) ∧ w'.cell? ⟨G1, 0, none⟩ = some (.int .i64 p1) ∧ w'.cell? ⟨G1, 1, none⟩ = some (.int .i64 p2))) (by kernel_rfl) ⟨q0, q1, q2, q3⟩ (fun hHeld => ?_)
            refine take_named (i := 0) (d := 66) (v := ?v0) rfl (by kernel_rfl) (by kernel_rfl) (by kernel_rfl) (by kernel_rfl) (fun _ _ _ h => h) (Or.inl ⟨by kernel_rfl, ?y0⟩) (by assumption) ?_
            case y0 => intro wq hSw; (try dsimp only at hSw); go_simp; (try with_reducible rfl)
            (try simp only [Act.put, List.setIfInBounds_toArray, List.set_cons_zero, List.set_cons_succ])
            refine take_named (i := 1) (d := 67) (v := ?v1) rfl (by kernel_rfl) (by kernel_rfl) (by kernel_rfl) (by kernel_rfl) (fun _ _ _ h => h) (Or.inl ⟨by kernel_rfl, ?y1⟩) (by assumption) ?_
            case y1 => intro wq hSw; (try dsimp only at hSw); go_simp; (try with_reducible rfl)
            (try simp only [Act.put, List.setIfInBounds_toArray, List.set_cons_zero, List.set_cons_succ])
            refine take_named (i := 2) (d := 68) (v := ?v2) rfl (by kernel_rfl) (by kernel_rfl) (by kernel_rfl) (by kernel_rfl) (fun _ _ _ h => h) (Or.inl ⟨by kernel_rfl, ?y2⟩) (by assumption) ?_
            case y2 => intro wq hSw; (try dsimp only at hSw); go_simp; (try with_reducible rfl)
            (try simp only [Act.put, List.setIfInBounds_toArray, List.set_cons_zero, List.set_cons_succ])
            refine take_named (i := 3) (d := 69) (v := ?v3) rfl (by kernel_rfl) (by kernel_rfl) (by kernel_rfl) (by kernel_rfl) (fun _ _ _ h => h) (Or.inl ⟨by kernel_rfl, ?y3⟩) (by assumption) ?_
            case y3 => intro wq hSw; (try dsimp only at hSw); go_simp; (try with_reducible rfl)
            (try simp only [Act.put, List.setIfInBounds_toArray, List.set_cons_zero, List.set_cons_succ])
            refine take_named (i := 4) (d := 70) (v := ?v4) rfl (by kernel_rfl) (by kernel_rfl) (by kernel_rfl) (by kernel_rfl) (fun _ _ _ h => h) (Or.inl ⟨by kernel_rfl, ?y4⟩) (by assumption) ?_
            case y4 => intro wq hSw; (try dsimp only at hSw); go_simp; (try with_reducible rfl)
            (try simp only [Act.put, List.setIfInBounds_toArray, List.set_cons_zero, List.set_cons_succ])
            refine take_named (i := 5) (d := 71) (v := ?v5) rfl (by kernel_rfl) (by kernel_rfl) (by kernel_rfl) (by kernel_rfl) (fun _ _ _ h => h) (Or.inl ⟨by kernel_rfl, ?y5⟩) (by assumption) ?_
            case y5 => intro wq hSw; (try dsimp only at hSw); go_simp; (try with_reducible rfl)
            (try simp only [Act.put, List.setIfInBounds_toArray, List.set_cons_zero, List.set_cons_succ])
            refine take_named (i := 6) (d := 72) (v := ?v6) rfl (by kernel_rfl) (by kernel_rfl) (by kernel_rfl) (by kernel_rfl) (fun _ _ _ h => h) (Or.inl ⟨by kernel_rfl, ?y6⟩) (by assumption) ?_
            case y6 => intro wq hSw; (try dsimp only at hSw); go_simp; (try with_reducible rfl)
            (try simp only [Act.put, List.setIfInBounds_toArray, List.set_cons_zero, List.set_cons_succ])
            refine take_named (i := 7) (d := 73) (v := ?v7) rfl (by kernel_rfl) (by kernel_rfl) (by kernel_rfl) (by kernel_rfl) (fun _ _ _ h => h) (Or.inl ⟨by kernel_rfl, ?y7⟩) (by assumption) ?_
            case y7 => intro wq hSw; (try dsimp only at hSw); go_simp; (try with_reducible rfl)
            (try simp only [Act.put, List.setIfInBounds_toArray, List.set_cons_zero, List.set_cons_succ])
            refine wpAnyH_ready (rs := [8]) (by kernel_rfl) (by simp) ?_
            refine AllReadyH.cons rfl (fun K hK => ?_) AllReadyH.nil
            go_simp
            refine (HW2.out _).mono ?_
            rintro ee wm ⟨rfl, hbm0⟩
            have hbm := hd.trans (hbm0.mono hd.size)
            refine hK.out _ _ (HS.out _ hbm) (fun hHeld2 => ?_)
            clear hK K hHeld
            (try simp only [Act.put, List.setIfInBounds_toArray, List.set_cons_zero, List.set_cons_succ])
            refine take_named (i := 9) (d := 75) (v := ?v9) rfl (by kernel_rfl) (by kernel_rfl) (by kernel_rfl) (by kernel_rfl) (fun _ _ _ h => h) (Or.inl ⟨by kernel_rfl, ?y9⟩) (by assumption) ?_
            case y9 => intro wq hSw; (try dsimp only at hSw); go_simp; (try with_reducible rfl)
            (try simp only [Act.put, List.setIfInBounds_toArray, List.set_cons_zero, List.set_cons_succ])
            refine take_named (i := 10) (d := 76) (v := ?v10) rfl (by kernel_rfl) (by kernel_rfl) (by kernel_rfl) (by kernel_rfl) (fun _ _ _ h => h) (Or.inl ⟨by kernel_rfl, ?y10⟩) (by assumption) ?_
            case y10 => intro wq hSw; (try dsimp only at hSw); go_simp; (try with_reducible rfl)
            (try simp only [Act.put, List.setIfInBounds_toArray, List.set_cons_zero, List.set_cons_succ])
            refine take_named (i := 11) (d := 77) (v := ?v11) rfl (by kernel_rfl) (by kernel_rfl) (by kernel_rfl) (by kernel_rfl) (fun _ _ _ h => h) (Or.inl ⟨by kernel_rfl, ?y11⟩) (by assumption) ?_
            case y11 => intro wq hSw; (try dsimp only at hSw); go_simp; (try with_reducible rfl)
            (try simp only [Act.put, List.setIfInBounds_toArray, List.set_cons_zero, List.set_cons_succ])
            refine take_named (i := 12) (d := 78) (v := ?v12) rfl (by kernel_rfl) (by kernel_rfl) (by kernel_rfl) (by kernel_rfl) (fun _ _ _ h => h) (Or.inl ⟨by kernel_rfl, ?y12⟩) (by assumption) ?_
            case y12 => intro wq hSw; (try dsimp only at hSw); go_simp; (try with_reducible rfl)
            (try simp only [Act.put, List.setIfInBounds_toArray, List.set_cons_zero, List.set_cons_succ])
            refine take_named (i := 13) (d := 79) (v := ?v13) rfl (by kernel_rfl) (by kernel_rfl) (by kernel_rfl) (by kernel_rfl) (fun _ _ _ h => h) (Or.inl ⟨by kernel_rfl, ?y13⟩) (by assumption) ?_
            case y13 => intro wq hSw; (try dsimp only at hSw); go_simp; (try with_reducible rfl)
            (try simp only [Act.put, List.setIfInBounds_toArray, List.set_cons_zero, List.set_cons_succ])
            refine take_named (i := 14) (d := 80) (v := ?v14) rfl (by kernel_rfl) (by kernel_rfl) (by kernel_rfl) (by kernel_rfl) (fun _ _ _ h => h) (Or.inl ⟨by kernel_rfl, ?y14⟩) (by assumption) ?_
            case y14 => intro wq hSw; (try dsimp only at hSw); go_simp; (try with_reducible rfl)
            (try simp only [Act.put, List.setIfInBounds_toArray, List.set_cons_zero, List.set_cons_succ])
            refine take_named (i := 15) (d := 81) (v := ?v15) rfl (by kernel_rfl) (by kernel_rfl) (by kernel_rfl) (by kernel_rfl) (fun _ _ _ h => h) (Or.inl ⟨by kernel_rfl, ?y15⟩) (by assumption) ?_
            case y15 => intro wq hSw; (try dsimp only at hSw); go_simp; (try with_reducible rfl)
            (try simp only [Act.put, List.setIfInBounds_toArray, List.set_cons_zero, List.set_cons_succ])
            refine take_named (i := 16) (d := 82) (v := undef) rfl (by kernel_rfl) (by kernel_rfl) (by kernel_rfl) (by kernel_rfl) (fun _ _ _ h => h) (Or.inr ⟨by kernel_rfl, rfl⟩) (by assumption) ?_
            (try simp only [Act.put, List.setIfInBounds_toArray, List.set_cons_zero, List.set_cons_succ])
            refine take_named (i := 17) (d := 83) (v := undef) rfl (by kernel_rfl) (by kernel_rfl) (by kernel_rfl) (by kernel_rfl) (fun _ _ _ h => h) (Or.inr ⟨by kernel_rfl, rfl⟩) (by assumption) ?_
            (try simp only [Act.put, List.setIfInBounds_toArray, List.set_cons_zero, List.set_cons_succ])
            refine take_named (i := 18) (d := 84) (v := undef) rfl (by kernel_rfl) (by kernel_rfl) (by kernel_rfl) (by kernel_rfl) (fun _ _ _ h => h) (Or.inr ⟨by kernel_rfl, rfl⟩) (by assumption) ?_
            (try simp only [Act.put, List.setIfInBounds_toArray, List.set_cons_zero, List.set_cons_succ])
            refine take_named (i := 19) (d := 85) (v := ?v19) rfl (by kernel_rfl) (by kernel_rfl) (by kernel_rfl) (by kernel_rfl) (fun _ _ _ h => h) (Or.inl ⟨by kernel_rfl, ?y19⟩) (by assumption) ?_
            case y19 => intro wq hSw; (try dsimp only at hSw); go_simp; (try with_reducible rfl)
            (try simp only [Act.put, List.setIfInBounds_toArray, List.set_cons_zero, List.set_cons_succ])
            refine take_named (i := 20) (d := 86) (v := ?v20) rfl (by kernel_rfl) (by kernel_rfl) (by kernel_rfl) (by kernel_rfl) (fun _ _ _ h => h) (Or.inl ⟨by kernel_rfl, ?y20⟩) (by assumption) ?_
            case y20 => intro wq hSw; (try dsimp only at hSw); go_simp; (try with_reducible rfl)
            (try simp only [Act.put, List.setIfInBounds_toArray, List.set_cons_zero, List.set_cons_succ])
            refine wpAnyH_done (by kernel_rfl) ?_ _
            all_goals
              have k6 := blk_below k6 hbm lH
              have n4 := blk_below n4 hbm lG1
              have c0 := blk_cell k6 0
              have c1 := blk_cell k6 1
              have c2 := blk_cell n4 0
              have c3 := blk_cell n4 1
              have hinm := hin6.trans (hbm.mono (by omega))
              have lm := hbm.size
              clear q0 q1 q2 q3 n6 HS hbm0
              go_wp2_with fail
              refine (HE.out _).mono ?_
              rintro ee wd ⟨rfl, hbd⟩
              have k6 := blk_below k6 hbd (by omega)
              have f0 := blk_free k6 0
              have f1 := blk_free k6 1
              have c0 := blk_cell k6 0
              have c1 := blk_cell k6 1
              have hind := hinm.trans (hbd.mono (by omega))
              go_wp2
              go_roundw
              case rel => exact ⟨j + 1, (z1, z2), by omega, by go_num, Hn2.out, blk_set (blk_set k6 0 _) 1 _, (hind.setCell (Nat.le_refl _) _).setCell (Nat.le_refl _) _⟩
              case measure => simp [intOf]; omega
        · have t0 : decide ((j : Int) < (L.length : Int)) = false := decide_eq_false (by omega)
          obtain rfl : j = L.length := by omega
          have hx : (x1, x2) = (ptsL L)[i]'(by rw [ptsL_len]; exact hlt) := hf.out.trans HP.out
          obtain ⟨pb, po, rfl, hpw, e0, e1⟩ := rd_p HR.out i (by rw [Hpl.out]; exact hlt)
          rw [← hx] at e0 e1
          have d0 := (bcell hVr pb (po + i * 2) hpw).trans e0
          have d1 := (bcell hVr pb (po + i * 2 + 1) hpw).trans e1
          dsimp only at d0 d1
          have c0 := blk_cell hk6 0
          have c1 := blk_cell hk6 1
          clear e0 e1 hx
          go_upto_region 22 with fail
          go_quiet (fail)
          go_wp2
          go_roundw
          case rel => exact ⟨i + 1, by omega, by go_num, below_drewN hVr _⟩
          case measure => simp [intOf]; omega
    · have t0 : decide ((i : Int) < (L.length : Int)) = false := decide_eq_false (by omega)
      have hLr := HL2.out.below hbel h02
      go_wp2_with fail
      refine (awake_any _ hLr).mono ?_
      rintro ee wz ⟨rfl, hbz⟩
      go_wp2
      go_ret
      exact ⟨rfl, hB2.trans ((hbel.trans (hbz.mono hsr)).mono h2)⟩

end Go.Proofs.YteemknjnlocgpaaDoor
