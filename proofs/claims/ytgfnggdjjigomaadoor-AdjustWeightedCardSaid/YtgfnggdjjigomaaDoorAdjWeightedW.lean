/- The walk of the statement AdjustWeighted. -/
import Derived.Test.YtgfnggdjjigomaaDoorRef22D
import Derived.Test.YtgfnggdjjigomaaDoorAdjSameW
import Derived.Test.YtgfnggdjjigomaaDoorAdjAwakeW
import Derived.Test.YtgfnggdjjigomaaDoorAppend
namespace Go.Proofs.YtgfnggdjjigomaaDoor
open Go.RowKit

theorem info_outc : (Tryd.prog.info? 25).map (fun i => (i.zero, i.size, i.bytes)) = some (some (.agg #[.int .u8 0, .int .u8 0, .int .u8 0, .int .u8 0, .int .i64 0, .int .i64 0]), 6, 24) := by kernel_rfl
theorem ocC_one (L : List Oc) : ∀ u ∈ ocC L, u.oneCell' = true := by
  intro u hu
  unfold ocC at hu
  rw [List.mem_flatMap] at hu
  obtain ⟨x, _, hx⟩ := hu
  simp only [List.mem_cons, List.not_mem_nil, or_false] at hx
  rcases hx with rfl | rfl | rfl | rfl | rfl | rfl <;> rfl
/-- The program's Weighted and the reference's return the same. -/
theorem weighted_pair (L : List Oc) (vul : Int) (hn : L.length ≤ 100) (hv : 0 ≤ vul ∧ vul ≤ 255) (ho : ∀ x ∈ L, OcOk x) : ∃ (P : List Pt) (E : Int), P.length ≤ 1000 ∧
    (∀ A c W, Rd W W.heap.size 6 A L.length (ocC L) → LaidS W → Calls Tryd.prog 20 #[.slice A L.length c, .int .u8 vul] W fun e w' => ∃ A1 c1, e = .returned (.tuple #[.slice A1 P.length c1, .int .i64 E]) ∧ Rd w' w'.heap.size 2 A1 P.length (pC P) ∧ Below W.heap.size W w') ∧
    (∀ A c W, Rd W W.heap.size 6 A L.length (ocC L) → Calls Tryd.prog 21 #[.slice A L.length c, .int .u8 vul] W fun e w' => ∃ A1 c1, e = .returned (.tuple #[.slice A1 P.length c1, .int .i64 E]) ∧ Rd w' w'.heap.size 2 A1 P.length (pC P) ∧ Below W.heap.size W w') := by
  cases hw : wOk L vul with
  | false =>
    refine ⟨[], 2, by simp, fun A c W hA hL => (weight_any L vul A c W (by omega) hv ho hA hL).mono fun e w' h => ?_, fun A c W hA => (r22weighted L vul A c W hn hv ho hA).mono fun e w' h => ?_⟩
    · rcases h with ⟨_, he, hb⟩ | ⟨h, _⟩
      · exact ⟨none, 0, he, Rd.nil_, hb⟩
      · rw [hw] at h; cases h
    · rcases h with ⟨_, he, hb⟩ | ⟨h, _⟩
      · exact ⟨none, 0, he, Rd.nil_, hb⟩
      · rw [hw] at h; cases h
  | true =>
    have hl := wPts_len L vul
    refine ⟨wPts L vul, 0, by omega, fun A c W hA hL => (weight_any L vul A c W (by omega) hv ho hA hL).mono fun e w' h => ?_, fun A c W hA => (r22weighted L vul A c W hn hv ho hA).mono fun e w' h => ?_⟩
    · rcases h with ⟨h, _⟩ | ⟨_, v, he, hown, hb⟩
      · rw [hw] at h; cases h
      · obtain ⟨A1, c1, rfl⟩ := own_form hown
        rw [hl]
        exact ⟨A1, c1, he, Rd.of_own hown, hb⟩
    · rcases h with ⟨h, _⟩ | ⟨_, v, he, hown, hb⟩
      · rw [hw] at h; cases h
      · obtain ⟨A1, c1, rfl⟩ := own_form hown
        rw [hl]
        exact ⟨A1, c1, he, Rd.of_own hown, hb⟩

set_option maxRecDepth 100000 in
set_option maxHeartbeats 4000000 in
theorem adjWeighted_walk (L : List Oc) (A : Option Addr) (c : Nat) (ho : ∀ x ∈ L, OcOk x) (_ : L.length ≤ c ∧ c ≤ 9223372036854775807) (hA0 : A = none → c = 0) (vul : Int) (hv : 0 ≤ vul ∧ vul ≤ 255) (w : World) (hA : Rd w w.heap.size 6 A L.length (ocC L)) (hL : LaidS w) :
    Calls Tryd.prog 4 #[.slice A L.length c, .int .u8 vul] w fun e w' => e = .returned (.bool true) ∧ Below w.heap.size w w' := by
  have HL := Lib.hid hL
  by_cases h12 : 12 < L.length
  · have c0 : (12 : Int) < (L.length : Int) := by omega
    have HA := Lib.hid (awake22 w hL)
    clear hA ho hL
    go_enter Tryd.func4, Tryd.ntmps4
    go_wp2_with fail
    refine HA.out.mono ?_
    rintro ee w1 ⟨rfl, hb⟩
    go_wp2
    go_ret
    exact ⟨rfl, hb⟩
  have c0 : ¬ (12 : Int) < (L.length : Int) := by omega
  obtain ⟨P, E, hP, h1, h2⟩ := weighted_pair L vul (by omega) hv ho
  have H1 := Lib.hid h1
  have H2 := Lib.hid h2
  obtain ⟨i0, hi, hz0, hz1, hz2⟩ := info_parts info_outc
  have HA := Lib.hid hA
  clear hA ho hL h1 h2
  go_enter Tryd.func4, Tryd.ntmps4
  go_wp2_with (at_builtin; refine wpList_append_src rfl _ _ 50 rfl w.heap.size 25 i0 (.agg #[.int .u8 0, .int .u8 0, .int .u8 0, .int .u8 0, .int .i64 0, .int .i64 0]) 6 24 Tryd.underlying50 hi hz0 hz1 hz2 rfl (by decide) _ 0 [] rfl (own_empty _ _ _ _ rfl) A L.length c w.heap.size (ocC L) rfl (HA.out.alloc (Nat.le_refl _) _) hA0 (ocC_one L) ?x3 ?x4 ?x5 ?_)
  case x3 => unfold maxLen; omega
  case x4 => omega
  intro v1 w1 ho1 hgrow1 _
  have hB : Below w.heap.size w w1 := ((Below.refl _ _).alloc (Nat.le_refl _) _).grown hgrow1 (by simp) (fun g hg => by simp [Value.ownBlock] at hg; omega)
  obtain ⟨A1, c1, rfl⟩ := own_form ho1
  have R0 := Lib.hid (HA.out.go hB)
  have R1 := Lib.hid (Rd.of_own ho1)
  clear ho1 hgrow1
  go_wp2_with fail
  refine (H1.out _ _ _ R0.out (HL.out.go hB)).mono ?_
  rintro ee w2 ⟨A2, c2, rfl, r2, hb⟩
  have R2 := Lib.hid r2
  replace hB := below_via hB hb
  replace R0 := Lib.hid (R0.out.go hb)
  replace R1 := Lib.hid (R1.out.go hb)
  clear hb r2
  go_wp2_with fail
  refine (H2.out _ _ _ R1.out).mono ?_
  rintro ee w3 ⟨A3, c3, rfl, r3, hb⟩
  have R3 := Lib.hid r3
  replace hB := below_via hB hb
  replace R0 := Lib.hid (R0.out.go hb)
  replace R1 := Lib.hid (R1.out.go hb)
  replace R2 := Lib.hid (R2.out.go hb)
  clear hb r3 H1 H2
  go_wp2
  go_loopw [32] (fun i wx => ∃ j : Nat, j ≤ L.length ∧ i = .int .i64 (j : Int) ∧ Below w3.heap.size w3 wx) (fun i _ => L.length - (intOf i).toNat)
  case atStart => exact ⟨0, by omega, rfl, Below.refl _ _⟩
  case round =>
    obtain ⟨j, hj, rfl, hb⟩ := hrel
    rename World => wx
    by_cases hlt : j < L.length
    · obtain ⟨ba, oa, rfl, hba, r0, r1, r2, r3, r4, r5⟩ := rd_o R0.out j hlt
      obtain ⟨bb, ob, rfl, hbb, s0, s1, s2, s3, s4, s5⟩ := rd_o R1.out j hlt
      have d0 := keepB0 hb hba r0
      have d1 := keepB0 hb hba r1
      have d2 := keepB0 hb hba r2
      have d3 := keepB0 hb hba r3
      have d4 := keepB0 hb hba r4
      have d5 := keepB0 hb hba r5
      have e0 := keepB0 hb hbb s0
      have e1 := keepB0 hb hbb s1
      have e2 := keepB0 hb hbb s2
      have e3 := keepB0 hb hbb s3
      have e4 := keepB0 hb hbb s4
      have e5 := keepB0 hb hbb s5
      generalize L[j] = x at d0 d1 d2 d3 d4 d5 e0 e1 e2 e3 e4 e5
      obtain ⟨x1, x2, x3, x4, x5, x6⟩ := x
      dsimp only at d0 d1 d2 d3 d4 d5 e0 e1 e2 e3 e4 e5
      have k1 : (0 : Int) ≤ (j : Int) := by omega
      have k2 : (j : Int) < (L.length : Int) := by omega
      have hb2 := Lib.hid (fun n => below_drewN hb n)
      clear r0 r1 r2 r3 r4 r5 s0 s1 s2 s3 s4 s5 hb R0 R1 R2 R3
      go_upto_region 9 with fail
      go_quiet (fail)
      go_wp2
      go_roundw
      case rel => exact ⟨j + 1, by omega, by go_num, hb2.out _⟩
      case measure => simp [intOf]; omega
    · obtain rfl : j = L.length := by omega
      replace hB := below_via hB hb
      have HSm := Lib.hid (same22 P A2 A3 c2 c3 wx (R2.out.go hb) (R3.out.go hb) hP)
      clear hb R0 R1 R2 R3
      go_wp2_with fail
      refine HSm.out.mono ?_
      rintro ee w4 ⟨rfl, hb⟩
      replace hB := below_via hB hb
      have HAw := Lib.hid (awake22 w4 (HL.out.go hB))
      clear hb HSm
      go_wp2_with fail
      refine HAw.out.mono ?_
      rintro ee w5 ⟨rfl, hb⟩
      replace hB := below_via hB hb
      go_wp2
      go_ret
      exact ⟨rfl, hB⟩

end Go.Proofs.YtgfnggdjjigomaaDoor
