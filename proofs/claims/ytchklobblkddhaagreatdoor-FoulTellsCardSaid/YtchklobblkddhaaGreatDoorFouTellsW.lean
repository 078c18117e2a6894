/- Board, All and Demand of the package foul and of its reference return the same. The walk of finesselaw23.FoulTells. -/
import Derived.Test.YtchklobblkddhaaGreatDoorRef23E
import Derived.Test.YtchklobblkddhaaGreatDoorEntLent
import Derived.Test.YtchklobblkddhaaGreatDoorFouAwkW
import Derived.Test.YtchklobblkddhaaGreatDoorFouApL
namespace Go.Proofs.YtchklobblkddhaaGreatDoor
open Go.RowKit Go.Shelf

/-! ### Board, All and Demand of the package foul and of its reference return the same. -/
theorem chk_zero {L : List Ent} (h : chkE L = 0) : (∀ e ∈ L, e.right = true) ∧ L.length ≤ 24 := by
  unfold chkE at h
  by_cases h1 : L.all Ent.right = true
  · rw [if_pos h1] at h
    refine ⟨fun e he => List.all_eq_true.1 h1 e he, ?_⟩
    by_cases h2 : 24 < L.length
    · rw [if_pos h2] at h; omega
    · omega
  · rw [if_neg h1] at h; omega
def BoardP (L : List Ent) (vul : Int) : Prop := ∃ (X : List Ln) (E : Int), X.length ≤ 24 ∧
    (∀ W A c, LaidS W → Laid W → Rd W W.heap.size 33 A L.length (enL L) → Calls Tryz.prog 6 #[.slice A L.length c, .int .u8 vul] W fun e w' => ∃ v, e = .returned (.tuple #[v, .int .i64 E]) ∧ w'.ownsRow W.heap.size 41 5 v X.length (lnC X) ∧ Below W.heap.size W w') ∧
    (∀ W A c, Rd W W.heap.size 33 A L.length (enL L) → Calls Tryz.prog 7 #[.slice A L.length c, .int .u8 vul] W fun e w' => ∃ v, e = .returned (.tuple #[v, .int .i64 E]) ∧ w'.ownsRow W.heap.size 40 5 v X.length (lnC X) ∧ Below W.heap.size W w')
theorem board_pair (L : List Ent) (hO : ∀ e ∈ L, e.Ok) (hn : L.length ≤ 1000000) (vul : Int) (hv : 0 ≤ vul ∧ vul ≤ 255) : BoardP L vul := by
  obtain ⟨E, hE⟩ : ∃ E, (if 3 < vul then 2 else chkE L) = E := ⟨_, rfl⟩
  by_cases h0 : E = 0
  · subst h0
    have hv3 : vul ≤ 3 := by
      by_cases h : 3 < vul
      · rw [if_pos h] at hE; omega
      · omega
    rw [if_neg (by omega)] at hE
    obtain ⟨hR, hn24⟩ := chk_zero hE
    refine ⟨boardTo L vul L.length, 0, by rw [boardTo_len]; exact hn24, fun W A c hL hLm hA => ?_, fun W A c hA => ?_⟩
    · rw [boardTo_len]
      exact fboard_ok L A c vul W hO hA hn24 hL hLm hR ⟨hv.1, hv3⟩
    · rw [boardTo_len]
      exact r23board_ok L A c vul W hO hA hn24 hR hE ⟨hv.1, hv3⟩
  · refine ⟨[], E, by simp, fun W A c hL hLm hA => ?_, fun W A c hA => ?_⟩
    · by_cases h3 : 3 < vul
      · rw [if_pos h3] at hE
        subst hE
        exact (fboard_vul L A c vul W h3).mono fun e w' h => ⟨_, h.1, own_nil, h.2⟩
      · rw [if_neg h3] at hE
        subst hE
        exact (fboard_bad L A c vul W hO hA hn hL h0 (by omega)).mono fun e w' h => ⟨_, h.1, own_nil, h.2⟩
    · exact (r23board_bad L A c vul E W hO hA hn hE h0).mono fun e w' h => ⟨_, h.1, own_nil, h.2⟩
def AllP (L : List Ent) : Prop := ∃ (n f0 f1 f2 f3 E : Int),
    (∀ W A c, LaidS W → Rd W W.heap.size 33 A L.length (enL L) → Calls Tryz.prog 8 #[.slice A L.length c] W fun e w' => e = .returned (.tuple #[.int .i64 n, .agg #[.int .i64 f0, .int .i64 f1, .int .i64 f2, .int .i64 f3], .int .i64 E]) ∧ Below W.heap.size W w') ∧
    (∀ W A c, Rd W W.heap.size 33 A L.length (enL L) → Calls Tryz.prog 9 #[.slice A L.length c] W fun e w' => e = .returned (.tuple #[.int .i64 n, .agg #[.int .i64 f0, .int .i64 f1, .int .i64 f2, .int .i64 f3], .int .i64 E]) ∧ Below W.heap.size W w')
theorem all_pair (L : List Ent) (hO : ∀ e ∈ L, e.Ok) (hn : L.length ≤ 1000000) : AllP L := by
  by_cases h0 : chkE L = 0
  · exact ⟨_, _, _, _, _, 0, fun W A c hL hA => fall_ok L A c W hO hA hn hL h0, fun W A c hA => r23all_ok L A c W hO hA hn h0 (chk_zero h0).1⟩
  · exact ⟨_, _, _, _, _, _, fun W A c hL hA => fall_bad L A c W hO hA hn hL h0, fun W A c hA => r23all_bad L A c W hO hA hn h0⟩
def DemP (L : List Ent) : Prop := ∃ (p0 p1 q0 q1 E : Int),
    (∀ W A c, LaidS W → Rd W W.heap.size 33 A L.length (enL L) → Calls Tryz.prog 10 #[.slice A L.length c] W fun e w' => e = .returned (.tuple #[.agg #[.int .i64 p0, .int .i64 p1], .agg #[.int .i64 q0, .int .i64 q1], .int .i64 E]) ∧ Below W.heap.size W w') ∧
    (∀ W A c, Rd W W.heap.size 33 A L.length (enL L) → Calls Tryz.prog 11 #[.slice A L.length c] W fun e w' => e = .returned (.tuple #[.agg #[.int .i64 p0, .int .i64 p1], .agg #[.int .i64 q0, .int .i64 q1], .int .i64 E]) ∧ Below W.heap.size W w')
theorem dem_pair (L : List Ent) (hO : ∀ e ∈ L, e.Ok) (hn : L.length ≤ 1000000) : DemP L := by
  by_cases h0 : chkE L = 0
  · obtain ⟨hR, hn24⟩ := chk_zero h0
    exact ⟨_, _, _, _, 0, fun W A c hL hA => fdemand_ok L A c W hO hA hn24 hL hR, fun W A c hA => r23demand_ok L A c W hO hA hn24 hR h0⟩
  · exact ⟨_, _, _, _, _, fun W A c hL hA => fdemand_bad L A c W hO hA hn hL h0, fun W A c hA => r23demand_bad L A c W hO hA hn h0⟩

/-! ### The walk of finesselaw23.FoulTells. -/
theorem eqLnR (a b c d : Int) (e : Bool) (w : World) : (Op.equalIn 10000 40 (.agg #[.int .i64 a, .int .i64 b, .int .i64 c, .int .i64 d, .bool e]) (.agg #[.int .i64 a, .int .i64 b, .int .i64 c, .int .i64 d, .bool e])).run Tryz.prog w = .ok true w := by
  rw [run_equalIn_agg w 9999 40 _ _ (by kernel_rfl) (by kernel_rfl)]
  go_simp
theorem laid_go23 {w w' : World} (h : Laid w) (hb : Below w.heap.size w w') : Laid w' := by
  obtain ⟨t, fr, h0⟩ := h
  exact Laid.below ⟨t, fr, h0⟩ hb (by have := blk_lt h0; omega)

set_option maxRecDepth 100000 in
set_option maxHeartbeats 4000000 in
theorem ftells_walk (L : List Ent) (A : Option Addr) (c : Nat) (vul : Int) (hv : 0 ≤ vul ∧ vul ≤ 255) (w : World) (hL : LaidS w) (hLm : Laid w) (hO : ∀ e ∈ L, e.Ok) (hE : ∀ e ∈ L, EqC e.C) (hA : Rd w w.heap.size 33 A L.length (enL L)) (hAn : A = none → c = 0) :
    Calls Tryz.prog 3 #[.slice A L.length c, .int .u8 vul] w fun e w' => e = .returned (.bool true) ∧ Below w.heap.size w w' := by
  have HAk := Lib.hid (fun W h1 h2 => awake23 W h1 h2)
  have HL := Lib.hid hL
  have HLm := Lib.hid hLm
  have HA := Lib.hid hA
  by_cases h30 : 30 < L.length
  · have c1 : (30 : Int) < (L.length : Int) := by omega
    clear hO hE hA hL hLm
    go_enter Tryz.func3, Tryz.ntmps3
    go_wp2_with fail
    refine (HAk.out w HL.out HLm.out).mono ?_
    rintro ee w1 ⟨rfl, hb⟩
    go_wp2
    go_ret
    exact ⟨rfl, hb⟩
  · have c1 : ¬ (30 : Int) < (L.length : Int) := by omega
    have HB := Lib.hid (board_pair L hO (by omega) vul hv)
    have HAll := Lib.hid (all_pair L hO (by omega))
    have HD := Lib.hid (dem_pair L hO (by omega))
    have HLe := Lib.hid (lentE_any L A c w hO hA hAn (by omega))
    have HK := Lib.hid (fun W g h1 h2 => keptE_any L g A c W hO hE h1 h2 (by omega))
    have HS := Lib.hid (show ∀ e ∈ L, e.C.size = 33 from fun e he => (hO e he).1.1)
    clear hO hE hA hL hLm
    obtain ⟨X, E, hX, hB1, hB2⟩ := HB.out
    obtain ⟨n, f0, f1, f2, f3, F, hA1, hA2⟩ := HAll.out
    obtain ⟨p0, p1, q0, q1, G, hD1, hD2⟩ := HD.out
    have HB1 := Lib.hid hB1
    have HB2 := Lib.hid hB2
    have HA1 := Lib.hid hA1
    have HA2 := Lib.hid hA2
    have HD1 := Lib.hid hD1
    have HD2 := Lib.hid hD2
    clear hB1 hB2 hA1 hA2 hD1 hD2 HB HAll HD
    go_enter Tryz.func3, Tryz.ntmps3
    go_wp2_with fail
    refine HLe.out.mono ?_
    rintro ee w1 ⟨gl, rfl, hle, hb1⟩
    have HR1 := Lib.hid (LentE.rd hle HS.out)
    have HLe1 := Lib.hid hle.all
    have HW1 := Lib.hid hb1
    clear hle hb1 HLe
    go_wp2_with fail
    refine (HB1.out _ _ _ (HL.out.go HW1.out) (laid_go23 HLm.out HW1.out) HR1.out).mono ?_
    rintro ee w2 ⟨v1, rfl, o1, hb2⟩
    have HR2 := Lib.hid (HR1.out.go hb2)
    have HLe2 := Lib.hid (HLe1.out.go hb2)
    have HW2 := Lib.hid (below_via HW1.out hb2)
    clear hb2 HR1 HLe1 HW1 HB1
    go_wp2_with fail
    refine (HB2.out _ _ _ (HA.out.go HW2.out)).mono ?_
    rintro ee w3 ⟨v2, rfl, o2, hb3⟩
    have HR3 := Lib.hid (HR2.out.go hb3)
    have HLe3 := Lib.hid (HLe2.out.go hb3)
    have HW3 := Lib.hid (below_via HW2.out hb3)
    have O1 := Lib.hid (own_below o1 hb3 (Nat.le_refl _))
    have O2 := Lib.hid o2
    clear hb3 HR2 HLe2 HW2 HB2 o1 o2
    go_wp2_with fail
    refine (HA1.out _ _ _ (HL.out.go HW3.out) HR3.out).mono ?_
    rintro ee w4 ⟨rfl, hb4⟩
    have HR4 := Lib.hid (HR3.out.go hb4)
    have HLe4 := Lib.hid (HLe3.out.go hb4)
    have HW4 := Lib.hid (below_via HW3.out hb4)
    have P1 := Lib.hid (own_below O1.out hb4 (Nat.le_refl _))
    have P2 := Lib.hid (own_below O2.out hb4 (Nat.le_refl _))
    clear hb4 HR3 HLe3 HW3 HA1 O1 O2
    go_wp2_with fail
    obtain ⟨W4, hW4⟩ : ∃ V, w4.alloc (.cells #[.int .i64 f0, .int .i64 f1, .int .i64 f2, .int .i64 f3] 32) = V := ⟨_, rfl⟩
    obtain ⟨g4, hg4⟩ : ∃ g, w4.heap.size = g := ⟨_, rfl⟩
    have K4 := Lib.hid (show W4.heap[g4]? = some (.cells #[.int .i64 f0, .int .i64 f1, .int .i64 f2, .int .i64 f3] 32 (0, 0)) by rw [← hW4]; exact blk_new _ hg4.symm)
    have hb5 : Below w4.heap.size w4 W4 := by rw [← hW4]; exact (Below.refl _ _).alloc (Nat.le_refl _) _
    have HR5 := Lib.hid (HR4.out.go hb5)
    have HLe5 := Lib.hid (HLe4.out.go hb5)
    have HW5 := Lib.hid (below_via HW4.out hb5)
    have Q1 := Lib.hid (own_below P1.out hb5 (Nat.le_refl _))
    have Q2 := Lib.hid (own_below P2.out hb5 (Nat.le_refl _))
    rw [hW4, hg4]
    clear hW4 hg4 hb5 HR4 HLe4 HW4 P1 P2
    refine (HA2.out _ _ _ (HA.out.go HW5.out)).mono ?_
    rintro ee w6 ⟨rfl, hb6⟩
    have K46 := Lib.hid (blk_below K4.out hb6 (blk_lt K4.out))
    have HR6 := Lib.hid (HR5.out.go hb6)
    have HLe6 := Lib.hid (HLe5.out.go hb6)
    have HW6 := Lib.hid (below_via HW5.out hb6)
    have P1 := Lib.hid (own_below Q1.out hb6 (Nat.le_refl _))
    have P2 := Lib.hid (own_below Q2.out hb6 (Nat.le_refl _))
    clear hb6 HR5 HLe5 HW5 HA2 Q1 Q2 K4
    go_wp2_with fail
    have KaP := Lib.hid K46.out
    clear K46
    obtain ⟨W6, hW6⟩ : ∃ V, w6.alloc (.cells #[.int .i64 f0, .int .i64 f1, .int .i64 f2, .int .i64 f3] 32) = V := ⟨_, rfl⟩
    obtain ⟨g6, hg6⟩ : ∃ g, w6.heap.size = g := ⟨_, rfl⟩
    have KbQ := Lib.hid (show W6.heap[g6]? = some (.cells #[.int .i64 f0, .int .i64 f1, .int .i64 f2, .int .i64 f3] 32 (0, 0)) by rw [← hW6]; exact blk_new _ hg6.symm)
    have hbx : Below w6.heap.size w6 W6 := by rw [← hW6]; exact (by repeat (first | exact Below.refl _ _ | assumption | refine Below.drew ?_ | refine below_drewN ?_ _ | refine Below.alloc ?_ (by first | omega | (simp; done) | (simp; omega)) _ | refine Below.setCell ?_ (by first | omega | (simp; done) | (simp; omega)) _))
    rw [hW6, hg6]
    clear hW6 hg6
    have HR7 := Lib.hid (HR6.out.go hbx)
    have HLe7 := Lib.hid (HLe6.out.go hbx)
    have HW7 := Lib.hid (below_via HW6.out hbx)
    have Q1 := Lib.hid (own_below P1.out hbx (Nat.le_refl _))
    have Q2 := Lib.hid (own_below P2.out hbx (Nat.le_refl _))
    have KaQ := Lib.hid (blk_below KaP.out hbx (blk_lt KaP.out))
    clear hbx HR6 HLe6 HW6 P1 P2 KaP
    refine (HD1.out _ _ _ (HL.out.go HW7.out) HR7.out).mono ?_
    rintro ee w8 ⟨rfl, hb8⟩
    have HR8 := Lib.hid (HR7.out.go hb8)
    have HLe8 := Lib.hid (HLe7.out.go hb8)
    have HW8 := Lib.hid (below_via HW7.out hb8)
    have P1 := Lib.hid (own_below Q1.out hb8 (Nat.le_refl _))
    have P2 := Lib.hid (own_below Q2.out hb8 (Nat.le_refl _))
    have KaP := Lib.hid (blk_below KaQ.out hb8 (blk_lt KaQ.out))
    have KbP := Lib.hid (blk_below KbQ.out hb8 (blk_lt KbQ.out))
    clear hb8 HR7 HLe7 HW7 Q1 Q2 KaQ KbQ
    clear HD1
    go_wp2_with fail
    obtain ⟨W8, hW8⟩ : ∃ V, (w8.alloc (.cells #[.int .i64 p0, .int .i64 p1] 36)).alloc (.cells #[.int .i64 q0, .int .i64 q1] 36) = V := ⟨_, rfl⟩
    obtain ⟨g8, hg8⟩ : ∃ g, w8.heap.size = g := ⟨_, rfl⟩
    have KcQ := Lib.hid (show W8.heap[g8]? = some (.cells #[.int .i64 p0, .int .i64 p1] 36 (0, 0)) by rw [← hW8]; exact blk_alloc (blk_new _ hg8.symm) _)
    have KdQ := Lib.hid (show W8.heap[g8 + 1]? = some (.cells #[.int .i64 q0, .int .i64 q1] 36 (0, 0)) by rw [← hW8]; exact blk_new _ (by simp; omega))
    have hbx : Below w8.heap.size w8 W8 := by rw [← hW8]; exact (by repeat (first | exact Below.refl _ _ | assumption | refine Below.drew ?_ | refine below_drewN ?_ _ | refine Below.alloc ?_ (by first | omega | (simp; done) | (simp; omega)) _ | refine Below.setCell ?_ (by first | omega | (simp; done) | (simp; omega)) _))
    rw [hW8, hg8]
    clear hW8 hg8
    have HR9 := Lib.hid (HR8.out.go hbx)
    have HLe9 := Lib.hid (HLe8.out.go hbx)
    have HW9 := Lib.hid (below_via HW8.out hbx)
    have Q1 := Lib.hid (own_below P1.out hbx (Nat.le_refl _))
    have Q2 := Lib.hid (own_below P2.out hbx (Nat.le_refl _))
    have KaQ := Lib.hid (blk_below KaP.out hbx (blk_lt KaP.out))
    have KbQ := Lib.hid (blk_below KbP.out hbx (blk_lt KbP.out))
    clear hbx HR8 HLe8 HW8 P1 P2 KaP KbP
    refine (HD2.out _ _ _ (HA.out.go HW9.out)).mono ?_
    rintro ee wX ⟨rfl, hbX⟩
    have HR10 := Lib.hid (HR9.out.go hbX)
    have HLe10 := Lib.hid (HLe9.out.go hbX)
    have HW10 := Lib.hid (below_via HW9.out hbX)
    have P1 := Lib.hid (own_below Q1.out hbX (Nat.le_refl _))
    have P2 := Lib.hid (own_below Q2.out hbX (Nat.le_refl _))
    have KaP := Lib.hid (blk_below KaQ.out hbX (blk_lt KaQ.out))
    have KbP := Lib.hid (blk_below KbQ.out hbX (blk_lt KbQ.out))
    have KcP := Lib.hid (blk_below KcQ.out hbX (blk_lt KcQ.out))
    have KdP := Lib.hid (blk_below KdQ.out hbX (blk_lt KdQ.out))
    clear hbX HR9 HLe9 HW9 Q1 Q2 KaQ KbQ KcQ KdQ
    clear HD2
    go_upto_region 10 with fail
    obtain ⟨WX, hWX⟩ : ∃ V, (wX.alloc (.cells #[.int .i64 p0, .int .i64 p1] 36)).alloc (.cells #[.int .i64 q0, .int .i64 q1] 36) = V := ⟨_, rfl⟩
    obtain ⟨g10, hg10⟩ : ∃ g, wX.heap.size = g := ⟨_, rfl⟩
    have KeQ := Lib.hid (show WX.heap[g10]? = some (.cells #[.int .i64 p0, .int .i64 p1] 36 (0, 0)) by rw [← hWX]; exact blk_alloc (blk_new _ hg10.symm) _)
    have KfQ := Lib.hid (show WX.heap[g10 + 1]? = some (.cells #[.int .i64 q0, .int .i64 q1] 36 (0, 0)) by rw [← hWX]; exact blk_new _ (by simp; omega))
    have hbx : Below wX.heap.size wX WX := by rw [← hWX]; exact (by repeat (first | exact Below.refl _ _ | assumption | refine Below.drew ?_ | refine below_drewN ?_ _ | refine Below.alloc ?_ (by first | omega | (simp; done) | (simp; omega)) _ | refine Below.setCell ?_ (by first | omega | (simp; done) | (simp; omega)) _))
    rw [hWX, hg10]
    clear hWX hg10
    have HR11 := Lib.hid (HR10.out.go hbx)
    have HLe11 := Lib.hid (HLe10.out.go hbx)
    have HW11 := Lib.hid (below_via HW10.out hbx)
    have Q1 := Lib.hid (own_below P1.out hbx (Nat.le_refl _))
    have Q2 := Lib.hid (own_below P2.out hbx (Nat.le_refl _))
    have KaQ := Lib.hid (blk_below KaP.out hbx (blk_lt KaP.out))
    have KbQ := Lib.hid (blk_below KbP.out hbx (blk_lt KbP.out))
    have KcQ := Lib.hid (blk_below KcP.out hbx (blk_lt KcP.out))
    have KdQ := Lib.hid (blk_below KdP.out hbx (blk_lt KdP.out))
    clear hbx HR10 HLe10 HW10 P1 P2 KaP KbP KcP KdP
    obtain ⟨A1, d1, rfl⟩ := own_form Q1.out
    obtain ⟨A2, d2, rfl⟩ := own_form Q2.out
    have a0 := blk_cell KaQ.out 0
    have a1 := blk_cell KaQ.out 1
    have a2 := blk_cell KaQ.out 2
    have a3 := blk_cell KaQ.out 3
    have b0 := blk_cell KbQ.out 0
    have b1 := blk_cell KbQ.out 1
    have b2 := blk_cell KbQ.out 2
    have b3 := blk_cell KbQ.out 3
    have m0 := blk_cell KcQ.out 0
    have m1 := blk_cell KcQ.out 1
    have n0 := blk_cell KdQ.out 0
    have n1 := blk_cell KdQ.out 1
    have x0 := blk_cell KeQ.out 0
    have x1 := blk_cell KeQ.out 1
    have y0 := blk_cell KfQ.out 0
    have y1 := blk_cell KfQ.out 1
    have hq4 : ∀ W, (Op.equalIn 10000 32 (.agg #[.int .i64 f0, .int .i64 f1, .int .i64 f2, .int .i64 f3]) (.agg #[.int .i64 f0, .int .i64 f1, .int .i64 f2, .int .i64 f3])).run Tryz.prog W = .ok true W := fun W => by
      have h := eq4 f0 f1 f2 f3 f0 f1 f2 f3 W
      simpa using h
    clear h30
    go_wp2_with fail
    have HX1 := Lib.hid (Rd.of_own Q1.out)
    have HX2 := Lib.hid (Rd.of_own Q2.out)
    clear Q1 Q2 hq4 KaQ KbQ KcQ KdQ KeQ KfQ a0 a1 a2 a3 b0 b1 b2 b3 m0 m1 n0 n1 x0 x1 y0 y1
    go_loopw [22, 107] (fun _ i wr => ∃ k : Nat, k ≤ X.length ∧ i = .int .i64 (k : Int) ∧ Hid (Below WX.heap.size WX wr)) (fun _ i _ => X.length - (intOf i).toNat)
    case atStart => exact ⟨0, Nat.zero_le _, rfl, Below.refl _ _⟩
    case round =>
      obtain ⟨k, hk, rfl, HB⟩ := hrel
      by_cases hlt : k < X.length
      · obtain ⟨b1, o1, rfl, hb1, r0, r1, r2, r3, r4⟩ := rd_ln HX1.out k hlt
        obtain ⟨b2, o2, rfl, hb2, s0, s1, s2, s3, s4⟩ := rd_ln HX2.out k hlt
        have t0 := (bcell HB.out b1 _ hb1).trans r0
        have t1 := (bcell HB.out b1 _ hb1).trans r1
        have t2 := (bcell HB.out b1 _ hb1).trans r2
        have t3 := (bcell HB.out b1 _ hb1).trans r3
        have t4 := (bcell HB.out b1 _ hb1).trans r4
        have z0 := (bcell HB.out b2 _ hb2).trans s0
        have z1 := (bcell HB.out b2 _ hb2).trans s1
        have z2 := (bcell HB.out b2 _ hb2).trans s2
        have z3 := (bcell HB.out b2 _ hb2).trans s3
        have z4 := (bcell HB.out b2 _ hb2).trans s4
        have c2 : (k : Int) < (X.length : Int) := by omega
        have c3 : (0 : Int) ≤ (k : Int) := by omega
        clear r0 r1 r2 r3 r4 s0 s1 s2 s3 s4 HX1 HX2
        generalize X[k].1.1 = y0 at *
        generalize X[k].1.2 = y1 at *
        generalize X[k].2.1.1 = y2 at *
        generalize X[k].2.1.2 = y3 at *
        generalize X[k].2.2 = y4 at *
        have hq := eqLnR y0 y1 y2 y3 y4
        go_wp2
        go_quiet (fail)
        go_wp2
        go_roundw
        case rel => exact ⟨k + 1, hlt, by go_num, below_drewN HB.out nq⟩
        case measure => simp [intOf]; omega
      · obtain rfl : k = X.length := by omega
        go_wp2_with fail
        refine (HK.out _ _ (HLe11.out.go HB.out) (HA.out.go (below_via HW11.out HB.out))).mono ?_
        rintro ee wY ⟨rfl, hbY⟩
        have HWY := Lib.hid (below_via (below_via HW11.out HB.out) hbY)
        go_wp2_with fail
        refine (HAk.out _ (HL.out.go HWY.out) (laid_go23 HLm.out HWY.out)).mono ?_
        rintro ee wZ ⟨rfl, hbZ⟩
        have HWZ := Lib.hid (below_via HWY.out hbZ)
        go_wp2
        go_ret
        exact ⟨rfl, HWZ.out⟩

end Go.Proofs.YtchklobblkddhaaGreatDoor
