/- The walk of the statement MatchTells. -/
import Derived.Test.YteemknjnlocgpaaDoorMatAwake
namespace Go.Proofs.YteemknjnlocgpaaDoor
open Go.RowKit

set_option maxHeartbeats 400000 in
theorem sumRN_any (n : Int) (w : World) (h : -1073741824 ≤ n ∧ n ≤ 1073741824) : Calls Tryd.prog 26 #[.int .i64 n] w fun e w' => e = .returned (.int .i64 (if n < 1 then 0 else n * (n - 1))) ∧ w = w' := by
  by_cases h1 : n < 1
  · rw [if_pos h1]
    go_enter Tryd.func26, Tryd.ntmps26
    go_wp2
    go_ret
    exact ⟨rfl, rfl⟩
  · rw [if_neg h1]
    have hm := mulB (x := n) (y := n) (X := 1073741824) (Y := 1073741824) (by omega) (by omega)
    have he := Lib.hid (show n * n - n = n * (n - 1) by grind)
    go_enter Tryd.func26, Tryd.ntmps26
    go_wp2
    go_ret
    exact ⟨ret_int he.out, rfl⟩
set_option maxHeartbeats 400000 in
theorem topRN_any (n : Int) (w : World) (h : -1073741824 ≤ n ∧ n ≤ 1073741824) : Calls Tryd.prog 28 #[.int .i64 n] w fun e w' => e = .returned (.int .i64 (if n < 1 then 0 else 2 * (n - 1))) ∧ w = w' := by
  by_cases h1 : n < 1
  · rw [if_pos h1]
    go_enter Tryd.func28, Tryd.ntmps28
    go_wp2
    go_ret
    exact ⟨rfl, rfl⟩
  · rw [if_neg h1]
    have he := Lib.hid (show n + n - 2 = 2 * (n - 1) by omega)
    go_enter Tryd.func28, Tryd.ntmps28
    go_wp2
    go_ret
    exact ⟨ret_int he.out, rfl⟩
theorem pC_set (T : List Pt) : ∀ (k : Nat) (h : k < T.length) (x : Int), (pC T).set (k * 2) (.int .i64 x) = pC (T.set k (x, T[k].2)) := by
  induction T with
  | nil => intro k h; simp at h
  | cons p T ih =>
    intro k h x
    have e : pC (p :: T) = .int .i64 p.1 :: .int .i64 p.2 :: pC T := rfl
    cases k with
    | zero => rfl
    | succ k =>
      rw [e, show (k + 1) * 2 = k * 2 + 1 + 1 by omega, List.set_cons_succ, List.set_cons_succ, ih k (by simpa using h) x]; rfl

set_option maxHeartbeats 4000000 in
set_option maxRecDepth 100000 in
theorem matchTells_walk (a b : List Pt) (n : Int) (A B : Option Addr) (ca cb : Nat) (w : World) (hL : Laid w) (ha : Rd w w.heap.size 2 A a.length (pC a)) (hb : Rd w w.heap.size 2 B b.length (pC b)) (hca : a.length ≤ 9223372036854775807) (hcb : b.length ≤ 9223372036854775807) :
    Calls Tryd.prog 5 #[.slice A a.length ca, .slice B b.length cb, .int .i64 n] w fun e w' => e = .returned (.bool true) ∧ Below w.heap.size w w' := by
  have HL := Lib.hid hL
  have h0 := hL.lt
  clear hL
  by_cases h1 : 50 < a.length
  · go_enter Tryd.func5, Tryd.ntmps5
    go_wp2_with fail
    refine (awake_any _ HL.out).mono ?_
    rintro e w1 ⟨rfl, hb1⟩
    go_wp2
    go_ret
    exact ⟨rfl, hb1⟩
  by_cases h2 : 50 < b.length
  · go_enter Tryd.func5, Tryd.ntmps5
    go_wp2_with fail
    refine (awake_any _ HL.out).mono ?_
    rintro e w1 ⟨rfl, hb1⟩
    go_wp2
    go_ret
    exact ⟨rfl, hb1⟩
  have hna : a.length ≤ 50 := by omega
  have hnb : b.length ≤ 50 := by omega
  clear h1 h2 hca hcb
  go_enter Tryd.func5, Tryd.ntmps5
  go_wp2_with fail
  refine (theirs_any a A ca w ha (by omega)).mono ?_
  rintro e w1 ⟨vx, rfl, hx, hb1⟩
  obtain ⟨X, cx, rfl⟩ := own_form hx
  have hB1 := hb1
  have s1 := hb1.size
  go_wp2_with fail
  refine (theirs_any b B cb w1 (hb.go hb1) (by omega)).mono ?_
  rintro e w2 ⟨vy, rfl, hy, hb2⟩
  obtain ⟨Y, cy, rfl⟩ := own_form hy
  have ha2 := Lib.hid ((ha.go hb1).go hb2)
  have hbb2 := Lib.hid ((hb.go hb1).go hb2)
  have hx2 := Lib.hid ((Rd.of_own hx).go hb2)
  have hy2 := Lib.hid (Rd.of_own hy)
  have hB2 := hB1.trans (hb2.mono s1)
  have HL2 := Lib.hid (HL.out.below hB2 h0)
  clear hx hy ha hb hb1 hb2 hB1 s1
  go_wp2_with fail
  refine (compare_any a b A B ca cb w2 HL2.out ha2.out hbb2.out (by omega) (by omega)).mono ?_
  rintro e w3 ⟨rfl, hb3⟩
  obtain ⟨⟨f1, f2⟩, hf⟩ : ∃ f, cmpV a b = f := ⟨_, rfl⟩
  obtain ⟨er, her⟩ : ∃ er, cmpE a b = er := ⟨_, rfl⟩
  have Hf := Lib.hid hf
  have Her := Lib.hid her
  rw [hf, her, show fV (f1, f2) = .agg #[.int .i64 f1, .int .i64 f2] from rfl]
  clear hf her
  have hbA : Below w2.heap.size w2 (w3.alloc (.cells #[.int .i64 f1, .int .i64 f2] 46)) := hb3.alloc hb3.size _
  have hk1 := Lib.hid (blk_new (w := w3) (.cells #[.int .i64 f1, .int .i64 f2] 46) rfl)
  go_wp2_with fail
  refine (compareR_any a b X Y cx cy _ (hx2.out.go hbA) (hy2.out.go hbA) (by omega) (by omega)).mono ?_
  rintro e w4 ⟨rfl, hb4⟩
  rw [Hf.out, Her.out, show fV (f1, f2) = .agg #[.int .i64 f1, .int .i64 f2] from rfl]
  have hB4 : Below w2.heap.size w2 w4 := hbA.trans (hb4.mono hbA.size)
  have s4 : w3.heap.size + 1 ≤ w4.heap.size := by have := hb4.size; simp at this; omega
  have hk4 := Lib.hid (blk_below hk1.out hb4 (by simp))
  have hbB : Below w2.heap.size w2 (w4.alloc (.cells #[.int .i64 f1, .int .i64 f2] 46)) := hB4.alloc hB4.size _
  obtain ⟨wt, hwt⟩ : ∃ wt : World, w4.alloc (.cells #[.int .i64 f1, .int .i64 f2] 46) = wt := ⟨_, rfl⟩
  have hj1 := Lib.hid (show wt.heap[w3.heap.size]? = some (.cells #[.int .i64 f1, .int .i64 f2] 46) by rw [← hwt]; exact blk_alloc hk4.out _)
  have hj2 := Lib.hid (show wt.heap[w4.heap.size]? = some (.cells #[.int .i64 f1, .int .i64 f2] 46) by rw [← hwt]; exact blk_new _ rfl)
  rw [hwt] at hbB
  have st : w4.heap.size + 1 = wt.heap.size := by rw [← hwt]; simp
  have Hst := Lib.hid st
  have hat := Lib.hid (ha2.out.go hbB)
  have hbt := Lib.hid (hbb2.out.go hbB)
  have hxt := Lib.hid (hx2.out.go hbB)
  have hyt := Lib.hid (hy2.out.go hbB)
  have hBt := hB2.trans (hbB.mono hB2.size)
  have sBt := hBt.size
  have HLt := Lib.hid (HL2.out.below hbB HL2.out.lt)
  clear hbA hb4 hB4 hbB hB2 ha2 hbb2 hx2 hy2 HL2 hk1 hk4 hb3 st HL
  go_wp2_with fail
  clear hwt
  by_cases hr : rightM a = true
  · have HR := Lib.hid hr
    have hri := (rightM_iff a).1 hr
    have HO := Lib.hid hri.2.2.1
    have hn1 : 1 ≤ a.length := hri.1
    clear hr hri
    refine (turn_any a A ca wt hat.out HR.out).mono ?_
    rintro e w5 ⟨vt, rfl, hot, hb5⟩
    obtain ⟨gt, ct, rfl⟩ := own_at' hot (by omega)
    have s5 := hb5.size
    go_wp2_with fail
    refine (turnR_any a X cx w5 (hxt.out.go hb5) HR.out).mono ?_
    rintro e w6 ⟨vu, rfl, hou, hb6'⟩
    obtain ⟨U, cu, rfl⟩ := own_form hou
    have hb6 := hb5.trans (hb6'.mono s5)
    have hot6 := own_below hot hb6' (Nat.le_refl _)
    have hlen : (negP a).length = a.length := by simp [negP]
    have hlenH := Lib.hid hlen
    have hru := Lib.hid (show Rd w6 w6.heap.size 2 U (negP a).length (pC (negP a)) by rw [hlen]; exact Rd.of_own hou)
    have hrt := Lib.hid (show Rd w6 w6.heap.size 2 (some ⟨gt, 0, none⟩) (negP a).length (pC (negP a)) by rw [hlen]; exact Rd.of_own hot6)
    have hot6H := Lib.hid hot6
    clear hot hou hb6' hot6 hb5 s5 hlen
    go_wp2_with fail
    refine (one_any n _).mono ?_
    rintro e _ ⟨rfl, rfl⟩
    have hb7 : Below wt.heap.size wt (w6.alloc (.cells #[.int .i64 n, .int .i64 100] 44)) := hb6.alloc hb6.size _
    have hone := Lib.hid (blk_new (w := w6) (.cells #[.int .i64 n, .int .i64 100] 44) rfl)
    have s6 := hb6.size
    have hst := Hst.out
    have p0 := (hb7.cell (p := ⟨w3.heap.size, 0, none⟩) (by show w3.heap.size < _; omega)).trans (blk_cell hj1.out 0)
    have p1 := (hb7.cell (p := ⟨w3.heap.size, 1, none⟩) (by show w3.heap.size < _; omega)).trans (blk_cell hj1.out 1)
    have p2 := (hb7.cell (p := ⟨w4.heap.size, 0, none⟩) (by show w4.heap.size < _; omega)).trans (blk_cell hj2.out 0)
    have p3 := (hb7.cell (p := ⟨w4.heap.size, 1, none⟩) (by show w4.heap.size < _; omega)).trans (blk_cell hj2.out 1)
    clear hst
    go_wp2_with fail
    refine (kept_eq (negP a) _ _ hlenH.out.symm hlenH.out.symm (some ⟨gt, 0, none⟩) U ct cu _ (hrt.out.go ((Below.refl _ _).alloc (Nat.le_refl _) _)) (hru.out.go ((Below.refl _ _).alloc (Nat.le_refl _) _)) (by rw [hlenH.out]; omega)).mono ?_
    rintro e _ ⟨rfl, nq, rfl⟩
    clear p0 p1 p2 p3
    have hb8 := hb7.trans ((below_drewN (Below.refl (w6.alloc (.cells #[.int .i64 n, .int .i64 100] 44)).heap.size (w6.alloc (.cells #[.int .i64 n, .int .i64 100] 44))) nq).mono hb7.size)
    have hone8 := Lib.hid (show ((w6.alloc (.cells #[.int .i64 n, .int .i64 100] 44)).drewN nq).heap[w6.heap.size]? = _ from hone.out)
    have sz8 : ((w6.alloc (.cells #[.int .i64 n, .int .i64 100] 44)).drewN nq).heap.size = w6.heap.size + 1 := by simp
    have H8 := Lib.hid (below_drewN (Below.refl (w6.alloc (.cells #[.int .i64 n, .int .i64 100] 44)).heap.size (w6.alloc (.cells #[.int .i64 n, .int .i64 100] 44))) nq)
    generalize (w6.alloc (.cells #[.int .i64 n, .int .i64 100] 44)).drewN nq = w8 at *
    go_wp2_with fail
    refine (rightM_any a A ca w8 (hat.out.go hb8) (by omega)).mono ?_
    rintro e w9 ⟨rfl, hb9⟩
    rw [HR.out]
    have hB9 := hb8.trans (hb9.mono hb8.size)
    have hone9 := blk_below hone8.out hb9 (by omega)
    go_wp2_with fail
    refine (rightR_any a X cx w9 (hxt.out.go hB9) (by omega)).mono ?_
    rintro e w9 ⟨rfl, rfl⟩
    rw [HR.out]
    have o0 := blk_cell hone9 0
    have o1 := blk_cell hone9 1
    have s69 := hb9.size
    have hb68 : Below w6.heap.size w6 w9 := (((Below.refl _ _).alloc (Nat.le_refl _) _ : Below w6.heap.size w6 (w6.alloc (.cells #[.int .i64 n, .int .i64 100] 44)))).trans ((H8.out.trans (hb9.mono H8.out.size)).mono (by simp))
    have hot9 := Lib.hid (own_below hot6H.out hb68 (Nat.le_refl _))
    have s9 := hB9.size
    clear hb8 hb9 hb68 hone8 hone9 hb7 hb6 hone
    go_wp2_with fail
    go_loopw [97] (fun i wr => ∃ (k : Nat) (T : List Pt) (xs : List Value), k ≤ a.length ∧ i = .int .i64 (k : Int) ∧ Hid (T.length = a.length) ∧ Hid (∀ p ∈ T, -10000 ≤ p.1 ∧ p.1 ≤ 10000 + (k : Int)) ∧ Hid (xs = pC T) ∧ wr.ownsRow wt.heap.size 44 2 (.slice (some ⟨gt, 0, none⟩) a.length ct) a.length xs ∧ Below wt.heap.size wt wr) (fun i _ => a.length - (intOf i).toNat)
    case atStart => exact ⟨0, negP a, pC (negP a), by omega, rfl, hlenH.out, fun p hp => by
      unfold negP at hp
      obtain ⟨q, hq, rfl⟩ := List.mem_map.1 hp
      have := (okPt_iff q).1 (HO.out q hq)
      show -10000 ≤ -q.1 ∧ -q.1 ≤ 10000 + ((0 : Nat) : Int); omega, rfl, hot9.out, hB9⟩
    case round =>
      obtain ⟨k, T, xs, hk, rfl, hT, hTb, hxs, hown, hbr⟩ := hrel
      have hsr := hbr.size
      by_cases hlt : k < a.length
      · have hkT : k < T.length := by rw [hT.out]; exact hlt
        have hx0 : wr.cell? ⟨gt, k * 2, none⟩ = some (.int .i64 T[k].1) := by rw [hown.cellAt (k * 2) (by omega), hxs.out]; exact (pC_get T k hkT).1
        have hfr := hown.frozenAt (k * 2)
        have hbx := hTb.out _ (List.getElem_mem hkT)
        have hgl := hown.lt gt rfl
        obtain ⟨hs1, hs2⟩ := hown.stored (k * 2) (.int .i64 (T[k].1 + 1))
        have HS1 := Lib.hid hs1
        have HB := Lib.hid (hbr.grown hs2 hsr (fun g hg => by cases hg; exact hgl.1))
        have HX := Lib.hid (show xs.set (k * 2) (.int .i64 (T[k].1 + 1)) = pC (T.set k (T[k].1 + 1, T[k].2)) by rw [hxs.out, pC_set T k hkT])
        have HTl := Lib.hid (show (T.set k (T[k].1 + 1, T[k].2)).length = a.length by rw [List.length_set]; exact hT.out)
        have HTb := Lib.hid (show ∀ p ∈ T.set k (T[k].1 + 1, T[k].2), -10000 ≤ p.1 ∧ p.1 ≤ 10000 + ((k + 1 : Nat) : Int) from fun p hp => by
          rcases List.mem_or_eq_of_mem_set hp with hp | rfl
          · have := hTb.out p hp; omega
          · show -10000 ≤ T[k].1 + 1 ∧ T[k].1 + 1 ≤ 10000 + ((k + 1 : Nat) : Int); omega)
        generalize T.set k (T[k].1 + 1, T[k].2) = T' at HX HTl HTb
        clear hs1 hs2
        generalize T[k].1 = x at hx0 hbx HX HS1 HB
        go_wp2
        go_roundw
        case rel => exact ⟨k + 1, T', _, by omega, by go_num, HTl, HTb, HX, HS1.out, HB.out⟩
        case measure => simp [intOf]; omega
      · have t0 : decide ((k : Int) < (a.length : Int)) = false := decide_eq_false (by omega)
        have hBE := hbr
        clear hown hxs hT hTb
        by_cases hn : n < 1073741824 ∧ -1073741824 < n
        · obtain ⟨hn1, hn2⟩ := hn
          have d1 : decide (n < 1073741824) = true := decide_eq_true hn1
          have d2 : decide (-1073741824 < n) = true := decide_eq_true hn2
          obtain ⟨sv, hsv⟩ : ∃ sv : Int, (if n < 1 then 0 else n * (n - 1)) = sv := ⟨_, rfl⟩
          obtain ⟨tv, htv⟩ : ∃ tv : Int, (if n < 1 then 0 else 2 * (n - 1)) = tv := ⟨_, rfl⟩
          have Hsv := Lib.hid hsv
          have Htv := Lib.hid htv
          clear hsv htv
          go_wp2_with fail
          refine (sumN_any n _ (by omega)).mono ?_
          rintro e _ ⟨rfl, rfl⟩
          rw [Hsv.out]
          go_wp2_with fail
          refine (sumRN_any n _ (by omega)).mono ?_
          rintro e _ ⟨rfl, rfl⟩
          rw [Hsv.out]
          go_wp2_with fail
          refine (topN_any n _ (by omega)).mono ?_
          rintro e _ ⟨rfl, rfl⟩
          rw [Htv.out]
          go_wp2_with fail
          refine (topRN_any n _ (by omega)).mono ?_
          rintro e _ ⟨rfl, rfl⟩
          rw [Htv.out]
          go_wp2_with fail
          refine (kept_eq a _ _ rfl rfl A X ca cx _ (hat.out.go hBE) (hxt.out.go hBE) (by omega)).mono ?_
          rintro e _ ⟨rfl, nq1, rfl⟩
          have hb1 := hBE.trans ((below_drewN (Below.refl wr.heap.size wr) nq1).mono hBE.size)
          generalize wr.drewN nq1 = v1 at *
          go_wp2_with fail
          refine (kept_eq b _ _ rfl rfl B Y cb cy v1 (hbt.out.go hb1) (hyt.out.go hb1) (by omega)).mono ?_
          rintro e _ ⟨rfl, nq2, rfl⟩
          have hb2 := hb1.trans ((below_drewN (Below.refl v1.heap.size v1) nq2).mono hb1.size)
          generalize v1.drewN nq2 = v2 at *
          go_wp2_with fail
          refine (awake_any v2 (HLt.out.below hb2 HLt.out.lt)).mono ?_
          rintro e v3 ⟨rfl, hb3⟩
          go_wp2
          go_ret
          exact ⟨rfl, (hBt.trans (hb2.mono sBt)).trans (hb3.mono (by have := hb2.size; omega))⟩
        · by_cases hn1 : n < 1073741824
          all_goals
            first
              | (have d1 : decide (n < 1073741824) = true := decide_eq_true hn1
                 have d2 : decide (-1073741824 < n) = false := decide_eq_false (by omega)
                 clear hn)
              | (have d1 : decide (n < 1073741824) = false := decide_eq_false hn1
                 clear hn)
            go_wp2_with fail
            refine (kept_eq a _ _ rfl rfl A X ca cx _ (hat.out.go hBE) (hxt.out.go hBE) (by omega)).mono ?_
            rintro e _ ⟨rfl, nq1, rfl⟩
            have hb1 := hBE.trans ((below_drewN (Below.refl wr.heap.size wr) nq1).mono hBE.size)
            generalize wr.drewN nq1 = v1 at *
            go_wp2_with fail
            refine (kept_eq b _ _ rfl rfl B Y cb cy v1 (hbt.out.go hb1) (hyt.out.go hb1) (by omega)).mono ?_
            rintro e _ ⟨rfl, nq2, rfl⟩
            have hb2 := hb1.trans ((below_drewN (Below.refl v1.heap.size v1) nq2).mono hb1.size)
            generalize v1.drewN nq2 = v2 at *
            go_wp2_with fail
            refine (awake_any v2 (HLt.out.below hb2 HLt.out.lt)).mono ?_
            rintro e v3 ⟨rfl, hb3⟩
            go_wp2
            go_ret
            exact ⟨rfl, (hBt.trans (hb2.mono sBt)).trans (hb3.mono (by have := hb2.size; omega))⟩
  · have hr' : rightM a = false := by simpa using hr
    have HR := Lib.hid hr'
    clear hr hr'
    refine (turn_bad a A ca wt hat.out (by omega) HR.out).mono ?_
    rintro e w5 ⟨rfl, hb5⟩
    have s5 := hb5.size
    go_wp2_with fail
    refine (turnR_bad a X cx w5 (hxt.out.go hb5) (by omega) HR.out).mono ?_
    rintro e w6 ⟨rfl, rfl⟩
    have hb6 := hb5
    clear hb5 s5
    go_wp2_with fail
    refine (one_any n _).mono ?_
    rintro e _ ⟨rfl, rfl⟩
    have hb7 : Below wt.heap.size wt (w6.alloc (.cells #[.int .i64 n, .int .i64 100] 44)) := hb6.alloc hb6.size _
    have hone := Lib.hid (blk_new (w := w6) (.cells #[.int .i64 n, .int .i64 100] 44) rfl)
    have s6 := hb6.size
    have hst := Hst.out
    have p0 := (hb7.cell (p := ⟨w3.heap.size, 0, none⟩) (by show w3.heap.size < _; omega)).trans (blk_cell hj1.out 0)
    have p1 := (hb7.cell (p := ⟨w3.heap.size, 1, none⟩) (by show w3.heap.size < _; omega)).trans (blk_cell hj1.out 1)
    have p2 := (hb7.cell (p := ⟨w4.heap.size, 0, none⟩) (by show w4.heap.size < _; omega)).trans (blk_cell hj2.out 0)
    have p3 := (hb7.cell (p := ⟨w4.heap.size, 1, none⟩) (by show w4.heap.size < _; omega)).trans (blk_cell hj2.out 1)
    clear hst
    go_wp2_with fail
    refine (kept_eq [] 0 0 rfl rfl none none 0 0 _ Rd.nil_ Rd.nil_ (by decide)).mono ?_
    rintro e _ ⟨rfl, nq, rfl⟩
    clear p0 p1 p2 p3
    have hb8 := hb7.trans ((below_drewN (Below.refl (w6.alloc (.cells #[.int .i64 n, .int .i64 100] 44)).heap.size (w6.alloc (.cells #[.int .i64 n, .int .i64 100] 44))) nq).mono hb7.size)
    have hone8 := Lib.hid (show ((w6.alloc (.cells #[.int .i64 n, .int .i64 100] 44)).drewN nq).heap[w6.heap.size]? = _ from hone.out)
    have sz8 : ((w6.alloc (.cells #[.int .i64 n, .int .i64 100] 44)).drewN nq).heap.size = w6.heap.size + 1 := by simp
    generalize (w6.alloc (.cells #[.int .i64 n, .int .i64 100] 44)).drewN nq = w8 at *
    go_wp2_with fail
    refine (rightM_any a A ca w8 (hat.out.go hb8) (by omega)).mono ?_
    rintro e w9 ⟨rfl, hb9⟩
    rw [HR.out]
    have hB9 := hb8.trans (hb9.mono hb8.size)
    have hone9 := blk_below hone8.out hb9 (by omega)
    go_wp2_with fail
    refine (rightR_any a X cx w9 (hxt.out.go hB9) (by omega)).mono ?_
    rintro e w9 ⟨rfl, rfl⟩
    rw [HR.out]
    have o0 := blk_cell hone9 0
    have o1 := blk_cell hone9 1
    have s69 := hb9.size
    have hBE := hB9
    clear hb8 hb9 hone8 hone9 hb7 hb6 hone
    go_wp2_with fail
    go_loop [97] (fun i => i = .int .i64 0) (fun _ => 0)
    case atStart => rfl
    case round =>
      subst hrel
      by_cases hn : n < 1073741824 ∧ -1073741824 < n
      · obtain ⟨hn1, hn2⟩ := hn
        have d1 : decide (n < 1073741824) = true := decide_eq_true hn1
        have d2 : decide (-1073741824 < n) = true := decide_eq_true hn2
        obtain ⟨sv, hsv⟩ : ∃ sv : Int, (if n < 1 then 0 else n * (n - 1)) = sv := ⟨_, rfl⟩
        obtain ⟨tv, htv⟩ : ∃ tv : Int, (if n < 1 then 0 else 2 * (n - 1)) = tv := ⟨_, rfl⟩
        have Hsv := Lib.hid hsv
        have Htv := Lib.hid htv
        clear hsv htv
        go_wp2_with fail
        refine (sumN_any n _ (by omega)).mono ?_
        rintro e _ ⟨rfl, rfl⟩
        rw [Hsv.out]
        go_wp2_with fail
        refine (sumRN_any n _ (by omega)).mono ?_
        rintro e _ ⟨rfl, rfl⟩
        rw [Hsv.out]
        go_wp2_with fail
        refine (topN_any n _ (by omega)).mono ?_
        rintro e _ ⟨rfl, rfl⟩
        rw [Htv.out]
        go_wp2_with fail
        refine (topRN_any n _ (by omega)).mono ?_
        rintro e _ ⟨rfl, rfl⟩
        rw [Htv.out]
        go_wp2_with fail
        refine (kept_eq a _ _ rfl rfl A X ca cx _ (hat.out.go hBE) (hxt.out.go hBE) (by omega)).mono ?_
        rintro e _ ⟨rfl, nq1, rfl⟩
        have hb1 := hBE.trans ((below_drewN (Below.refl w9.heap.size w9) nq1).mono hBE.size)
        generalize w9.drewN nq1 = v1 at *
        go_wp2_with fail
        refine (kept_eq b _ _ rfl rfl B Y cb cy v1 (hbt.out.go hb1) (hyt.out.go hb1) (by omega)).mono ?_
        rintro e _ ⟨rfl, nq2, rfl⟩
        have hb2 := hb1.trans ((below_drewN (Below.refl v1.heap.size v1) nq2).mono hb1.size)
        generalize v1.drewN nq2 = v2 at *
        go_wp2_with fail
        refine (awake_any v2 (HLt.out.below hb2 HLt.out.lt)).mono ?_
        rintro e v3 ⟨rfl, hb3⟩
        go_wp2
        go_ret
        exact ⟨rfl, (hBt.trans (hb2.mono sBt)).trans (hb3.mono (by have := hb2.size; omega))⟩
      · by_cases hn1 : n < 1073741824
        all_goals
          first
            | (have d1 : decide (n < 1073741824) = true := decide_eq_true hn1
               have d2 : decide (-1073741824 < n) = false := decide_eq_false (by omega)
               clear hn)
            | (have d1 : decide (n < 1073741824) = false := decide_eq_false hn1
               clear hn)
          go_wp2_with fail
          refine (kept_eq a _ _ rfl rfl A X ca cx _ (hat.out.go hBE) (hxt.out.go hBE) (by omega)).mono ?_
          rintro e _ ⟨rfl, nq1, rfl⟩
          have hb1 := hBE.trans ((below_drewN (Below.refl w9.heap.size w9) nq1).mono hBE.size)
          generalize w9.drewN nq1 = v1 at *
          go_wp2_with fail
          refine (kept_eq b _ _ rfl rfl B Y cb cy v1 (hbt.out.go hb1) (hyt.out.go hb1) (by omega)).mono ?_
          rintro e _ ⟨rfl, nq2, rfl⟩
          have hb2 := hb1.trans ((below_drewN (Below.refl v1.heap.size v1) nq2).mono hb1.size)
          generalize v1.drewN nq2 = v2 at *
          go_wp2_with fail
          refine (awake_any v2 (HLt.out.below hb2 HLt.out.lt)).mono ?_
          rintro e v3 ⟨rfl, hb3⟩
          go_wp2
          go_ret
          exact ⟨rfl, (hBt.trans (hb2.mono sBt)).trans (hb3.mono (by have := hb2.size; omega))⟩

end Go.Proofs.YteemknjnlocgpaaDoor
