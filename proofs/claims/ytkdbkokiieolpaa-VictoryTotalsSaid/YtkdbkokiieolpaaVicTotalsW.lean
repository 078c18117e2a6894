/- The walk of the statement VictoryTotals. -/
import Derived.Test.YtkdbkokiieolpaaVicScale
import Derived.Test.YtkdbkokiieolpaaVicLaw2
namespace Go.Proofs.Ytkdbkokiieolpaa
open Go.RowKit

def I16s (l : List Int) : Prop := ∀ x ∈ l, -32768 ≤ x ∧ x ≤ 32767
def i16C (l : List Int) : List Value := l.map (Value.int .i16)
theorem rd_i16 {w : World} {B : Nat} {A : Option Addr} {l : List Int} (h : Rd w B 1 A l.length (i16C l)) (k : Nat) (hk : k < l.length) :
    ∃ b off, A = some ⟨b, off, none⟩ ∧ b < B ∧ w.cell? ⟨b, off + k, none⟩ = some (.int .i16 l[k]) := by
  obtain ⟨b, off, e, hb, hc⟩ := h.pos (by omega)
  exact ⟨b, off, e, hb, by rw [hc k (by simpa [i16C] using hk)]; simp [i16C, List.getElem?_map, List.getElem?_eq_getElem hk]⟩
theorem iC_app' (a b : List Int) : iC (a ++ b) = iC a ++ iC b := by simp [iC]
theorem tot_ok (s l : List Int) (hr : rightS s = true) (h : ∀ x ∈ l, -1000000 ≤ x ∧ x ≤ 1000000) : totA s l = (l.map (ptsA s)).sum ∧ totB s l = (l.map (ptsB s)).sum ∧ totE s l = 0 := by
  have hT : okT s l = true := okT_of s l hr fun j hj _ => okM_true s _ hr (h _ (List.getElem_mem hj))
  unfold totA totB totE sumA sumB
  rw [hT, List.take_length]; exact ⟨rfl, rfl, rfl⟩
theorem sum_two (s l : List Int) (hr : rightS s = true) (h : ∀ x ∈ l, -1000000 ≤ x ∧ x ≤ 1000000) : (l.map (ptsA s)).sum + (l.map (ptsB s)).sum = 2 * s.length * l.length := by
  induction l with
  | nil => simp
  | cons x l ih =>
    have := ih fun y hy => h y (by simp [hy])
    have hx := h x (by simp)
    rw [List.map_cons, List.map_cons, List.sum_cons, List.sum_cons, ptsA_eq s x hr hx, ptsB_eq s x hr hx, List.length_cons]
    have e : 2 * (s.length : Int) * ((l.length + 1 : Nat) : Int) = 2 * s.length * l.length + 2 * s.length := by
      rw [Int.natCast_add, Int.mul_add]; simp
    omega
theorem sum_bd2 (s l : List Int) : 0 ≤ (l.map (ptsA s)).sum ∧ (l.map (ptsA s)).sum ≤ 100 * l.length ∧ 0 ≤ (l.map (ptsB s)).sum ∧ (l.map (ptsB s)).sum ≤ 100 * l.length := by
  have := sum_bd s l l.length (Nat.le_refl _)
  unfold sumA sumB at this
  rw [List.take_length] at this; exact this

set_option maxHeartbeats 2000000 in
set_option maxRecDepth 100000 in
theorem victoryTotals_walk (l a b : List Int) (A0 A1 A2 : Option Addr) (c0 c1 c2 : Nat) (w : World)
    (hl : Rd w w.heap.size 1 A0 l.length (u8C l)) (hu : U8s l) (hc : l.length ≤ c0) (hm : c0 ≤ 9223372036854775807)
    (hl1 : Rd w w.heap.size 1 A1 a.length (i16C a)) (hu1 : I16s a) (hc1 : a.length ≤ c1) (hm1 : c1 ≤ 9223372036854775807)
    (hl2 : Rd w w.heap.size 1 A2 b.length (i16C b)) (hu2 : I16s b) (hc2 : b.length ≤ c2) (hm2 : c2 ≤ 9223372036854775807) :
    Calls Try.prog 8 #[.slice A0 l.length c0, .slice A1 a.length c1, .slice A2 b.length c2] w fun e w' => e = .returned (.bool true) ∧ Below w.heap.size w w' := by
  have hr := scale_right l hu
  obtain ⟨i0, hi, hz0, hz1, hz2⟩ := info_parts info_int
  obtain ⟨N1, hN1⟩ : ∃ N : Nat, N = min 30 a.length := ⟨_, rfl⟩
  obtain ⟨N2, hN2⟩ : ∃ N : Nat, N = min 30 b.length := ⟨_, rfl⟩
  have g1 : N1 ≤ 30 ∧ N1 ≤ a.length := by omega
  have g2 : N2 ≤ 30 ∧ N2 ≤ b.length := by omega
  have if1 : (if (30 : Int) < (a.length : Int) then 30 else (a.length : Int)) = (N1 : Int) := by split <;> omega
  have if2 : (if (30 : Int) < (b.length : Int) then 30 else (b.length : Int)) = (N2 : Int) := by split <;> omega
  have e1 : (N1 : Int) ≤ (c1 : Int) := by omega
  have e2 : (N2 : Int) ≤ (c2 : Int) := by omega
  have e3 : (0 : Int) ≤ (N1 : Int) := by omega
  have e4 : (0 : Int) ≤ (N2 : Int) := by omega
  have Hl1 := Lib.hid hl1
  have Hl2 := Lib.hid hl2
  have Hu1 := Lib.hid hu1
  have Hu2 := Lib.hid hu2
  clear hN1 hN2 hl1 hl2 hu1 hu2
  go_enter Try.func8, Try.ntmps8
  go_wp2_with fail
  refine (scale_any l A0 c0 w hl hu hc hm).mono ?_
  rintro e w1 ⟨v, rfl, hown, hb1⟩
  obtain ⟨B, d, rfl⟩ := own_form hown
  have Hrd := Lib.hid (Rd.of_own hown)
  have s1 := hb1.size
  clear hown hl hu hc hm
  generalize scaleOf l = s at *
  have h50 : s.length ≤ 50 := ((rightS_iff s).1 hr).2.1
  have Hr := Lib.hid hr
  clear hr
  go_wp2_with fail
  go_loopw [8, 32] (fun v i wr => ∃ (k : Nat) (xs : List Value), k ≤ N1 ∧ i = .int .i64 (k : Int) ∧ Hid (xs = iC (a.take k)) ∧ wr.ownsRow w1.heap.size 3 1 v k xs ∧ Below w1.heap.size w1 wr) (fun _ i _ => N1 - (intOf i).toNat)
  case atStart => exact ⟨0, [], by omega, rfl, rfl, own_nil, Below.refl _ _⟩
  case round =>
    obtain ⟨k, xs, hk, rfl, hxs, hown, hbel⟩ := hrel
    have hsr := hbel.size
    by_cases hlt : k < N1
    · obtain ⟨g, off, rfl, hgw, hcc⟩ := rd_i16 Hl1.out k (by omega)
      have hd := (bcell (hb1.trans (hbel.mono s1)) g (off + k) hgw).trans hcc
      have hx := Hu1.out (a[k]'(by omega)) (List.getElem_mem (by omega))
      have Hs := Lib.hid (show a.take (k + 1) = a.take k ++ [a[k]'(by omega)] from List.take_succ_eq_append_getElem (by omega))
      clear hcc
      generalize (a[k]'(by omega)) = x at hd hx Hs
      go_wp2_with (at_builtin; refine wpList_append_own _ rfl _ _ 24 rfl w1.heap.size 3 i0 (.int .i64 0) 1 8 Try.underlying24 hi hz0 hz1 hz2 rfl (by decide) _ _ _ rfl (hown.alloc _) _ 1 1 [.int .i64 x] rfl rfl ?c1 ?c2 ?c3 ?c4 ?c5 ?_)
      case c1 => exact cell_one_at _ _ _ _ (by simp)
      case c2 => simp [Value.oneCell']
      case c3 => unfold maxLen; omega
      case c4 => omega
      case c5 => simp; omega
      intro v' w2 hown1 hgrow _
      go_wp2
      go_roundw
      case rel =>
        refine ⟨k + 1, _, by omega, by go_num, ?_, hown1, (hbel.alloc hsr _).grown hgrow (by simp; omega) (fun g hg => (hown.lt g hg).1)⟩
        show _ = iC (a.take (k + 1)); rw [Hs.out, hxs.out]; unfold iC; rw [List.map_append]; rfl
      case measure => simp [intOf]; omega
    · have hkN : k = N1 := by omega
      have HX := Lib.hid (show xs = iC (a.take N1) by rw [hxs.out, hkN])
      have hB := hb1.trans (hbel.mono s1)
      have t1 : decide ((k : Int) < (N1 : Int)) = false := decide_eq_false (by omega)
      obtain ⟨w2, rfl⟩ : ∃ w2 : World, w2 = wr := ⟨_, rfl⟩
      have hkN2 : k ≤ N1 := by omega
      have HkN := Lib.hid hkN
      have hownx := hown
      clear hkN hxs hown hb1
      go_wp2_with fail
      go_loopw [9, 48] (fun v i wr => ∃ (j : Nat) (ys : List Value), j ≤ N2 ∧ i = .int .i64 (j : Int) ∧ Hid (ys = iC (b.take j)) ∧ wr.ownsRow w2.heap.size 3 1 v j ys ∧ Below w2.heap.size w2 wr) (fun _ i _ => N2 - (intOf i).toNat)
      case atStart => exact ⟨0, [], by omega, rfl, rfl, own_nil, Below.refl _ _⟩
      case round =>
        obtain ⟨j, ys, hj, rfl, hys, hown, hbel2⟩ := hrel
        have hsr2 := hbel2.size
        by_cases hlt2 : j < N2
        · obtain ⟨g, off, rfl, hgw, hcc⟩ := rd_i16 Hl2.out j (by omega)
          have hd := (bcell (hB.trans (hbel2.mono hB.size)) g (off + j) hgw).trans hcc
          have hx := Hu2.out (b[j]'(by omega)) (List.getElem_mem (by omega))
          have Hs := Lib.hid (show b.take (j + 1) = b.take j ++ [b[j]'(by omega)] from List.take_succ_eq_append_getElem (by omega))
          clear hcc
          generalize (b[j]'(by omega)) = x at hd hx Hs
          go_wp2_with (at_builtin; refine wpList_append_own _ rfl _ _ 24 rfl w2.heap.size 3 i0 (.int .i64 0) 1 8 Try.underlying24 hi hz0 hz1 hz2 rfl (by decide) _ _ _ rfl (hown.alloc _) _ 1 1 [.int .i64 x] rfl rfl ?d1 ?d2 ?d3 ?d4 ?d5 ?_)
          case d1 => exact cell_one_at _ _ _ _ (by simp)
          case d2 => simp [Value.oneCell']
          case d3 => unfold maxLen; omega
          case d4 => omega
          case d5 => simp; omega
          intro v' w3 hown1 hgrow _
          go_wp2
          go_roundw
          case rel =>
            refine ⟨j + 1, _, by omega, by go_num, ?_, hown1, (hbel2.alloc hsr2 _).grown hgrow (by simp; omega) (fun g hg => (hown.lt g hg).1)⟩
            show _ = iC (b.take (j + 1)); rw [Hs.out, hys.out]; unfold iC; rw [List.map_append]; rfl
          case measure => simp [intOf]; omega
        · obtain ⟨X, hX⟩ : ∃ X, a.take N1 = X := ⟨_, rfl⟩
          obtain ⟨Y, hY⟩ : ∃ Y, b.take N2 = Y := ⟨_, rfl⟩
          have hXl : X.length = k := by rw [← hX, List.length_take, HkN.out]; omega
          have hYl : Y.length = j := by rw [← hY, List.length_take]; omega
          have hXb : ∀ x ∈ X, -1000000 ≤ x ∧ x ≤ 1000000 := fun x hx => by rw [← hX] at hx; have := Hu1.out x (List.mem_of_mem_take hx); omega
          have hYb : ∀ x ∈ Y, -1000000 ≤ x ∧ x ≤ 1000000 := fun x hx => by rw [← hY] at hx; have := Hu2.out x (List.mem_of_mem_take hx); omega
          have hjN : j = N2 := by omega
          have hge : N2 ≤ j := by omega
          have hx0 := HX.out
          rw [hX] at hx0
          have hy0 := hys.out
          rw [hjN, hY] at hy0
          subst hx0
          subst hy0
          have hBW := hB.trans (hbel2.mono hB.size)
          obtain ⟨P1, k1, rfl⟩ := own_form hownx
          obtain ⟨P2, k2, rfl⟩ := own_form hown
          have srcX := Lib.hid (own_src hownx)
          have srcY := Lib.hid (own_src hown)
          have hrX : Rd wr wr.heap.size 1 P1 X.length (iC X) := by rw [hXl]; exact ((Rd.of_own hownx).below hbel2).more hsr2
          have hrY : Rd wr wr.heap.size 1 P2 Y.length (iC Y) := by rw [hYl]; exact Rd.of_own hown
          have hrs := Lib.hid ((Hrd.out.below (hbel.trans (hbel2.mono hsr))).more (show w1.heap.size ≤ wr.heap.size by omega))
          have HrX := Lib.hid hrX
          have HrY := Lib.hid hrY
          have L1 := Lib.hid (tot_ok s X Hr.out hXb)
          have L2 := Lib.hid (tot_ok s Y Hr.out hYb)
          have L3 := Lib.hid (show totA s (Y ++ X) = (X.map (ptsA s)).sum + (Y.map (ptsA s)).sum ∧ totB s (Y ++ X) = (X.map (ptsB s)).sum + (Y.map (ptsB s)).sum ∧ totE s (Y ++ X) = 0 by
            have h := tot_ok s (Y ++ X) Hr.out (fun x hx => (List.mem_append.1 hx).elim (hYb x) (hXb x))
            rw [List.map_append, List.map_append, List.sum_append, List.sum_append] at h
            exact ⟨by omega, by omega, h.2.2⟩)
          have S1 := sum_two s X Hr.out hXb
          have S2 := sum_two s Y Hr.out hYb
          have b1 := sum_bd2 s X
          have b2 := sum_bd2 s Y
          have hX30 : X.length ≤ 30 := by omega
          have hY30 : Y.length ≤ 30 := by omega
          have HXl := Lib.hid hXl
          have HYl := Lib.hid hYl
          obtain ⟨w3, rfl⟩ : ∃ w3 : World, w3 = wr := ⟨_, rfl⟩
          clear hX hY hXb hYb hjN hys hown hownx HX hrX hrY hXl hYl hbel hbel2 hB hj hlt2 hlt hk if1 if2
          go_wp2_with (at_builtin; refine wpList_append_src rfl _ _ 24 rfl w3.heap.size 3 i0 (.int .i64 0) 1 8 Try.underlying24 hi hz0 hz1 hz2 rfl (by decide) _ 0 [] rfl own_nil P2 Y.length k2 w3.heap.size (iC Y) (by rw [HYl.out]; rfl) HrY.out srcY.out ?x2 ?x3 ?x4 ?x5 ?_)
          case x2 => intro u hu; unfold iC at hu; obtain ⟨x, _, rfl⟩ := List.mem_map.1 hu; rfl
          case x3 => unfold maxLen; omega
          case x4 => omega
          case x5 => omega
          intro v4 w4 ho4 hg4 hat4
          have hb4 : Below w3.heap.size w3 w4 := (Below.refl _ _).grown hg4 (Nat.le_refl _) (fun g hg => by simp [Value.ownBlock] at hg)
          have s4 := hb4.size
          have hrX4 := Lib.hid ((HrX.out.below hb4).more s4)
          go_wp2_with (at_builtin; refine wpList_append_src rfl _ _ 24 rfl w3.heap.size 3 i0 (.int .i64 0) 1 8 Try.underlying24 hi hz0 hz1 hz2 rfl (by decide) _ _ _ rfl ho4 P1 X.length k1 w4.heap.size (iC X) (by rw [HXl.out]; rfl) hrX4.out srcX.out ?y2 ?y3 ?y4 ?y5 ?_)
          case y2 => intro u hu; unfold iC at hu; obtain ⟨x, _, rfl⟩ := List.mem_map.1 hu; rfl
          case y3 => unfold maxLen; omega
          case y4 => omega
          case y5 => omega
          intro v5 w5 ho5 hg5 hat5
          have hb5 : Below w3.heap.size w3 w5 := hb4.grown hg5 s4 (fun g hg => (ho4.lt g hg).1)
          have s5 := hb5.size
          obtain ⟨P5, k5, rfl⟩ := own_form ho5
          have hrYX : Rd w5 w5.heap.size 1 P5 (Y ++ X).length (iC (Y ++ X)) := by
            have h := Rd.of_own ho5
            rw [← iC_app'] at h
            rw [List.length_append]; exact h
          have HrYX := Lib.hid hrYX
          have hrX5 := Lib.hid ((HrX.out.below hb5).more s5)
          have hrY5 := Lib.hid ((HrY.out.below hb5).more s5)
          have hrs5 := Lib.hid ((hrs.out.below hb5).more s5)
          clear hrYX ho4 ho5 hg4 hg5 hat4 hat5 hb4 s4 hrX4
          have hBW5 := hBW.trans (hb5.mono hBW.size)
          clear hBW hb5
          go_wp2_with fail
          refine (HXl.out ▸ total_any s X _ P1 _ k1 w5 hrs5.out (by omega) hrX5.out (by omega)).mono ?_
          rintro e w6 ⟨rfl, hb6⟩
          rw [L1.out.1, L1.out.2.1, L1.out.2.2]
          have s6 := hb6.size
          go_wp2_with fail
          refine (HYl.out ▸ total_any s Y _ P2 _ k2 w6 ((hrs5.out.below hb6).more s6) (by omega) ((hrY5.out.below hb6).more s6) (by omega)).mono ?_
          rintro e w7 ⟨rfl, hb7⟩
          rw [L2.out.1, L2.out.2.1, L2.out.2.2]
          have hb67 := hb6.trans (hb7.mono s6)
          have s7 := hb67.size
          have hq : (2 * (s.length : Int)) * ((Y.length : Int) + (X.length : Int)) = 2 * (s.length : Int) * (Y.length : Int) + 2 * (s.length : Int) * (X.length : Int) := Int.mul_add _ _ _
          have hq2 : 0 ≤ (2 * (s.length : Int)) * ((Y.length : Int) + (X.length : Int)) ∧ (2 * (s.length : Int)) * ((Y.length : Int) + (X.length : Int)) ≤ 12000 := by omega
          generalize (X.map (ptsA s)).sum = pX at *
          generalize (X.map (ptsB s)).sum = qX at *
          generalize (Y.map (ptsA s)).sum = pY at *
          generalize (Y.map (ptsB s)).sum = qY at *
          have hq3 : (pX + pY + (qX + qY) == (2 * (s.length : Int)) * ((Y.length : Int) + (X.length : Int))) = true := beq_iff_eq.2 (by omega)
          have Hq := Lib.hid hq3
          clear hq S1 S2
          go_wp2_with fail
          refine (List.length_append ▸ total_any s (Y ++ X) _ P5 _ k5 w7 ((hrs5.out.below hb67).more s7) (by omega) ((HrYX.out.below hb67).more s7) (by rw [List.length_append]; omega)).mono ?_
          rintro e w8 ⟨rfl, hb8⟩
          rw [L3.out.1, L3.out.2.1, L3.out.2.2]
          have hb9 := hBW5.trans ((hb67.trans (hb8.mono s7)).mono hBW5.size)
          go_wp2_with fail
          refine (awake_any _).mono ?_
          rintro e w9 ⟨rfl, hb10⟩
          go_wp2
          go_ret
          exact ⟨rfl, hb9.trans (hb10.mono hb9.size)⟩

end Go.Proofs.Ytkdbkokiieolpaa
