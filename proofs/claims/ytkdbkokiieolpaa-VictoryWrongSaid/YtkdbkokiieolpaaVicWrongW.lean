/- The walk of the statement VictoryWrong. -/
import Derived.Test.YtkdbkokiieolpaaVicScale
import Derived.Test.YtkdbkokiieolpaaVicLaw2
import Derived.Deep.CutBlock
import Derived.Deep.DeepCutAuto
import Derived.Deep.DeepMust
namespace Go.Proofs.Ytkdbkokiieolpaa
open Go.RowKit

theorem up_append_iff (s : List Int) : ∀ (b x : Int), up b (s ++ [x]) = true → up b s = true ∧ (∀ y ∈ s, y < x) ∧ b < x ∧ x ≤ 1000000 := by
  induction s with
  | nil => intro b x h; simp [up] at h; exact ⟨rfl, by simp, h.1, h.2⟩
  | cons y r ih =>
    intro b x h
    rw [List.cons_append, up_cons] at h
    simp only [Bool.and_eq_true, decide_eq_true_eq] at h
    obtain ⟨h1, h2, h3, h4⟩ := ih y x h.2
    refine ⟨by rw [up_cons, decide_eq_true h.1.1, decide_eq_true h.1.2, h1]; rfl, fun z hz => ?_, by omega, h4⟩
    rcases List.mem_cons.1 hz with rfl | hz
    · exact h3
    · exact h2 z hz
theorem right_false (s : List Int) (h : ¬ up 0 s = true) : rightS s = false := by
  cases hr : rightS s with
  | false => rfl
  | true => exact absurd ((rightS_iff s).1 hr).2.2 h
/-- A list that does not increase, is empty, is too long, or has a limit that is not right. -/
theorem bad_twice (s : List Int) (x : Int) (h : x ∈ s) : rightS (s ++ [x]) = false := right_false _ fun hu => by have := (up_append_iff s 0 x hu).2.1 x h; omega
theorem iC_app' (a b : List Int) : iC (a ++ b) = iC a ++ iC b := by simp [iC]
theorem bad_nil : rightS [] = false := rfl
theorem bad_low (s : List Int) (x : Int) (h : x ≤ 0) (h0 : 0 < s.length) : rightS (s.set 0 x) = false := right_false _ fun hu => by
  have := up_bd _ 0 hu x (by rw [List.mem_iff_getElem]; exact ⟨0, by simpa using h0, by simp⟩)
  omega
theorem bad_high (s : List Int) (k : Nat) (x : Int) (h : 1000000 < x) (h0 : k < s.length) : rightS (s.set k x) = false := right_false _ fun hu => by
  have := up_bd _ 0 hu x (by rw [List.mem_iff_getElem]; exact ⟨k, by simpa using h0, by simp⟩)
  omega
theorem bad_long (s : List Int) (h : 50 < s.length) : rightS s = false := by unfold rightS; rw [decide_eq_false (show ¬ s.length ≤ 50 by omega)]; simp
/-- A row of the call's own with elements starts at the head of a block. -/
theorem own_at {w : World} {base n : Nat} {e sz : Nat} {v : Value} {xs : List Value} (h : w.ownsRow base e sz v n xs) (hn : 0 < n) : ∃ g c, v = .slice (some ⟨g, 0, none⟩) n c := by
  rcases h.2 with ⟨_, h0⟩ | ⟨g, cap, cur, rfl, _⟩
  · omega
  · exact ⟨g, cap, rfl⟩
/-- What the switch makes: a list that is no right scale. -/
def BadRow (base : Nat) (v : Value) (w : World) : Prop := ∃ l : List Int, w.ownsRow base 3 1 v l.length (iC l) ∧ rightS l = false ∧ l.length ≤ 100

set_option maxHeartbeats 4000000 in
set_option maxRecDepth 100000 in
theorem victoryWrong_walk (l : List Int) (how n : Int) (hh : 0 ≤ how ∧ how ≤ 255) (hn : -9223372036854775808 ≤ n ∧ n ≤ 9223372036854775807) (A0 : Option Addr) (c0 : Nat) (w : World)
    (hl : Rd w w.heap.size 1 A0 l.length (u8C l)) (hu : U8s l) (hc : l.length ≤ c0) (hm : c0 ≤ 9223372036854775807) :
    Calls Try.prog 9 #[.slice A0 l.length c0, .int .u8 how, .int .i64 n] w fun e w' => e = .returned (.bool true) ∧ Below w.heap.size w w' := by
  have hr := scale_right l hu
  obtain ⟨i0, hi, hz0, hz1, hz2⟩ := info_parts info_int
  go_enter Try.func9, Try.ntmps9
  go_wp2_with fail
  refine (scale_any l A0 c0 w hl hu hc hm).mono ?_
  rintro e w1 ⟨v, rfl, hown, hb1⟩
  obtain ⟨B, d, rfl⟩ := own_form hown
  have hsrc := Lib.hid (own_src hown)
  have Hrd := Lib.hid (Rd.of_own hown)
  have s1 := hb1.size
  clear hown hl hu hc hm
  generalize scaleOf l = s at *
  have h50 : 1 ≤ s.length ∧ s.length ≤ 50 := ⟨((rightS_iff s).1 hr).1, ((rightS_iff s).1 hr).2.1⟩
  have Hr := Lib.hid hr
  clear hr
  go_wp2_with (at_builtin; refine wpList_append_src rfl _ _ 24 rfl w1.heap.size 3 i0 (.int .i64 0) 1 8 Try.underlying24 hi hz0 hz1 hz2 rfl (by decide) _ 0 [] rfl (own_empty _ _ _ _ rfl) B s.length d _ (iC s) rfl (Hrd.out.alloc (Nat.le_refl _) _) hsrc.out ?x2 ?x3 ?x4 ?x5 ?_)
  case x2 => intro u hu; unfold iC at hu; obtain ⟨x, _, rfl⟩ := List.mem_map.1 hu; rfl
  case x3 => unfold maxLen; omega
  case x4 => omega
  case x5 => simp
  intro v2 w2 ho2 hg2 hat2
  have hb2 : Below w1.heap.size w1 w2 := ((Below.refl _ _).alloc (Nat.le_refl _) _).grown hg2 (by simp) (fun g hg => by simp [Value.ownBlock] at hg; omega)
  have s2 := hb2.size
  have ho2' : w2.ownsRow w1.heap.size 3 1 v2 s.length (iC s) := by simpa using ho2
  clear ho2 hg2 hat2
  obtain ⟨g2, d2, rfl⟩ := own_at ho2' (by omega)
  obtain ⟨k, hk⟩ : ∃ k : Nat, s.length = k + 1 := ⟨s.length - 1, by omega⟩
  have hcell : w2.cell? ⟨g2, k, none⟩ = some (.int .i64 (s[k]'(by omega))) := by
    rw [ho2'.cellAt k (by omega)]; simp [iC, List.getElem?_eq_getElem (show k < s.length by omega)]
  have hlast := right_pos s Hr.out (s[k]'(by omega)) (List.getElem_mem (by omega))
  have hmem : s[k]'(by omega) ∈ s := List.getElem_mem (by omega)
  have hfr := ho2'.frozenAt
  obtain ⟨x, hx⟩ : ∃ x, s[k]'(by omega) = x := ⟨_, rfl⟩
  rw [hx] at hcell hlast hmem
  have k1 : (s.length : Int) - 1 = (k : Int) := by omega
  have k2 : (0 : Int) ≤ (k : Int) := by omega
  have k3 : (k : Int) < (s.length : Int) := by omega
  have hks : k < s.length := by omega
  have Hm := Lib.hid hmem
  clear hx hk hmem
  go_upto_block 0 with fail
  go_cut [8] (fun v wx => BadRow w1.heap.size v wx ∧ Below w1.heap.size w1 wx)
  case first =>
    obtain h0 | h0 | h0 | h0 | h0 : how % 5 = 0 ∨ how % 5 = 1 ∨ how % 5 = 2 ∨ how % 5 = 3 ∨ how % 5 = 4 := by omega
    · have t0 : (how % 5 == 0) = true := beq_iff_eq.2 h0
      clear h0 hfr
      go_wp2_with (at_builtin; refine wpList_append_own _ rfl _ _ 24 rfl w1.heap.size 3 i0 (.int .i64 0) 1 8 Try.underlying24 hi hz0 hz1 hz2 rfl (by decide) _ _ _ rfl (ho2'.alloc _) _ 1 1 [.int .i64 x] rfl rfl ?c1 ?c2 ?c3 ?c4 ?c5 ?_)
      case c1 => exact cell_one_at _ _ _ _ (by simp)
      case c2 => simp [Value.oneCell']
      case c3 => unfold maxLen; omega
      case c4 => omega
      case c5 => simp; omega
      intro v3 w3 ho3 hg3 _
      have hb3 : Below w1.heap.size w1 w3 := (hb2.alloc s2 _).grown hg3 (by simp; omega) (fun g hg => (ho2'.lt g hg).1)
      go_wp2_with fail
      go_meet
      exact ⟨⟨s ++ [x], by rw [List.length_append, iC_app']; exact ho3, bad_twice s x Hm.out, by rw [List.length_append]; simp; omega⟩, hb3⟩
    · have t0 : (how % 5 == 0) = false := beq_eq_false_iff_ne.2 (by omega)
      have t1 : (how % 5 == 1) = true := beq_iff_eq.2 h0
      clear h0 hfr
      go_wp2_with fail
      go_meet
      exact ⟨⟨[], own_nil, bad_nil, by simp⟩, hb2⟩
    · have t0 : (how % 5 == 0) = false := beq_eq_false_iff_ne.2 (by omega)
      have t1 : (how % 5 == 1) = false := beq_eq_false_iff_ne.2 (by omega)
      have t2 : (how % 5 == 2) = true := beq_iff_eq.2 h0
      obtain ⟨m, hmn⟩ : ∃ m : Int, (if (0 : Int) < n then 0 else n) = m := ⟨_, rfl⟩
      have hm0 : m ≤ 0 := by split at hmn <;> omega
      have hc0 : w2.cell? ⟨g2, 0, none⟩ = some (.int .i64 (s[0]'(by omega))) := by
        rw [ho2'.cellAt 0 (by omega)]; simp [iC, List.getElem?_eq_getElem (show 0 < s.length by omega)]
      have hf0 := hfr 0
      obtain ⟨hs1, hs2⟩ := ho2'.stored 0 (.int .i64 m)
      have hlt := (ho2'.lt g2 rfl).1
      have hb3 : Below w1.heap.size w1 (w2.setCell ⟨g2, 0, none⟩ (.int .i64 m)) := hb2.grown hs2 s2 (fun g hg => by cases hg; exact hlt)
      have H1 := Lib.hid hs1
      have H2 := Lib.hid hb3
      have HL := Lib.hid (bad_low s m hm0 (by omega))
      clear h0 hfr hs1 hs2 hb3
      go_wp2_with fail
      go_meet
      exact ⟨⟨s.set 0 m, by rw [List.length_set, show iC (s.set 0 m) = (iC s).set 0 (.int .i64 m) by simp [iC, List.map_set]]; exact H1.out, HL.out, by rw [List.length_set]; omega⟩, H2.out⟩
    · have t0 : (how % 5 == 0) = false := beq_eq_false_iff_ne.2 (by omega)
      have t1 : (how % 5 == 1) = false := beq_eq_false_iff_ne.2 (by omega)
      have t2 : (how % 5 == 2) = false := beq_eq_false_iff_ne.2 (by omega)
      have t3 : (how % 5 == 3) = true := beq_iff_eq.2 h0
      obtain ⟨m, hmn⟩ : ∃ m : Int, (if n < 1000001 then 1000001 else n) = m := ⟨_, rfl⟩
      have hm0 : 1000000 < m := by split at hmn <;> omega
      have hf0 := hfr k
      obtain ⟨hs1, hs2⟩ := ho2'.stored k (.int .i64 m)
      have hlt := (ho2'.lt g2 rfl).1
      have hb3 : Below w1.heap.size w1 (w2.setCell ⟨g2, k, none⟩ (.int .i64 m)) := hb2.grown hs2 s2 (fun g hg => by cases hg; exact hlt)
      have H1 := Lib.hid hs1
      have H2 := Lib.hid hb3
      have HL := Lib.hid (bad_high s k m hm0 hks)
      clear h0 hfr hs1 hs2 hb3
      go_wp2_with fail
      go_meet
      exact ⟨⟨s.set k m, by rw [List.length_set, show iC (s.set k m) = (iC s).set k (.int .i64 m) by simp [iC, List.map_set]]; exact H1.out, HL.out, by rw [List.length_set]; omega⟩, H2.out⟩
    · have t0 : (how % 5 == 0) = false := beq_eq_false_iff_ne.2 (by omega)
      have t1 : (how % 5 == 1) = false := beq_eq_false_iff_ne.2 (by omega)
      have t2 : (how % 5 == 2) = false := beq_eq_false_iff_ne.2 (by omega)
      have t3 : (how % 5 == 3) = false := beq_eq_false_iff_ne.2 (by omega)
      have t4 : (how % 5 == 4) = true := beq_iff_eq.2 h0
      have hall := Lib.hid (show ∀ y ∈ s, 0 ≤ y ∧ y ≤ 1000000 + (s.length : Int) from fun y hy => by have := right_pos s Hr.out y hy; omega)
      clear h0 hfr hcell
      go_wp2_with fail
      go_loopw [8] (fun v wr => ∃ (L : List Int) (q : Nat) (xs : List Value) (g cap : Nat), v = .slice (some ⟨g, 0, none⟩) (q + 1) cap ∧ q ≤ 50 ∧ Hid (L.length = q + 1) ∧ Hid (xs = iC L) ∧ wr.ownsRow w1.heap.size 3 1 (.slice (some ⟨g, 0, none⟩) (q + 1) cap) (q + 1) xs ∧ Hid (∀ y ∈ L, 0 ≤ y ∧ y ≤ 1000000 + (L.length : Int)) ∧ Below w1.heap.size w1 wr) (fun v _ => match v with | .slice _ n _ => 51 - n | _ => 0)
      case atStart => exact ⟨s, k, iC s, g2, d2, by rw [show k + 1 = s.length by omega], by omega, (show s.length = k + 1 by omega), rfl, by rw [show k + 1 = s.length by omega]; exact ho2', hall.out, hb2⟩
      case round =>
        obtain ⟨L, q, xs, g, cap, rfl, hq, hL, hxs, hown, hal, hbel⟩ := hrel
        have hsr := hbel.size
        by_cases hlt : q < 50
        · obtain ⟨y, hcy, hy⟩ : ∃ y : Int, wr.cell? ⟨g, q, none⟩ = some (.int .i64 y) ∧ 0 ≤ y ∧ y ≤ 1000100 := by
            have hLq := hL.out
            refine ⟨L[q]'(by omega), ?_, by have := hal.out (L[q]'(by omega)) (List.getElem_mem _); omega⟩
            rw [hown.cellAt q (by omega), hxs.out]; simp [iC, List.getElem?_eq_getElem (show q < L.length by omega)]
          have Hy := Lib.hid (show y ≤ 1000000 + (L.length : Int) by
            have hLq := hL.out
            have h1 := hcy
            rw [hown.cellAt q (by omega), hxs.out] at h1
            simp [iC, List.getElem?_eq_getElem (show q < L.length by omega)] at h1
            have := hal.out (L[q]'(by omega)) (List.getElem_mem _)
            omega)
          go_wp2_with (at_builtin; refine wpList_append_own_at _ rfl _ _ 24 rfl w1.heap.size 3 i0 (.int .i64 0) 1 8 Try.underlying24 hi hz0 hz1 hz2 rfl (by decide) _ _ _ rfl (hown.alloc _) _ 1 1 [.int .i64 (y + 1)] rfl rfl ?e1 ?e2 ?e3 ?e4 ?e5 ?_)
          case e1 => exact cell_one_at _ _ _ _ (by simp)
          case e2 => simp [Value.oneCell']
          case e3 => unfold maxLen; omega
          case e4 => omega
          case e5 => simp; omega
          intro v3 w3 ho3 hg3 _ _
          obtain ⟨g3, d3, rfl⟩ := own_at ho3 (by omega)
          have hb3 : Below w1.heap.size w1 w3 := (hbel.alloc hsr _).grown hg3 (by simp; omega) (fun g hg => (hown.lt g hg).1)
          go_wp2
          go_roundw
          case rel =>
            refine ⟨L ++ [y + 1], q + 1, _, g3, d3, rfl, by omega, ?_, ?_, ho3, ?_, hb3⟩
            · show (L ++ [y + 1]).length = q + 1 + 1; rw [List.length_append, hL.out]; rfl
            · show _ = iC (L ++ [y + 1]); rw [iC_app', hxs.out]; rfl
            · intro z hz
              rw [List.length_append]
              have h1 := Hy.out
              rcases List.mem_append.1 hz with hz | hz
              · have := hal.out z hz; simp; omega
              · obtain rfl : z = y + 1 := by simpa using hz
                simp; omega
          case measure => simp; omega
        · obtain rfl : q = 50 := by omega
          go_wp2_with fail
          go_meet
          exact ⟨⟨L, by rw [hL.out, ← show _ = _ from hxs.out]; exact hown, bad_long L (by rw [hL.out]; omega), by rw [hL.out]; omega⟩, hbel⟩
  case rest =>
    obtain ⟨⟨bl, hc1, hbad, hbl⟩, hc2⟩ := hcut
    obtain ⟨B3, d3, rfl⟩ := own_form hc1
    have hRb := Lib.hid (Rd.of_own hc1)
    have sc := hc2.size
    have hRs := Lib.hid ((Hrd.out.below hc2).more sc)
    have hBc := hb1.trans (hc2.mono s1)
    have P1 := Lib.hid (okM_false bl 0 (by unfold okM; rw [hbad]; rfl))
    have P2 := Lib.hid (show marE bl 0 = 2 by unfold marE; rw [hbad]; rfl)
    have P3 := Lib.hid (marBad bl 0 (by rw [P2.out]; decide))
    have P4 := Lib.hid (okT_false bl [] (by unfold okT; rw [hbad]; rfl))
    have P5 := Lib.hid hbad
    clear hc1 hc2 hbad ho2' hb2 hcell hfr hb1
    have hb40 : bl.length ≤ 4611686018427387904 := by omega
    go_wp2_with fail
    refine (points_any bl 0 _ _ _ hRb.out hb40).mono ?_
    rintro e w3 ⟨rfl, hb3⟩
    rw [P1.out.1, P1.out.2.1, P1.out.2.2]
    have s3 := hb3.size
    go_wp2_with fail
    refine (margins_any bl 0 _ _ w3 ((hRb.out.below hb3).more s3) hb40).mono ?_
    rintro e _ ⟨rfl, nq, rfl⟩
    rw [P2.out, P3.out.1, P3.out.2]
    have hb4 := hb3.trans ((below_drewN (Below.refl w3.heap.size w3) nq).mono s3)
    generalize w3.drewN nq = w4 at *
    have s4 := hb4.size
    clear hb3 s3
    go_wp2_with fail
    refine (total_any bl [] _ _ _ _ w4 ((hRb.out.below hb4).more s4) hb40 Rd.nil_ (by decide)).mono ?_
    rintro e w5 ⟨rfl, hb5⟩
    rw [P4.out.1, P4.out.2.1, P4.out.2.2]
    have hb6 := hb4.trans (hb5.mono s4)
    have s6 := hb6.size
    clear hb4 hb5 s4
    go_wp2_with fail
    refine (right_any bl _ _ w5 ((hRb.out.below hb6).more s6) hb40).mono ?_
    rintro e _ ⟨rfl, rfl⟩
    rw [P5.out]
    have hR5 := Lib.hid ((hRs.out.below hb6).more s6)
    have hB5 := hBc.trans (hb6.mono hBc.size)
    have sB5 := hB5.size
    clear hb6 hBc P1 P2 P3 P4 P5 hRb hRs
    obtain ⟨m1, hm1⟩ : ∃ m : Int, (if (-1000001 : Int) < n then -1000001 else n) = m := ⟨_, rfl⟩
    obtain ⟨m2, hm2⟩ : ∃ m : Int, (if n < 1000001 then 1000001 else n) = m := ⟨_, rfl⟩
    have hm1b : m1 < -1000000 := by split at hm1 <;> omega
    have hm2b : 1000000 < m2 := by split at hm2 <;> omega
    go_wp2_with fail
    clear hm1 hm2
    go_loopw [141] (fun i wr => ∃ k : Nat, k ≤ 2 ∧ i = .int .i64 (k : Int) ∧ Hid (wr.heap[w5.heap.size]? = some (.cells (iC [m1, m2]).toArray 3)) ∧ Below w5.heap.size w5 wr) (fun i _ => 2 - (intOf i).toNat)
    case atStart => exact ⟨0, by omega, rfl, heap_alloc_new _ _, (by repeat (first | exact Below.refl _ _ | assumption | refine Below.drew ?_ | refine below_drewN ?_ _ | refine Below.alloc ?_ (by first | omega | (simp; done) | (simp; omega)) _ | refine Below.setCell ?_ (by first | omega | (simp; done) | (simp; omega)) _))⟩
    case round =>
      obtain ⟨j, hj, rfl, hblk, hbr⟩ := hrel
      have hlw := blk_lt hblk.out
      have s5r := hbr.size
      by_cases hlt2 : j < 2
      · obtain ⟨m, hcm, hmb⟩ : ∃ m : Int, wr.cell? ⟨w5.heap.size, j, none⟩ = some (.int .i64 m) ∧ (m < -1000000 ∨ 1000000 < m) := by
          have h := blk_cell hblk.out j
          match j, hlt2 with
          | 0, _ => exact ⟨m1, h, .inl hm1b⟩
          | 1, _ => exact ⟨m2, h, .inr hm2b⟩
        have hok : okM s m = false := by
          unfold okM
          rcases hmb with h | h
          · rw [decide_eq_false (show ¬ -1000000 ≤ m by omega)]; simp
          · rw [decide_eq_false (show ¬ m ≤ 1000000 by omega)]; simp
        have Q1 := Lib.hid (okM_false s m hok)
        have Q2 := Lib.hid (okT_false s [1, m, 2] (okT_bad s [1, m, 2] 1 (by show 1 < 3; decide) hok))
        have hRr := Lib.hid ((hR5.out.below hbr).more s5r)
        have Hbr := Lib.hid hbr
        clear hok hmb hbr
        go_wp2_with fail
        refine (points_any s m _ _ _ hRr.out (by omega)).mono ?_
        rintro e w6 ⟨rfl, hb6⟩
        rw [Q1.out.1, Q1.out.2.1, Q1.out.2.2]
        have s6 := hb6.size
        go_wp2_with fail
        refine (total_any s [1, m, 2] _ (some ⟨w6.heap.size, 0, none⟩) _ 3 _ ((((hRr.out.below hb6).more s6).alloc (Nat.le_refl _) _).more (by simp)) (by omega) (rd_of_blk (sz := 1) (n := 3) (heap_alloc_new _ _) (by rfl) (by rfl)) (by show (3 : Nat) ≤ _; decide)).mono ?_
        rintro e w7 ⟨rfl, hb7⟩
        rw [Q2.out.1, Q2.out.2.1, Q2.out.2.2]
        have hb8 : Below wr.heap.size wr w7 := (hb6.alloc s6 _).trans (hb7.mono (by simp; omega))
        have hblk8 := Lib.hid (blk_below hblk.out hb8 hlw)
        have hbr8 := Hbr.out.trans (hb8.mono s5r)
        clear hb6 hb7
        go_wp2
        go_roundw
        case rel => exact ⟨j + 1, by omega, by go_num, hblk8, hbr8⟩
        case measure => simp [intOf]; omega
      · obtain ⟨m3, hm3⟩ : ∃ m : Int, (if (-1 : Int) < n then -1 else n) = m := ⟨_, rfl⟩
        obtain ⟨m4, hm4⟩ : ∃ m : Int, (if n < 2 * (s.length : Int) + 1 then 2 * (s.length : Int) + 1 else n) = m := ⟨_, rfl⟩
        obtain ⟨m5, hm5⟩ : ∃ m : Int, (if (0 : Int) < n then 0 else n) = m := ⟨_, rfl⟩
        obtain ⟨m6, hm6⟩ : ∃ m : Int, (if n < 129 then 129 else n) = m := ⟨_, rfl⟩
        have E3 := Lib.hid (show marE s m3 = 6 by unfold marE; rw [if_pos Hr.out, if_neg (by unfold okP; split at hm3 <;> omega)])
        have E4 := Lib.hid (show marE s m4 = 6 by unfold marE; rw [if_pos Hr.out, if_neg (by unfold okP; split at hm4 <;> omega)])
        have h5 : m5 < 1 ∨ 128 < m5 := by split at hm5 <;> omega
        have h6 : m6 < 1 ∨ 128 < m6 := by split at hm6 <;> omega
        have H5 := Lib.hid h5
        have H6 := Lib.hid h6
        have hRr := Lib.hid ((hR5.out.below hbr).more s5r)
        have hBr := hB5.trans (hbr.mono sB5)
        have sBr := hBr.size
        clear h5 h6 hbr hB5 hR5
        go_wp2_with fail
        refine (margins_any s m3 _ _ _ hRr.out (by omega)).mono ?_
        rintro e _ ⟨rfl, nq, rfl⟩
        rw [E3.out]
        have hb6 := below_drewN (Below.refl wr.heap.size wr) nq
        generalize wr.drewN nq = w6 at *
        have s6 := hb6.size
        go_wp2_with fail
        refine (margins_any s m4 _ _ _ ((hRr.out.below hb6).more s6) (by omega)).mono ?_
        rintro e _ ⟨rfl, nq, rfl⟩
        rw [E4.out]
        have hb7 := hb6.trans ((below_drewN (Below.refl w6.heap.size w6) nq).mono s6)
        generalize w6.drewN nq = w7 at *
        go_wp2_with fail
        refine (usual_bad m5 _ H5.out).mono ?_
        rintro e _ ⟨rfl, rfl⟩
        go_wp2_with fail
        refine (usual_bad m6 _ H6.out).mono ?_
        rintro e _ ⟨rfl, rfl⟩
        have hBe := hBr.trans (hb7.mono sBr)
        go_wp2_with fail
        refine (awake_any _).mono ?_
        rintro e w8 ⟨rfl, hb8⟩
        go_wp2
        go_ret
        exact ⟨rfl, hBe.trans (hb8.mono hBe.size)⟩

end Go.Proofs.Ytkdbkokiieolpaa
