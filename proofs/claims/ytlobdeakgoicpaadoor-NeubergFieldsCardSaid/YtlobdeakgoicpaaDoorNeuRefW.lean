/- The walks of finesseref21.Field and of finesselaw21.theirs; neuberg.Field of too many results. -/
import Derived.Test.YtlobdeakgoicpaaDoorR21D
import Derived.Test.YtlobdeakgoicpaaDoorMatHelpW
import Derived.Test.YtlobdeakgoicpaaDoorNeuBadW
namespace Go.Proofs.YtlobdeakgoicpaaDoor
open Go.RowKit

theorem nfield_b3 (A : Option Addr) (l c : Nat) (all : Int) (w : World) (ha : 1 ≤ all ∧ all ≤ 24) (hn : all < (l : Int)) : Calls Tryd.prog 21 #[.slice A l c, .int .i64 all] w fun e w' => e = .returned (.tuple #[.slice none 0 0, .int .i64 2]) ∧ w = w' := by
  have HB := Lib.hid (fun W => nboard2 all W ha)
  have t1 : decide ((l : Int) > all) = true := decide_eq_true hn
  have t2 : decide (all < (l : Int)) = true := decide_eq_true hn
  go_enter Tryd.func21, Tryd.ntmps21
  go_wp2_with fail
  refine (HB.out _).mono ?_
  rintro ee we ⟨rfl, rfl⟩
  go_wp2
  go_ret2
  exact ⟨rfl, rfl⟩

theorem r21field_b1 (A : Option Addr) (l c : Nat) (all : Int) (w : World) (hb : boardB (l : Int) all = false) : Calls Tryd.prog 22 #[.slice A l c, .int .i64 all] w fun e w' => e = .returned (.tuple #[.slice none 0 0, .int .i64 2]) ∧ w = w' := by
  have HB := Lib.hid (fun W => r21board (l : Int) all W)
  rw [hb] at HB
  clear hb
  go_enter Tryd.func22, Tryd.ntmps22
  go_wp2_with fail
  refine (HB.out _).mono ?_
  rintro ee we ⟨rfl, rfl⟩
  go_wp2
  go_ret2
  exact ⟨rfl, rfl⟩

theorem r21field_b2 (L : List (List Pt)) (A : Option Addr) (c : Nat) (all : Int) (w : World) (hb : boardB (L.length : Int) all = true) (hA : RdL w w.heap.size A L) (hn : L.length ≤ 1000) (hlen : ∀ o ∈ L, o.length ≤ 1000) (he : ptsErr L = 2) : Calls Tryd.prog 22 #[.slice A L.length c, .int .i64 all] w fun e w' => e = .returned (.tuple #[.slice none 0 0, .int .i64 2]) ∧ w = w' := by
  have HB := Lib.hid (fun W => r21board (L.length : Int) all W)
  have HP := Lib.hid (pointsR_bad L A c w hA hn hlen (by rw [he]; decide))
  rw [hb] at HB
  rw [he] at HP
  clear hb hA hlen he
  go_enter Tryd.func22, Tryd.ntmps22
  go_wp2_with fail
  refine (HB.out _).mono ?_
  rintro ee we ⟨rfl, rfl⟩
  go_wp2_with fail
  refine HP.out.mono ?_
  rintro e w1 ⟨rfl, rfl⟩
  go_wp2
  go_ret2
  exact ⟨rfl, rfl⟩

set_option maxHeartbeats 2000000 in
theorem r21field_ok (L : List (List Pt)) (A : Option Addr) (c : Nat) (all : Int) (w : World) (ha : 1 ≤ all ∧ all ≤ 24) (hn : (L.length : Int) ≤ all) (hA : RdL w w.heap.size A L) (hro : ∀ o ∈ L, rightM o = true) :
    Calls Tryd.prog 22 #[.slice A L.length c, .int .i64 all] w fun e w' => ∃ v, e = .returned (.tuple #[v, .int .i64 0]) ∧ w'.ownsRow w.heap.size 23 2 v L.length (pC (adjL L all)) ∧ Below w.heap.size w w' := by
  obtain ⟨i0, hi, hz0, hz1, hz2⟩ := info_parts info_frac
  have HB := Lib.hid (fun W => r21board (L.length : Int) all W)
  rw [(boardB_iff _ _).2 ⟨ha.1, ha.2, by omega, hn⟩] at HB
  have HP := Lib.hid (pointsR_any L A c w hA (by omega) hro)
  have Hro := Lib.hid hro
  clear hA hro
  go_enter Tryd.func22, Tryd.ntmps22
  go_wp2_with fail
  refine (HB.out _).mono ?_
  rintro ee we ⟨rfl, rfl⟩
  go_wp2_with fail
  refine HP.out.mono ?_
  rintro e w1 ⟨v, rfl, ho1, hb1⟩
  have s1 := hb1.size
  obtain ⟨P, cp, rfl⟩ := own_form ho1
  have Hr1 := Lib.hid (show Rd w1 w1.heap.size 2 P (ptsL L).length (pC (ptsL L)) by rw [ptsL_len]; exact Rd.of_own ho1)
  clear HP HB ho1
  go_wp2_with fail
  go_loopw [8, 9] (fun v i wr => ∃ (j : Nat) (xs : List Value), j ≤ L.length ∧ i = .int .i64 (j : Int) ∧ Hid (xs = pC ((adjL L all).take j)) ∧ wr.ownsRow w1.heap.size 23 2 v j xs ∧ Below w1.heap.size w1 wr) (fun _ i _ => L.length - (intOf i).toNat)
  case atStart => exact ⟨0, [], by omega, rfl, rfl, own_nil, Below.refl _ _⟩
  case round =>
    obtain ⟨j, xs, hj, rfl, hxs, hown, hbr⟩ := hrel
    have hsr2 := hbr.size
    by_cases hlt2 : j < L.length
    · obtain ⟨b, off, rfl, hbw, hc1, hc2⟩ := rd_p Hr1.out j (by rw [ptsL_len]; exact hlt2)
      have hd1 := (bcell hbr b (off + j * 2) hbw).trans hc1
      have hd2 := (bcell hbr b (off + j * 2 + 1) hbw).trans hc2
      have hask := adj_asks L Hro.out j hlt2 _ rfl
      have hr := right_of_isF (adj_rng L Hro.out all (by omega) ⟨hn, ha.2⟩ j hlt2).1.1
      have HQ := Lib.hid (fun W => r21adjust_ok _ _ (L.length : Int) all W ⟨by omega, hn⟩ ha.2 hask.2.2.1 ⟨hask.1, hask.2.1⟩ hask.2.2.2 hr)
      have Hs := Lib.hid (show pC ((adjL L all).take (j + 1)) = pC ((adjL L all).take j) ++ [.int .i64 (adjF ((ptsL L)[j]'(by rw [ptsL_len]; exact hlt2)) L.length all).1, .int .i64 (adjF ((ptsL L)[j]'(by rw [ptsL_len]; exact hlt2)) L.length all).2] by
        rw [List.take_succ_eq_append_getElem (by rw [adjL_len]; exact hlt2), pC_snoc, adjL_pt L all j hlt2])
      clear hc1 hc2 hask hr
      generalize adjF ((ptsL L)[j]'_) (L.length : Int) all = r at HQ Hs
      generalize (ptsL L)[j]'_ = f at hd1 hd2 HQ
      obtain ⟨f1, f2⟩ := f
      obtain ⟨x, y⟩ := r
      unfold fV at HQ
      dsimp only at HQ hd1 hd2 Hs
      go_wp2_with fail
      refine (HQ.out _).mono ?_
      rintro ee wa ⟨rfl, hba⟩
      have sa := hba.size
      have hown4 := own_below hown hba (Nat.le_refl _)
      have hbr4 := hbr.trans (hba.mono hsr2)
      have s14 := hbr4.size
      clear hba
      go_wp2_with (at_builtin; refine wpList_append_own _ rfl _ _ 38 rfl w1.heap.size 23 i0 (.agg #[.int .i64 0, .int .i64 0]) 2 16 Tryd.underlying38 hi hz0 hz1 hz2 rfl (by decide) _ _ _ rfl ((hown4.alloc _).alloc _) _ 1 1 [.int .i64 x, .int .i64 y] rfl rfl ?c1 ?c2 ?c3 ?c4 ?c5 ?_)
      case c1 => exact cells_new_at _ #[.int .i64 x, .int .i64 y] _ _ (by simp)
      case c2 => simp [Value.oneCell']
      case c3 => unfold maxLen; omega
      case c4 => omega
      case c5 => simp; omega
      intro v' w5 hown1 hgrow _
      go_wp2
      go_roundw
      case rel =>
        refine ⟨j + 1, _, by omega, by go_num, ?_, hown1, ((hbr4.alloc s14 _).alloc (by simp; omega) _).grown hgrow (by simp; omega) (fun g hg => (hown4.lt g hg).1)⟩
        show _ = pC ((adjL L all).take (j + 1)); rw [Hs.out, hxs.out]
      case measure => simp [intOf]; omega
    · obtain rfl : j = L.length := by omega
      have Hx := Lib.hid (show xs = pC (adjL L all) by rw [hxs.out, List.take_of_length_le (by rw [adjL_len]; exact Nat.le_refl _)])
      go_wp2
      go_ret2
      exact ⟨_, rfl, own_mono (by rw [← show _ = _ from Hx.out]; exact hown) s1, hb1.trans (hbr.mono s1)⟩

set_option maxHeartbeats 2000000 in
theorem theirs21 (L : List (List Pt)) (A : Option Addr) (c : Nat) (w : World) (hA : RdL w w.heap.size A L) (hn : L.length ≤ 1000) (hlen : ∀ o ∈ L, o.length ≤ 1000) :
    Calls Tryd.prog 20 #[.slice A L.length c] w fun e w' => ∃ v xs, e = .returned v ∧ w'.ownsRow w.heap.size 44 1 v L.length xs ∧ OwnL w' w.heap.size 46 v xs L ∧ Below w.heap.size w w' := by
  obtain ⟨i0, hi, hz0, hz1, hz2⟩ := info_parts info_rres
  obtain ⟨j0, ji, jz0, jz1, jz2⟩ := info_parts info_rpart
  have HA := Lib.hid hA
  have Hlen := Lib.hid hlen
  clear hA hlen
  go_enter Tryd.func20, Tryd.ntmps20
  go_wp2
  go_loopw [3, 11] (fun v i wr => ∃ (k : Nat) (xs : List Value), k ≤ L.length ∧ i = .int .i64 (k : Int) ∧ wr.ownsRow w.heap.size 44 1 v k xs ∧ Hid (OwnL wr w.heap.size 46 v xs (L.take k)) ∧ Below w.heap.size w wr) (fun _ i _ => L.length - (intOf i).toNat)
  case atStart => exact ⟨0, [], by omega, rfl, own_nil, OwnL.nil_, Below.refl _ _⟩
  case round =>
    obtain ⟨k, xs, hk, rfl, hown, hol, hbel⟩ := hrel
    have hsr := hbel.size
    by_cases hlt : k < L.length
    · obtain ⟨b, off, Ak, ck, rfl, hbw, hc1, hc2, hc3⟩ := HA.out k hlt
      have t1 : decide ((k : Int) < (L.length : Int)) = true := decide_eq_true (by omega)
      have hd1 := (bcell hbel b (off + k) hbw).trans hc1
      have Hr := Lib.hid ((hc3.below hbel).more hsr)
      have Hln := Lib.hid (Hlen.out _ (List.getElem_mem hlt))
      have Hs := Lib.hid (show L.take (k + 1) = L.take k ++ [L[k]] from List.take_succ_eq_append_getElem hlt)
      obtain ⟨r, hr⟩ : ∃ r, L[k] = r := ⟨_, rfl⟩
      rw [hr] at hd1 Hr Hln Hs
      clear hc1 hc2 hc3 hr
      obtain ⟨w2, rfl⟩ : ∃ w2 : World, w2 = wr := ⟨_, rfl⟩
      go_wp2_with fail
      go_loopw [6, 17] (fun v i wr => ∃ (q : Nat) (xs : List Value), q ≤ r.length ∧ i = .int .i64 (q : Int) ∧ Hid (xs = pC (r.take q)) ∧ wr.ownsRow w2.heap.size 46 2 v q xs ∧ Below w2.heap.size w2 wr) (fun _ i _ => r.length - (intOf i).toNat)
      case atStart => exact ⟨0, [], by omega, rfl, rfl, own_nil, Below.refl _ _⟩
      case round =>
        obtain ⟨q, ys, hq, rfl, hys, hownq, hbq⟩ := hrel
        have hsq := hbq.size
        by_cases hltq : q < r.length
        · obtain ⟨b2, off2, rfl, hbw2, hc1, hc2⟩ := rd_p Hr.out q hltq
          have hd1 := (bcell hbq b2 (off2 + q * 2) hbw2).trans hc1
          have hd2 := (bcell hbq b2 (off2 + q * 2 + 1) hbw2).trans hc2
          have Hs2 := Lib.hid (show pC (r.take (q + 1)) = pC (r.take q) ++ [.int .i64 r[q].1, .int .i64 r[q].2] by rw [List.take_succ_eq_append_getElem hltq, pC_snoc])
          have hln := Hln.out
          clear hc1 hc2
          generalize r[q].1 = x at hd1 Hs2
          generalize r[q].2 = y at hd2 Hs2
          go_wp2_with (at_builtin; refine wpList_append_own _ rfl _ _ 44 rfl w2.heap.size 46 j0 (.agg #[.int .i64 0, .int .i64 0]) 2 16 Tryd.underlying44 ji jz0 jz1 jz2 rfl (by decide) _ _ _ rfl ((hownq.alloc _).alloc _) _ 1 1 [.int .i64 x, .int .i64 y] rfl rfl ?c1 ?c2 ?c3 ?c4 ?c5 ?_)
          case c1 => exact cells_new_at _ #[.int .i64 x, .int .i64 y] _ _ (by simp)
          case c2 => simp [Value.oneCell']
          case c3 => unfold maxLen; omega
          case c4 => omega
          case c5 => simp; omega
          intro v' w3 hown1 hgrow _
          go_wp2
          go_roundw
          case rel =>
            refine ⟨q + 1, _, by omega, by go_num, ?_, hown1, ((hbq.alloc hsq _).alloc (by simp; omega) _).grown hgrow (by simp; omega) (fun g hg => (hownq.lt g hg).1)⟩
            show _ = pC (r.take (q + 1)); rw [Hs2.out, hys.out]
          case measure => simp [intOf]; omega
        · obtain rfl : q = r.length := by omega
          have t0 : decide ((r.length : Int) < (r.length : Int)) = false := decide_eq_false (by omega)
          rw [List.take_length] at hys
          have ho1 := hownq
          rw [show _ = _ from hys.out] at ho1
          have hb1 := hbq
          have s1 := hb1.size
          have hown1 := own_below hown hb1 (Nat.le_refl _)
          have hol1 := Lib.hid (hol.out.below hb1)
          have hbel1 := hbel.trans (hb1.mono hsr)
          have sw1 := hbel1.size
          have hap := Lib.hid (apart_new hown ho1 (Nat.le_refl _))
          obtain ⟨A1, c1, rfl⟩ := own_form ho1
          have ho1' := own_mono ho1 hsr
          have hsrc := Lib.hid (own_src ho1)
          clear hown hol hbel ho1 hb1 hownq hbq hys
          go_wp2_with (at_builtin; refine wpList_append_own_at _ rfl _ _ 36 rfl w.heap.size 44 i0 (.slice none 0 0) 1 24 Tryd.underlying36 hi hz0 hz1 hz2 rfl (by decide) _ _ _ rfl (hown1.alloc _) _ 1 1 [.slice A1 r.length c1] rfl rfl ?d1 ?d2 ?d3 ?d4 ?d5 ?_)
          case d1 => exact cell_one_at _ _ _ _ (by simp)
          case d2 => simp [Value.oneCell']
          case d3 => unfold maxLen; omega
          case d4 => omega
          case d5 => simp; omega
          intro v2 w2 hown2 hgrow _ hat
          have hol2 := ((hol1.out.below ((Below.refl _ _).alloc (Nat.le_refl _) _)).snoc hsrc.out (ho1'.alloc _) hap.out).kept hgrow hat (by simp)
          have Hol2 := Lib.hid hol2
          have hb2 := (hbel1.alloc sw1 _).grown hgrow (by simp; omega) (fun g hg => (hown1.lt g hg).1)
          clear hol2
          go_wp2
          go_roundw
          case rel => exact ⟨k + 1, _, by omega, by go_num, hown2, by show OwnL _ _ _ _ _ (L.take (k + 1)); rw [Hs.out]; exact Hol2.out, hb2⟩
          case measure => simp [intOf]; omega
    · obtain rfl : k = L.length := by omega
      rw [List.take_length] at hol
      go_wp2
      go_ret
      exact ⟨_, xs, rfl, hown, hol.out, hbel⟩

end Go.Proofs.YtlobdeakgoicpaaDoor
