/- The walks of the reference of victory points: Margins, Total. -/
import Derived.Test.YtkdbkokiieolpaaVicRefW
import Derived.Test.YtkdbkokiieolpaaVicLaw3
import Derived.Test.YtkdbkokiieolpaaVicLent
import Derived.Deep.AppendLies
import Derived.Deep.CutBlock
import Derived.Deep.DeepMust
import Derived.Deep.DeepCutAuto
namespace Go.Proofs.Ytkdbkokiieolpaa
open Go.RowKit

theorem blk_drew {w : World} {g : Nat} {x : Option Obj} (h : w.heap[g]? = x) : w.drew.heap[g]? = x := h
/-- A new slice of the integers that the text lists. -/
theorem own_lit' (w : World) (base : Nat) (l : List Int) (t m : Nat) (hb : base ≤ w.heap.size) (hl : l.length ≤ maxLen) (hm : m = w.heap.size := by rfl) : (w.alloc (.cells (iC l).toArray t)).ownsRow base t 1 (.slice (some ⟨m, 0, none⟩) l.length l.length) l.length (iC l) := by
  subst hm
  exact ⟨by simp [iC], .inr ⟨w.heap.size, l.length, (iC l).toArray, rfl, hb, heap_alloc_new w _, Nat.le_refl _, hl, by simp [iC], by simp [iC, List.take_of_length_le]⟩⟩

set_option maxHeartbeats 4000000 in
set_option maxRecDepth 100000 in
theorem marginsR_any (s : List Int) (p : Int) (A : Option Addr) (c : Nat) (w : World) (hl : Rd w w.heap.size 1 A s.length (iC s)) (hn : s.length ≤ 4611686018427387904) :
    Calls Try.prog 25 #[.slice A s.length c, .int .i64 p] w fun e w' => e = .returned (.tuple #[.int .i64 (marL s p), .int .i64 (marH s p), .int .i64 (marE s p)]) ∧ Below w.heap.size w w' := by
  obtain ⟨i0, hi, hz0, hz1, hz2⟩ := info_parts info_int
  by_cases hr : rightS s = true
  · have Hr := Lib.hid hr
    have h50 : s.length ≤ 50 := ((rightS_iff s).1 hr).2.1
    have hb := mem_bd s hr
    have Hsl := Lib.hid (scan_law s hr p)
    clear hr
    go_enter Try.func25, Try.ntmps25
    go_wp2_with fail
    refine (rightR_any s A c _ hl hn).mono ?_
    rintro e w1 ⟨rfl, hb1⟩
    rw [Hr.out]
    have s1 := hb1.size
    have hl1 := (hl.below hb1).more s1
    clear hl
    go_wp2_with fail
    go_loopw [7, 8] (fun v i wr => ∃ (k n' : Nat) (xs : List Value), k ≤ s.length ∧ i = .int .i64 (k : Int) ∧ Hid (n' = 3 + 4 * k) ∧ n' ≤ 3 + 4 * k ∧ Hid (xs = iC (triesTo s k)) ∧ wr.ownsRow w1.heap.size 3 1 v n' xs ∧ Below w1.heap.size w1 wr) (fun _ i _ => s.length - (intOf i).toNat)
    case atStart => exact ⟨0, 3, iC [0, 1000000, -1000000], by omega, rfl, rfl, by omega, rfl, own_lit' w1 _ [0, 1000000, -1000000] _ _ (Nat.le_refl _) (by unfold maxLen; decide), (by repeat (first | exact Below.refl _ _ | assumption | refine Below.drew ?_ | refine below_drewN ?_ _ | refine Below.alloc ?_ (by first | omega | (simp; done) | (simp; omega)) _ | refine Below.setCell ?_ (by first | omega | (simp; done) | (simp; omega)) _))⟩
    case round =>
      obtain ⟨k, n', xs, hk, rfl, hn', hn2, hxs, hown, hbel⟩ := hrel
      by_cases hlt : k < s.length
      · obtain ⟨b, off, rfl, hbw, hc⟩ := rd_i hl1 k hlt
        have hd := (bcell hbel b (off + k) hbw).trans hc
        have hbd := hb k hlt
        have Hs := Lib.hid (triesTo_succ s k hlt)
        have j1 : (k : Int) < (s.length : Int) := by omega
        have j2 : (0 : Int) ≤ (k : Int) := by omega
        have hsr := hbel.size
        have hbr : b < wr.heap.size := by omega
        have hne := hown.lt
        have Hc := Lib.hid hc
        clear hc
        generalize s[k] = y at hd hbd Hs Hc
        go_upto_block 1 with fail
        go_cut [7] (fun v' wx => wx.ownsRow w1.heap.size 3 1 v' (n' + 4) (xs ++ iC (four y)) ∧ Below w1.heap.size w1 wx)
        case first =>
          go_wp2_with fail
          have hx1 : n' + 4 ≤ 1000 := by omega
          have hx2 : (n' + 4) * 8 ≤ 140737488355328 := by omega
          have i1 : IntKind.i64.wrap (y - 1) = y - 1 := IntWalk.i64_in _ (by omega)
          have i2 : IntKind.i64.wrap (0 - y) = -y := by rw [IntWalk.i64_in _ (by omega)]; omega
          have i3 : IntKind.i64.wrap (1 - y) = 1 - y := IntWalk.i64_in _ (by omega)
          have i4 : IntKind.i64.wrap (-y) = -y := IntWalk.i64_in _ (by omega)
          go_region_held3 (fun w' => w'.cell? ⟨b, off + k, none⟩ = some (.int .i64 y)) (first | exact (bcell hba b (off + k) hbw).trans Hc.out | go_keep)
            ((refine step_append_lies _ (by rfl) _ _ _ (by rfl) w1.heap.size 3 i0 (.int .i64 0) 1 8 Try.underlying24 hi hz0 hz1 hz2 rfl (by decide) _ n' xs (by rfl) ?_ _ 4 4 [.int .i64 y, .int .i64 (y - 1), .int .i64 (-y), .int .i64 (1 - y)] (by rfl) (by rfl) ?_ (by simp [Value.oneCell']) (by decide) (by unfold maxLen; clear i1 i2 i3 i4; omega) hx2 ?_ _ (by rfl) ?_; (focus (repeat (first | (with_reducible refine World.ownsRow.drew ?_) | (with_reducible refine World.ownsRow.alloc ?_ _) | exact hown))); (refine World.news_of_block (cs := #[.int .i64 y, .int .i64 (y - 1), .int .i64 (-y), .int .i64 (1 - y)]) (t := 3) (fr := (0, 0)) ?_; (focus (repeat (first | (with_reducible refine blk_drew ?_) | ((with_reducible refine blk_new _ ?_); (simp; done)) | (with_reducible refine blk_alloc ?_ _))))); (clear i1 i2 i3 i4; simp; omega); intro g1 cap1 wa hn1 hgr1 hat1 hlt1; clear i1 i2 i3 i4; have hgr1' : World.grownBy _ wa u7.ownBlock := hgr1; clear hgr1 hat1; have hba : Below w1.heap.size w1 wa := Below.grown (a := w1) ?_ hgr1' ?_ (fun g hg => (hne g hg).1); rotate_left; (focus (repeat (first | (with_reducible refine Below.drew ?_) | ((with_reducible refine Below.alloc ?_ ?_ _); rotate_left; (first | omega | (simp <;> omega))) | exact hbel))); (first | omega | (simp <;> omega))))
          all_goals (go_wp2_with fail; go_meet; exact ⟨hn1, hba⟩)
        case rest =>
          obtain ⟨hc1, hc2⟩ := hcut
          go_wp2
          go_roundw
          case rel =>
            refine ⟨k + 1, _, _, by omega, by go_num, ?_, by omega, ?_, hc1, hc2⟩
            · show _ = _; rw [hn'.out]; omega
            · show _ = iC (triesTo s (k + 1)); rw [Hs.out, iC_app, ← show _ = _ from hxs.out]
          case measure => simp [intOf]; omega
      · obtain rfl : k = s.length := by omega
        have hrw := hn'.out
        subst hrw
        have hxw := hxs.out
        subst hxw
        obtain ⟨T, hT⟩ : ∃ T, triesTo s s.length = T := ⟨_, rfl⟩
        have hTl : T.length = 3 + 4 * s.length := by rw [← hT]; exact triesTo_len s _ (Nat.le_refl _)
        have Hsl2 := Lib.hid (show (scanTo s p T T.length = (false, 0, 0) ∧ marE s p = 6 ∧ marL s p = 0 ∧ marH s p = 0) ∨ (scanTo s p T T.length = (true, marL s p, marH s p) ∧ marE s p = 0) from hT ▸ Hsl.out)
        have Htb := Lib.hid (show ∀ t ∈ T, -1000000 ≤ t ∧ t ≤ 1000000 from fun t ht => tries_bd s Hr.out t (by unfold tries; rw [hT]; exact ht))
        rw [hT, ← hTl] at hown
        obtain ⟨B, d, rfl⟩ := own_form hown
        have hrT := Rd.of_own hown
        have HT := Lib.hid hTl
        have hT1 : T.length ≤ 1000 := by omega
        have sr := hbel.size
        have hl2 := (hl1.below hbel).more sr
        have hB2 : Below w.heap.size w wr := hb1.trans (hbel.mono s1)
        obtain ⟨w2, rfl⟩ : ∃ w2 : World, w2 = wr := ⟨_, rfl⟩
        clear hown hl1 hbel hT hTl Hsl hk hn2 hlt hb hn' hxs
        go_wp2_with fail
        go_loopw [9, 10, 11, 12] (fun f lo hi i wr => ∃ (k : Nat) (b : Bool) (x y : Int), k ≤ T.length ∧ i = .int .i64 (k : Int) ∧ f = .bool b ∧ lo = .int .i64 x ∧ hi = .int .i64 y ∧ Hid (scanTo s p T k = (b, x, y)) ∧ Below w2.heap.size w2 wr) (fun _ _ _ i _ => T.length - (intOf i).toNat)
        case atStart => exact ⟨0, false, 0, 0, by omega, rfl, rfl, rfl, rfl, rfl, Below.refl _ _⟩
        case round =>
          obtain ⟨k, b, x, y, hk, rfl, rfl, rfl, rfl, hsc, hbel⟩ := hrel
          by_cases hlt : k < T.length
          · obtain ⟨g, off, rfl, hgw, hc⟩ := rd_i hrT k hlt
            have hd := (bcell hbel g (off + k) hgw).trans hc
            have Hs := Lib.hid (show scanTo s p T (k + 1) = stepS s p (b, x, y) T[k] by rw [scanTo_succ s p T k hlt, hsc.out])
            have htb := Htb.out _ (List.getElem_mem hlt)
            have hl3 := (hl2.below hbel).more hbel.size
            have j1 : (k : Int) < (T.length : Int) := by omega
            have j2 : (0 : Int) ≤ (k : Int) := by omega
            have Hc := Lib.hid hc
            clear hc
            generalize T[k] = t at hd Hs htb Hc
            go_wp2_with fail
            refine (pointsR_any s t A c _ hl3 hn).mono ?_
            rintro e w3 ⟨rfl, hb3⟩
            have hd3 := (bcell (hbel.trans (hb3.mono hbel.size)) g (off + k) hgw).trans Hc.out
            have hbel3 := hbel.trans (hb3.mono hbel.size)
            clear hd hbel hb3 hl3
            by_cases hp : ptsA s t = p
            · rw [hp]
              have Hs1 := Lib.hid (show scanTo s p T (k + 1) = (true, if b = false ∨ t < x then t else x, if b = false ∨ y < t then t else y) by rw [Hs.out]; unfold stepS; rw [if_pos hp])
              clear hp Hs
              cases b with
              | false =>
                have Hs2 := Lib.hid (show scanTo s p T (k + 1) = (true, t, t) by rw [Hs1.out]; simp)
                go_wp2
                go_roundw
                case rel => exact ⟨k + 1, true, t, t, by omega, by go_num, rfl, rfl, rfl, Hs2, hbel3⟩
                case measure => simp [intOf]; omega
              | true =>
                have Hs2 := Lib.hid (show scanTo s p T (k + 1) = (true, if t < x then t else x, if y < t then t else y) by rw [Hs1.out]; simp)
                clear Hs1
                by_cases h1 : t < x <;> by_cases h2 : y < t
                all_goals
                  first | rw [if_pos h1] at Hs2 | rw [if_neg h1] at Hs2
                  first | rw [if_pos h2] at Hs2 | rw [if_neg h2] at Hs2
                  go_wp2
                  go_roundw
                  case rel => exact ⟨k + 1, true, _, _, by omega, by go_num, rfl, rfl, rfl, Hs2, hbel3⟩
                  case measure => simp [intOf]; omega
            · have Hs2 := Lib.hid (show scanTo s p T (k + 1) = (b, x, y) by rw [Hs.out]; unfold stepS; rw [if_neg hp])
              have hne2 : (ptsA s t != p) = true := bne_iff_ne.2 hp
              clear hp Hs
              generalize ptsA s t = a at hne2
              go_wp2
              go_roundw
              case rel => exact ⟨k + 1, b, x, y, by omega, by go_num, rfl, rfl, rfl, Hs2, hbel3⟩
              case measure => simp [intOf]; omega
          · obtain rfl : k = T.length := by omega
            have hB3 := hB2.trans (hbel.mono hB2.size)
            rcases Hsl2.out with ⟨h1, h2, h3, h4⟩ | ⟨h1, h2⟩
            · have e1 := h1.symm.trans hsc.out
              injection e1 with e1 e2
              injection e2 with e2 e3
              subst e1
              subst e2
              subst e3
              have E := Lib.hid (And.intro h2 (And.intro h3 h4))
              clear h1 h2 h3 h4
              go_wp2
              go_ret3
              exact ⟨by rw [E.out.1, E.out.2.1, E.out.2.2]; rfl, hB3⟩
            · have e1 := h1.symm.trans hsc.out
              injection e1 with e1 e2
              injection e2 with e2 e3
              subst e1
              have E := Lib.hid (And.intro h2 (And.intro e2 e3))
              clear h1 h2 e2 e3
              go_wp2
              go_ret3
              exact ⟨by rw [E.out.1, E.out.2.1, E.out.2.2]; rfl, hB3⟩
  · have hr' : rightS s = false := by simpa using hr
    have e3 : marE s p = 2 := by unfold marE; rw [if_neg hr]
    obtain ⟨e1, e2⟩ := marBad s p (by omega)
    rw [e1, e2, e3]
    have Hr := Lib.hid hr'
    clear e1 e2 e3 hr hr'
    go_enter Try.func25, Try.ntmps25
    go_wp2_with fail
    refine (rightR_any s A c _ hl hn).mono ?_
    rintro e w1 ⟨rfl, hb1⟩
    rw [Hr.out]
    go_wp2
    go_ret3
    exact ⟨rfl, hb1⟩

set_option maxHeartbeats 1000000 in
theorem totalR_any (s l : List Int) (A A' : Option Addr) (c c' : Nat) (w : World) (hl : Rd w w.heap.size 1 A s.length (iC s)) (hn : s.length ≤ 4611686018427387904)
    (hl' : Rd w w.heap.size 1 A' l.length (iC l)) (hn' : l.length ≤ 1000000) :
    Calls Try.prog 26 #[.slice A s.length c, .slice A' l.length c'] w fun e w' => e = .returned (.tuple #[.int .i64 (totA s l), .int .i64 (totB s l), .int .i64 (totE s l)]) ∧ Below w.heap.size w w' := by
  by_cases hr : rightS s = true
  · have Hr := Lib.hid hr
    clear hr
    go_enter Try.func26, Try.ntmps26
    go_wp2_with fail
    refine (rightR_any s A c _ hl hn).mono ?_
    rintro e w1 ⟨rfl, hb1⟩
    rw [Hr.out]
    go_wp2
    go_loopw [7, 8, 9] (fun a b i wr => ∃ k : Nat, k ≤ l.length ∧ i = .int .i64 (k : Int) ∧ a = .int .i64 (sumA s l k) ∧ b = .int .i64 (sumB s l k) ∧ Hid (∀ j (hj : j < l.length), j < k → okM s l[j] = true) ∧ Below w.heap.size w wr) (fun _ _ i _ => l.length - (intOf i).toNat)
    case atStart => exact ⟨0, by omega, rfl, rfl, rfl, fun j _ h => by omega, hb1⟩
    case round =>
      obtain ⟨k, hk, rfl, rfl, rfl, hok, hbel⟩ := hrel
      by_cases hlt : k < l.length
      · obtain ⟨b, off, rfl, hbw, hc⟩ := rd_i hl' k hlt
        have hd := (bcell hbel b (off + k) hbw).trans hc
        have hsr := hbel.size
        have hl1 := (hl.below hbel).more hsr
        have hsb := sum_bd s l k hk
        have hpb := pts_bd s l[k]
        have HA := Lib.hid (sumA_succ s l k hlt)
        have HB := Lib.hid (sumB_succ s l k hlt)
        clear hc
        by_cases hm : okM s l[k] = true
        · have HE := Lib.hid (show ptsE s l[k] = 0 by unfold ptsE; rw [if_pos hm])
          have Hm := Lib.hid hm
          clear hm
          go_wp2_with fail
          refine (pointsR_any s l[k] A c _ hl1 hn).mono ?_
          rintro e w1 ⟨rfl, hb1⟩
          rw [HE.out]
          go_wp2
          go_roundw
          case rel =>
            refine ⟨k + 1, by omega, by go_num, int_eq HA.out.symm, int_eq HB.out.symm, fun j hj h => ?_, hbel.trans (hb1.mono hsr)⟩
            by_cases e : j = k
            · subst e; exact Hm.out
            · exact hok.out j hj (by omega)
          case measure => simp [intOf]; omega
        · have hm' : okM s l[k] = false := by simpa using hm
          have HE := Lib.hid (show ptsE s l[k] = 2 by unfold ptsE; rw [if_neg hm])
          have HT := Lib.hid (okT_false s l (okT_bad s l k hlt hm'))
          clear hm hm'
          go_wp2_with fail
          refine (pointsR_any s l[k] A c _ hl1 hn).mono ?_
          rintro e w1 ⟨rfl, hb1⟩
          rw [HE.out]
          go_wp2
          go_ret3
          exact ⟨by rw [HT.out.1, HT.out.2.1, HT.out.2.2]; rfl, hbel.trans (hb1.mono hsr)⟩
      · obtain rfl : k = l.length := by omega
        have hT := okT_of s l Hr.out hok.out
        have HT := Lib.hid (show totA s l = sumA s l l.length ∧ totB s l = sumB s l l.length ∧ totE s l = 0 by unfold totA totB totE; rw [hT]; exact ⟨rfl, rfl, rfl⟩)
        clear hT
        go_wp2
        go_ret3
        exact ⟨by rw [HT.out.1, HT.out.2.1, HT.out.2.2]; rfl, hbel⟩
  · have hr' : rightS s = false := by simpa using hr
    obtain ⟨e1, e2, e3⟩ := okT_false s l (by unfold okT; rw [hr']; rfl)
    rw [e1, e2, e3]
    have Hr := Lib.hid hr'
    clear e1 e2 e3 hr hr'
    go_enter Try.func26, Try.ntmps26
    go_wp2_with fail
    refine (rightR_any s A c _ hl hn).mono ?_
    rintro e w1 ⟨rfl, hb1⟩
    rw [Hr.out]
    go_wp2
    go_ret3
    exact ⟨rfl, hb1⟩

end Go.Proofs.Ytkdbkokiieolpaa
