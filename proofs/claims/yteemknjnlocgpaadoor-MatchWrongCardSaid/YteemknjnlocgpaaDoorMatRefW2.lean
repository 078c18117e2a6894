/- The walks of the reference of matchpoints: Turn, Compare, Among, Points. -/
import Derived.Test.YteemknjnlocgpaaDoorMatRefW
import Derived.Test.YteemknjnlocgpaaDoorMatOwn
import Derived.Deep.AppendLies
import Derived.Deep.CutBlock
import Derived.Deep.DeepMust
import Derived.Deep.DeepCutAuto
namespace Go.Proofs.YteemknjnlocgpaaDoor
open Go.RowKit

theorem info_rpart : (Tryd.prog.info? 79).map (fun i => (i.zero, i.size, i.bytes)) = some (some (.agg #[.int .i64 0, .int .i64 0]), 2, 16) := by kernel_rfl
theorem blk_drew {w : World} {g : Nat} {x : Option Obj} (h : w.heap[g]? = x) : w.drew.heap[g]? = x := h

/-! ### Turn -/
set_option maxHeartbeats 400000 in
theorem turnR_bad (l : List Pt) (A : Option Addr) (c : Nat) (w : World) (hl : Rd w w.heap.size 2 A l.length (pC l)) (hn : l.length ≤ 1000) (hr : rightM l = false) :
    Calls Tryd.prog 21 #[.slice A l.length c] w fun e w' => e = .returned (.tuple #[.slice none 0 0, .int .i64 2]) ∧ w' = w := by
  have Hr := Lib.hid hr
  clear hr
  go_enter Tryd.func21, Tryd.ntmps21
  go_wp2_with fail
  refine (rightR_any l A c _ hl hn).mono ?_
  rintro e w1 ⟨rfl, rfl⟩
  rw [Hr.out]
  go_wp2
  go_ret2
  exact ⟨rfl, rfl⟩

set_option maxHeartbeats 4000000 in
set_option maxRecDepth 100000 in
theorem turnR_any (l : List Pt) (A : Option Addr) (c : Nat) (w : World) (hl : Rd w w.heap.size 2 A l.length (pC l)) (hr : rightM l = true) :
    Calls Tryd.prog 21 #[.slice A l.length c] w fun e w' => ∃ v, e = .returned (.tuple #[v, .int .i64 0]) ∧ w'.ownsRow w.heap.size 79 2 v l.length (pC (negP l)) ∧ Below w.heap.size w w' := by
  obtain ⟨i0, hi, hz0, hz1, hz2⟩ := info_parts info_rpart
  have hri := (rightM_iff l).1 hr
  have hn4 : 1 ≤ l.length ∧ l.length ≤ 4 := ⟨hri.1, hri.2.1⟩
  have Hok := Lib.hid hri.2.2.1
  have Hr := Lib.hid hr
  clear hr hri
  go_enter Tryd.func21, Tryd.ntmps21
  go_wp2_with fail
  refine (rightR_any l A c _ hl (by omega)).mono ?_
  rintro e w1 ⟨rfl, rfl⟩
  rw [Hr.out]
  go_wp2
  go_loopw [4, 5] (fun v i wr => ∃ (k : Nat) (xs : List Value), k ≤ l.length ∧ i = .int .i64 (k : Int) ∧ Hid (xs = pC (negP (l.take k))) ∧ wr.ownsRow w1.heap.size 79 2 v k xs ∧ Below w1.heap.size w1 wr) (fun _ i _ => l.length - (intOf i).toNat)
  case atStart => exact ⟨0, [], by omega, rfl, rfl, own_nil, Below.refl _ _⟩
  case round =>
    obtain ⟨k, xs, hk, rfl, hxs, hown, hbel⟩ := hrel
    have hsr := hbel.size
    by_cases hlt : k < l.length
    · obtain ⟨b, off, rfl, hbw, hc1, hc2⟩ := rd_p hl k hlt
      have hd1 := (bcell hbel b (off + k * 2) hbw).trans hc1
      have hd2 := (bcell hbel b (off + k * 2 + 1) hbw).trans hc2
      have hbd := (okPt_iff l[k]).1 (Hok.out _ (List.getElem_mem hlt))
      have Hs := Lib.hid (negP_snoc l k hlt)
      have j1 : (k : Int) < (l.length : Int) := by omega
      have j2 : (0 : Int) ≤ (k : Int) := by omega
      have hbr : b < wr.heap.size := by omega
      have hne := hown.lt
      have Hc1 := Lib.hid hc1
      have Hc2 := Lib.hid hc2
      clear hc1 hc2
      generalize l[k].1 = x at hd1 hbd Hs Hc1
      generalize l[k].2 = y at hd2 hbd Hs Hc2
      go_upto_block 1 with fail
      go_cut [4] (fun v' wx => wx.ownsRow w1.heap.size 79 2 v' (k + 1) (xs ++ [.int .i64 (-x), .int .i64 y]) ∧ Below w1.heap.size w1 wx)
      case first =>
        go_wp2_with fail
        have hx1 : k + 1 ≤ 1000 := by omega
        have hx2 : (k + 1) * 16 ≤ 140737488355328 := by omega
        have i2 : IntKind.i64.wrap (0 - x) = -x := by rw [IntWalk.i64_in _ (by omega)]; omega
        have i4 : IntKind.i64.wrap (-x) = -x := IntWalk.i64_in _ (by omega)
        go_region_held3 (fun w' => w'.cell? ⟨b, off + k * 2, none⟩ = some (.int .i64 x) ∧ w'.cell? ⟨b, off + k * 2 + 1, none⟩ = some (.int .i64 y)) (first | exact ⟨(bcell hba b (off + k * 2) hbw).trans Hc1.out, (bcell hba b (off + k * 2 + 1) hbw).trans Hc2.out⟩ | go_keep)
          ((refine step_append_lies _ (by rfl) _ _ _ (by rfl) w1.heap.size 79 i0 (.agg #[.int .i64 0, .int .i64 0]) 2 16 Tryd.underlying35 hi hz0 hz1 hz2 rfl (by decide) _ k xs (by rfl) ?_ _ 1 1 [.int .i64 (-x), .int .i64 y] (by rfl) (by rfl) ?_ (by simp [Value.oneCell']) (by decide) (by unfold maxLen; clear i2 i4; omega) hx2 ?_ _ (by rfl) ?_; (focus (repeat (first | (with_reducible refine World.ownsRow.drew ?_) | (with_reducible refine World.ownsRow.alloc ?_ _) | exact hown))); (refine World.news_of_block (cs := #[.int .i64 (-x), .int .i64 y]) (t := 79) (fr := (0, 0)) ?_; (focus (repeat (first | (with_reducible refine blk_drew ?_) | ((with_reducible refine blk_new _ ?_); (simp; done)) | (with_reducible refine blk_alloc ?_ _))))); (clear i2 i4; simp; omega); intro g1 cap1 wa hn1 hgr1 hat1 hlt1; clear i2 i4; have hgr1' : World.grownBy _ wa u4.ownBlock := hgr1; clear hgr1 hat1; have hba : Below w1.heap.size w1 wa := Below.grown (a := w1) ?_ hgr1' ?_ (fun g hg => (hne g hg).1); rotate_left; (focus (repeat (first | (with_reducible refine Below.drew ?_) | ((with_reducible refine Below.alloc ?_ ?_ _); rotate_left; (first | omega | (simp <;> omega))) | exact hbel))); (first | omega | (simp <;> omega))))
        all_goals (go_wp2_with fail; go_meet; exact ⟨hn1, hba⟩)
      case rest =>
        obtain ⟨hc1, hc2⟩ := hcut
        go_wp2
        go_roundw
        case rel =>
          refine ⟨k + 1, _, by omega, by go_num, ?_, hc1, hc2⟩
          show _ = pC (negP (l.take (k + 1))); rw [Hs.out, hxs.out, pC_snoc]
        case measure => simp [intOf]; omega
    · obtain rfl : k = l.length := by omega
      rw [List.take_length] at hxs
      go_wp2
      go_ret2
      exact ⟨_, rfl, by rw [← show _ = _ from hxs.out]; exact hown, hbel⟩

/-! ### Compare -/
set_option maxHeartbeats 2000000 in
theorem compareR_any (a b : List Pt) (A B : Option Addr) (ca cb : Nat) (w : World) (ha : Rd w w.heap.size 2 A a.length (pC a)) (hb : Rd w w.heap.size 2 B b.length (pC b)) (hna : a.length ≤ 1000) (hnb : b.length ≤ 1000) :
    Calls Tryd.prog 19 #[.slice A a.length ca, .slice B b.length cb] w fun e w' => e = .returned (.tuple #[fV (cmpV a b), .int .i64 (cmpE a b)]) ∧ Below w.heap.size w w' := by
  have hW0 : Below w.heap.size w (w.alloc (.cells #[.int .i64 0, .int .i64 0] 46)) := (Below.refl _ _).alloc (Nat.le_refl _) _
  have ha0 := (ha.below hW0).more hW0.size
  have hb0 := (hb.below hW0).more hW0.size
  have hblk : (w.alloc (.cells #[.int .i64 0, .int .i64 0] 46)).heap[w.heap.size]? = _ := blk_new _ rfl
  have hs0 : (w.alloc (.cells #[.int .i64 0, .int .i64 0] 46)).heap.size = w.heap.size + 1 := by simp
  have Hblk := Lib.hid hblk
  have Hs0 := Lib.hid hs0
  clear ha hb hblk hs0
  by_cases h1 : rightM a = true
  · by_cases h2 : rightM b = true
    · have hbd := gAB_bd a b h1 h2
      have HE := Lib.hid (show cmpV a b = fr (gAB a b) 10000 ∧ cmpE a b = 0 by unfold cmpV cmpE; rw [h1, h2]; exact ⟨rfl, rfl⟩)
      have H1 := Lib.hid h1
      have H2 := Lib.hid h2
      clear h1 h2
      go_enter Tryd.func19, Tryd.ntmps19
      go_wp2_with fail
      refine (rightR_any a A ca _ ha0 hna).mono ?_
      rintro e _ ⟨rfl, rfl⟩
      rw [H1.out]
      go_wp2_with fail
      refine (rightR_any b B cb _ hb0 hnb).mono ?_
      rintro e _ ⟨rfl, rfl⟩
      rw [H2.out]
      go_wp2_with fail
      refine (gets_any a b A B ca cb _ ha0 hb0 H1.out H2.out).mono ?_
      rintro e _ ⟨rfl, nq, rfl⟩
      have hb2 := below_drewN (Below.refl (w.alloc (.cells #[.int .i64 0, .int .i64 0] 46)).heap.size (w.alloc (.cells #[.int .i64 0, .int .i64 0] 46))) nq
      generalize (w.alloc (.cells #[.int .i64 0, .int .i64 0] 46)).drewN nq = w2 at *
      have s2 := hb2.size
      go_wp2_with fail
      refine (reduced_any (gAB a b) 10000 _ (by omega) (by omega)).mono ?_
      rintro e w3 ⟨rfl, hb3⟩
      have hb13 := hb2.trans (hb3.mono s2)
      have hk : w3.heap[w.heap.size]? = _ := blk_below Hblk.out hb13 (by rw [Hs0.out]; omega)
      have hc0 := blk_cell hk 0
      have hc1 := blk_cell hk 1
      have hf0 := blk_free hk 0
      have hf1 := blk_free hk 1
      have hB := hW0.trans (hb13.mono hW0.size)
      clear hk hb2 hb3 hb13
      obtain ⟨f1, f2, hf⟩ : ∃ f1 f2, fr (gAB a b) 10000 = (f1, f2) := ⟨_, _, rfl⟩
      rw [hf, show fV (f1, f2) = .agg #[.int .i64 f1, .int .i64 f2] from rfl]
      have Hf := Lib.hid hf
      clear hf
      go_wp2
      exact bodyPost_ret (v := .tuple #[.agg #[.int .i64 f1, .int .i64 f2], .int .i64 0]) (by simp [results, Tryd.results19, go_sem, hc0, hc1]) rfl ⟨by rw [HE.out.1, HE.out.2, Hf.out]; rfl, (hB.setCell (Nat.le_refl _) _).setCell (Nat.le_refl _) _⟩
    · have h2' : rightM b = false := by simpa using h2
      have HE := Lib.hid (show cmpV a b = zeroF ∧ cmpE a b = 2 by unfold cmpV cmpE; rw [h1, h2']; exact ⟨rfl, rfl⟩)
      have H1 := Lib.hid h1
      have H2 := Lib.hid h2'
      clear h1 h2 h2'
      go_enter Tryd.func19, Tryd.ntmps19
      go_wp2_with fail
      refine (rightR_any a A ca _ ha0 hna).mono ?_
      rintro e _ ⟨rfl, rfl⟩
      rw [H1.out]
      go_wp2_with fail
      refine (rightR_any b B cb _ hb0 hnb).mono ?_
      rintro e _ ⟨rfl, rfl⟩
      rw [H2.out]
      go_wp2
      exact bodyPost_ret (v := .tuple #[.agg #[.int .i64 0, .int .i64 0], .int .i64 2]) (by simp [results, Tryd.results19, go_sem]) rfl ⟨by rw [HE.out.1, HE.out.2]; rfl, (by repeat (first | exact Below.refl _ _ | assumption | refine Below.drew ?_ | refine below_drewN ?_ _ | refine Below.alloc ?_ (by first | omega | (simp; done) | (simp; omega)) _ | refine Below.setCell ?_ (by first | omega | (simp; done) | (simp; omega)) _))⟩
  · have h1' : rightM a = false := by simpa using h1
    have HE := Lib.hid (show cmpV a b = zeroF ∧ cmpE a b = 2 by unfold cmpV cmpE; rw [h1']; exact ⟨rfl, rfl⟩)
    have H1 := Lib.hid h1'
    clear h1 h1'
    go_enter Tryd.func19, Tryd.ntmps19
    go_wp2_with fail
    refine (rightR_any a A ca _ ha0 hna).mono ?_
    rintro e _ ⟨rfl, rfl⟩
    rw [H1.out]
    go_wp2
    exact bodyPost_ret (v := .tuple #[.agg #[.int .i64 0, .int .i64 0], .int .i64 2]) (by simp [results, Tryd.results19, go_sem]) rfl ⟨by rw [HE.out.1, HE.out.2]; rfl, (by repeat (first | exact Below.refl _ _ | assumption | refine Below.drew ?_ | refine below_drewN ?_ _ | refine Below.alloc ?_ (by first | omega | (simp; done) | (simp; omega)) _ | refine Below.setCell ?_ (by first | omega | (simp; done) | (simp; omega)) _))⟩

/-! ### Among -/
def amTo (L : List (List Pt)) (r : List Pt) (i k : Nat) : Int := gAllTo r L k - if i < k then 10000 else 0
set_option maxHeartbeats 2000000 in
theorem among_any (L : List (List Pt)) (i : Nat) (A : Option Addr) (c : Nat) (w : World) (hA : RdL w w.heap.size A L) (hro : ∀ o ∈ L, rightM o = true) (hn : L.length ≤ 24) (hi : i < L.length) :
    Calls Tryd.prog 41 #[.slice A L.length c, .int .i64 (i : Int)] w fun e w' => e = .returned (.int .i64 (gAll L[i] L - 10000)) ∧ ∃ n, w' = w.drewN n := by
  obtain ⟨bi, oi, Ai, ci, hAe, hbi, hi1, hi2, hi3⟩ := hA i hi
  have hri := hro _ (List.getElem_mem hi)
  have hE := Lib.hid (show amTo L L[i] i L.length = gAll L[i] L - 10000 by unfold amTo; rw [if_pos hi, gAllTo_all])
  have hself := Lib.hid (gAB_self _ hri)
  obtain ⟨r, hr⟩ : ∃ r, L[i] = r := ⟨_, rfl⟩
  have Hr := Lib.hid hr
  rw [hr] at hi1 hi3 hri hE hself ⊢
  have HA := Lib.hid hA
  have Hro := Lib.hid hro
  have Hi3 := Lib.hid hi3
  subst hAe
  have ii1 : (i : Int) < (L.length : Int) := by omega
  have ii2 : (0 : Int) ≤ (i : Int) := by omega
  clear hA hro hi3 hr
  go_enter Tryd.func41, Tryd.ntmps41
  go_wp2
  go_loopw [5, 6] (fun s j wr => ∃ k nq : Nat, k ≤ L.length ∧ j = .int .i64 (k : Int) ∧ s = .int .i64 (amTo L r i k) ∧ wr = w.drewN nq) (fun _ j _ => L.length - (intOf j).toNat)
  case atStart => exact ⟨0, 0, by omega, rfl, by simp [amTo, gAllTo], rfl⟩
  case round =>
    obtain ⟨k, nq, hk, rfl, rfl, hw⟩ := hrel
    have HW := Lib.hid hw
    clear hw
    by_cases hlt : k < L.length
    · obtain ⟨b, off, Ak, ck, hbe, hbw, hc1, hc2, hc3⟩ := HA.out k hlt
      obtain ⟨rfl, rfl⟩ : bi = b ∧ oi = off := by injection hbe with h; injection h with e1 e2; exact ⟨e1, e2⟩
      have hrk := Hro.out _ (List.getElem_mem hlt)
      have Hs := Lib.hid (gAllTo_succ r L k hlt)
      have hbd := gAllTo_bd r L hri Hro.out k hk
      have hgb := gAB_bd r L[k] hri hrk
      have k1 : (k : Int) < (L.length : Int) := by omega
      have k2 : (0 : Int) ≤ (k : Int) := by omega
      clear hbe
      by_cases e : k = i
      · have hb : ((k : Int) != (i : Int)) = false := by simp [e]
        have HN := Lib.hid (show amTo L r i (k + 1) = amTo L r i k by
          unfold amTo
          rw [Hs.out, if_pos (by omega), if_neg (by omega)]
          have : gAB r L[k] = 10000 := by subst e; rw [Hr.out]; exact hself.out
          omega)
        generalize amTo L r i k = S at HN
        go_wp2
        go_roundw
        case rel => exact ⟨k + 1, nq, by omega, by go_num, int_eq HN.out.symm, HW.out⟩
        case measure => simp [intOf]; omega
      · have hb : ((k : Int) != (i : Int)) = true := bne_iff_ne.2 (by omega)
        have HN := Lib.hid (show amTo L r i (k + 1) = amTo L r i k + gAB r L[k] by
          unfold amTo
          rw [Hs.out]
          split <;> split <;> omega)
        have hS : -10000 ≤ amTo L r i k ∧ amTo L r i k ≤ 320000 * 24 := by unfold amTo; split <;> omega
        have HQ := Lib.hid (fun W : World => fun (h1 : Rd W W.heap.size 2 Ai r.length (pC r)) (h2 : Rd W W.heap.size 2 Ak (L[k]).length (pC L[k])) => gets_any r L[k] Ai Ak ci ck W h1 h2 hri hrk)
        have Hc3 := Lib.hid (show Rd wr wr.heap.size 2 Ak (L[k]).length (pC L[k]) by rw [HW.out]; exact hc3.drewN nq)
        have Hi4 := Lib.hid (show Rd wr wr.heap.size 2 Ai r.length (pC r) by rw [HW.out]; exact Hi3.out.drewN nq)
        have hq1 : wr.cell? ⟨bi, oi + k, none⟩ = some (.slice Ak (L[k]).length ck) := by rw [HW.out]; exact hc1
        have hq2 : wr.cell? ⟨bi, oi + i, none⟩ = some (.slice Ai r.length ci) := by rw [HW.out]; exact hi1
        generalize amTo L r i k = S at HN hS
        generalize gAB r L[k] = y at HN hgb HQ
        clear hc3 hbd hrk
        generalize hnk : (L[k]).length = nk at hq1 HQ Hc3 hc1
        clear hnk
        have i1 : IntKind.i64.wrap (S + y) = S + y := IntWalk.i64_in _ (by omega)
        go_wp2
        go_quiet ((go_at_call 42; exact Calls.quiet_of (HQ.out _ (Hi4.out.drewN _) (Hc3.out.drewN _))))
        clear i1
        go_wp2
        go_roundw
        case rel => exact ⟨k + 1, _, by omega, by go_num, int_eq HN.out.symm, by rw [HW.out, World.drewN_drewN]⟩
        case measure => simp [intOf]; omega
    · obtain rfl : k = L.length := by omega
      go_wp2
      go_ret
      exact ⟨ret_int hE.out, nq, HW.out⟩

/-! ### Points -/
set_option maxHeartbeats 2000000 in
theorem pointsR_bad (L : List (List Pt)) (A : Option Addr) (c : Nat) (w : World) (hA : RdL w w.heap.size A L) (hn : L.length ≤ 1000) (hlen : ∀ o ∈ L, o.length ≤ 1000) (h : ptsErr L ≠ 0) :
    Calls Tryd.prog 13 #[.slice A L.length c] w fun e w' => e = .returned (.tuple #[.slice none 0 0, .int .i64 (ptsErr L)]) ∧ w' = w := by
  have HA := Lib.hid hA
  have Hlen := Lib.hid hlen
  have Hh := Lib.hid h
  clear hA hlen h
  go_enter Tryd.func13, Tryd.ntmps13
  go_wp2
  go_loop [4] (fun i => ∃ k : Nat, k ≤ L.length ∧ i = .int .i64 (k : Int) ∧ Hid (∀ j (hj : j < L.length), j < k → rightM L[j] = true)) (fun i => L.length - (intOf i).toNat)
  case atStart => exact ⟨0, by omega, rfl, fun j _ h => by omega⟩
  case round =>
    obtain ⟨k, hk, rfl, hok⟩ := hrel
    by_cases hlt : k < L.length
    · obtain ⟨b, off, Ak, ck, rfl, hbw, hc1, hc2, hc3⟩ := HA.out k hlt
      have HQ := Lib.hid (rightR_any L[k] Ak ck w hc3 (Hlen.out _ (List.getElem_mem hlt)))
      clear hc2 hc3
      by_cases hp : rightM L[k] = true
      · have Hp := Lib.hid hp
        rw [hp] at HQ
        clear hp
        generalize (L[k]).length = nk at hc1 HQ
        go_wp2_with fail
        refine HQ.out.mono ?_
        rintro e w1 ⟨rfl, rfl⟩
        go_wp2
        go_round
        case rel =>
          refine ⟨k + 1, by omega, by go_num, fun j hj h => ?_⟩
          by_cases e : j = k
          · subst e; exact Hp.out
          · exact hok.out j hj (by omega)
        case measure => simp [intOf]; omega
      · have hp' : rightM L[k] = false := by simpa using hp
        have HE := Lib.hid (show ptsErr L = 2 by
          unfold ptsErr okAll
          rw [List.all_eq_false.2 ⟨L[k], List.getElem_mem hlt, by simp [hp']⟩]; rfl)
        rw [hp'] at HQ
        clear hp hp'
        generalize (L[k]).length = nk at hc1 HQ
        go_wp2_with fail
        refine HQ.out.mono ?_
        rintro e w1 ⟨rfl, rfl⟩
        go_wp2
        go_ret2
        exact ⟨by rw [HE.out]; rfl, rfl⟩
    · have hall : okAll L = true := by
        unfold okAll; rw [List.all_eq_true]
        intro o ho
        obtain ⟨j, hj, rfl⟩ := List.getElem_of_mem ho
        exact hok.out j hj (by omega)
      have h24 : 24 < L.length := by
        have := Hh.out
        unfold ptsErr at this
        rw [hall] at this
        by_cases h : 24 < L.length
        · exact h
        · rw [if_neg h] at this; exact absurd rfl this
      have HE := Lib.hid (show ptsErr L = 5 by unfold ptsErr; rw [hall, if_pos h24]; rfl)
      clear hall
      go_wp2
      go_ret2
      exact ⟨by rw [HE.out]; rfl, rfl⟩

set_option maxHeartbeats 4000000 in
set_option maxRecDepth 100000 in
theorem pointsR_any (L : List (List Pt)) (A : Option Addr) (c : Nat) (w : World) (hA : RdL w w.heap.size A L) (hn : L.length ≤ 24) (hro : ∀ o ∈ L, rightM o = true) :
    Calls Tryd.prog 13 #[.slice A L.length c] w fun e w' => ∃ v, e = .returned (.tuple #[v, .int .i64 0]) ∧ w'.ownsRow w.heap.size 46 2 v L.length (pC (ptsL L)) ∧ Below w.heap.size w w' := by
  obtain ⟨i0, hi, hz0, hz1, hz2⟩ := info_parts info_frac
  have HA := Lib.hid hA
  have Hro := Lib.hid hro
  clear hA hro
  go_enter Tryd.func13, Tryd.ntmps13
  go_wp2
  go_loop [4] (fun i => ∃ k : Nat, k ≤ L.length ∧ i = .int .i64 (k : Int)) (fun i => L.length - (intOf i).toNat)
  case atStart => exact ⟨0, by omega, rfl⟩
  case round =>
    obtain ⟨k, hk, rfl⟩ := hrel
    by_cases hlt : k < L.length
    · obtain ⟨b, off, Ak, ck, rfl, hbw, hc1, hc2, hc3⟩ := HA.out k hlt
      have hrk := Hro.out _ (List.getElem_mem hlt)
      have HQ := Lib.hid (rightR_any L[k] Ak ck w hc3 (by have := (rightM_iff _).1 hrk; omega))
      rw [hrk] at HQ
      clear hc2 hc3 hrk
      generalize (L[k]).length = nk at hc1 HQ
      go_wp2_with fail
      refine HQ.out.mono ?_
      rintro e w1 ⟨rfl, rfl⟩
      go_wp2
      go_round
      case rel => exact ⟨k + 1, by omega, by go_num⟩
      case measure => simp [intOf]; omega
    · have t0 : decide ((k : Int) < (L.length : Int)) = false := decide_eq_false (by omega)
      go_wp2_with fail
      go_loopw [5, 6] (fun v i wr => ∃ (j : Nat) (xs : List Value), j ≤ L.length ∧ i = .int .i64 (j : Int) ∧ Hid (xs = pC (ptsTo L j)) ∧ wr.ownsRow w.heap.size 46 2 v j xs ∧ Below w.heap.size w wr) (fun _ i _ => L.length - (intOf i).toNat)
      case atStart => exact ⟨0, [], by omega, rfl, rfl, own_nil, Below.refl _ _⟩
      case round =>
        obtain ⟨j, xs, hj, rfl, hxs, hown, hbr⟩ := hrel
        have hsr2 := hbr.size
        by_cases hlt2 : j < L.length
        · have hrk := Hro.out _ (List.getElem_mem hlt2)
          have hfb := gAll_mem L[j] L Hro.out (List.getElem_mem hlt2)
          have hfb2 := gAll_le L[j] L hrk Hro.out
          have Hs := Lib.hid (ptsTo_succ L j hlt2)
          have HQ := Lib.hid (among_any L j A c wr ((HA.out.below hbr).more hsr2) Hro.out hn hlt2)
          have hf := show ptsM L[j] L = fr (gAll L[j] L - 10000) 10000 from rfl
          clear hrk
          generalize gAll L[j] L = y at hfb hfb2 HQ hf
          generalize ptsM L[j] L = f at hf Hs
          have Hf := Lib.hid hf
          clear hf
          obtain ⟨f1, f2⟩ := f
          go_wp2_with fail
          refine HQ.out.mono ?_
          rintro e _ ⟨rfl, nq, rfl⟩
          have hb3 := below_drewN (Below.refl wr.heap.size wr) nq
          generalize wr.drewN nq = w3 at *
          have s3 := hb3.size
          go_wp2_with fail
          refine (reduced_any (y - 10000) 10000 _ (by omega) (by omega)).mono ?_
          rintro e w4 ⟨rfl, hb4⟩
          rw [← Hf.out, show fV (f1, f2) = .agg #[.int .i64 f1, .int .i64 f2] from rfl]
          have hb4' := hb3.trans (hb4.mono s3)
          have s4 := hb4'.size
          have hown4 := own_below hown hb4' (Nat.le_refl _)
          have hbr4 := hbr.trans (hb4'.mono hsr2)
          have s14 := hbr4.size
          clear hb4 hb3 hb4'
          go_wp2_with (at_builtin; refine wpList_append_own _ rfl _ _ 28 rfl w.heap.size 46 i0 (.agg #[.int .i64 0, .int .i64 0]) 2 16 Tryd.underlying28 hi hz0 hz1 hz2 rfl (by decide) _ _ _ rfl (hown4.alloc _) _ 1 1 [.int .i64 f1, .int .i64 f2] rfl rfl ?c1 ?c2 ?c3 ?c4 ?c5 ?_)
          case c1 => exact cells_new_at _ #[.int .i64 f1, .int .i64 f2] _ _ (by simp)
          case c2 => simp [Value.oneCell']
          case c3 => unfold maxLen; omega
          case c4 => omega
          case c5 => simp; omega
          intro v' w5 hown1 hgrow _
          go_wp2
          go_roundw
          case rel =>
            refine ⟨j + 1, _, by omega, by go_num, ?_, hown1, (hbr4.alloc s14 _).grown hgrow (by simp; omega) (fun g hg => (hown4.lt g hg).1)⟩
            show _ = pC (ptsTo L (j + 1)); rw [Hs.out, hxs.out, pC_snoc]
          case measure => simp [intOf]; omega
        · obtain rfl : j = L.length := by omega
          have Hx := Lib.hid (show xs = pC (ptsL L) by rw [hxs.out, ptsTo_all])
          go_wp2
          go_ret2
          exact ⟨_, rfl, by rw [← show _ = _ from Hx.out]; exact hown, hbr⟩

end Go.Proofs.YteemknjnlocgpaaDoor
