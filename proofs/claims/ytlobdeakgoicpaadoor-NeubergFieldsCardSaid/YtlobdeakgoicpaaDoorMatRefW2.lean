/- The walks of the reference of matchpoints: Turn, Compare, Among, Points. -/
import Derived.Test.YtlobdeakgoicpaaDoorMatRefW
import Derived.Test.YtlobdeakgoicpaaDoorMatOwn
import Derived.Deep.AppendLies
import Derived.Deep.CutBlock
import Derived.Deep.DeepMust
import Derived.Deep.DeepCutAuto
namespace Go.Proofs.YtlobdeakgoicpaaDoor
open Go.RowKit

theorem info_rpart : (Tryd.prog.info? 46).map (fun i => (i.zero, i.size, i.bytes)) = some (some (.agg #[.int .i64 0, .int .i64 0]), 2, 16) := by kernel_rfl
theorem blk_drew {w : World} {g : Nat} {x : Option Obj} (h : w.heap[g]? = x) : w.drew.heap[g]? = x := h

/-! ### Turn -/
/-! ### Compare -/
/-! ### Among -/
def amTo (L : List (List Pt)) (r : List Pt) (i k : Nat) : Int := gAllTo r L k - if i < k then 10000 else 0
set_option maxHeartbeats 2000000 in
theorem among_any (L : List (List Pt)) (i : Nat) (A : Option Addr) (c : Nat) (w : World) (hA : RdL w w.heap.size A L) (hro : ∀ o ∈ L, rightM o = true) (hn : L.length ≤ 24) (hi : i < L.length) :
    Calls Tryd.prog 71 #[.slice A L.length c, .int .i64 (i : Int)] w fun e w' => e = .returned (.int .i64 (gAll L[i] L - 10000)) ∧ ∃ n, w' = w.drewN n := by
  obtain ⟨bi, oi, Ai, ci, hAe, hbi, hi1, hi2, hi3⟩ := hA i hi
  have hri := hro _ (List.getElem_mem hi)
  have hE := Lib.hid (show amTo L L[i] i L.length = gAll L[i] L - 10000 by unfold amTo; rw [if_pos hi, gAllTo_all])
  have hself := Lib.hid (gAB_self _ hri)
  obtain ⟨r, hr⟩ : ∃ r, L[i] = r := ⟨_, rfl⟩
  have Hr := Lib.hid hr
  rw [hr] at hi1 hi3 hri hE hself ⊢
  have HA := Lib.hid hA
  have Hro := Lib.hid hro
  have Hi3 := Lib.hid hi3
  subst hAe
  have ii1 : (i : Int) < (L.length : Int) := by omega
  have ii2 : (0 : Int) ≤ (i : Int) := by omega
  clear hA hro hi3 hr
  go_enter Tryd.func71, Tryd.ntmps71
  go_wp2
  go_loopw [5, 6] (fun s j wr => ∃ k nq : Nat, k ≤ L.length ∧ j = .int .i64 (k : Int) ∧ s = .int .i64 (amTo L r i k) ∧ wr = w.drewN nq) (fun _ j _ => L.length - (intOf j).toNat)
  case atStart => exact ⟨0, 0, by omega, rfl, by simp [amTo, gAllTo], rfl⟩
  case round =>
    obtain ⟨k, nq, hk, rfl, rfl, hw⟩ := hrel
    have HW := Lib.hid hw
    clear hw
    by_cases hlt : k < L.length
    · obtain ⟨b, off, Ak, ck, hbe, hbw, hc1, hc2, hc3⟩ := HA.out k hlt
      obtain ⟨rfl, rfl⟩ : bi = b ∧ oi = off := by injection hbe with h; injection h with e1 e2; exact ⟨e1, e2⟩
      have hrk := Hro.out _ (List.getElem_mem hlt)
      have Hs := Lib.hid (gAllTo_succ r L k hlt)
      have hbd := gAllTo_bd r L hri Hro.out k hk
      have hgb := gAB_bd r L[k] hri hrk
      have k1 : (k : Int) < (L.length : Int) := by omega
      have k2 : (0 : Int) ≤ (k : Int) := by omega
      clear hbe
      by_cases e : k = i
      · have hb : ((k : Int) != (i : Int)) = false := by simp [e]
        have HN := Lib.hid (show amTo L r i (k + 1) = amTo L r i k by
          unfold amTo
          rw [Hs.out, if_pos (by omega), if_neg (by omega)]
          have : gAB r L[k] = 10000 := by subst e; rw [Hr.out]; exact hself.out
          omega)
        generalize amTo L r i k = S at HN
        go_wp2
        go_roundw
        case rel => exact ⟨k + 1, nq, by omega, by go_num, int_eq HN.out.symm, HW.out⟩
        case measure => simp [intOf]; omega
      · have hb : ((k : Int) != (i : Int)) = true := bne_iff_ne.2 (by omega)
        have HN := Lib.hid (show amTo L r i (k + 1) = amTo L r i k + gAB r L[k] by
          unfold amTo
          rw [Hs.out]
          split <;> split <;> omega)
        have hS : -10000 ≤ amTo L r i k ∧ amTo L r i k ≤ 320000 * 24 := by unfold amTo; split <;> omega
        have HQ := Lib.hid (fun W : World => fun (h1 : Rd W W.heap.size 2 Ai r.length (pC r)) (h2 : Rd W W.heap.size 2 Ak (L[k]).length (pC L[k])) => gets_any r L[k] Ai Ak ci ck W h1 h2 hri hrk)
        have Hc3 := Lib.hid (show Rd wr wr.heap.size 2 Ak (L[k]).length (pC L[k]) by rw [HW.out]; exact hc3.drewN nq)
        have Hi4 := Lib.hid (show Rd wr wr.heap.size 2 Ai r.length (pC r) by rw [HW.out]; exact Hi3.out.drewN nq)
        have hq1 : wr.cell? ⟨bi, oi + k, none⟩ = some (.slice Ak (L[k]).length ck) := by rw [HW.out]; exact hc1
        have hq2 : wr.cell? ⟨bi, oi + i, none⟩ = some (.slice Ai r.length ci) := by rw [HW.out]; exact hi1
        generalize amTo L r i k = S at HN hS
        generalize gAB r L[k] = y at HN hgb HQ
        clear hc3 hbd hrk
        generalize hnk : (L[k]).length = nk at hq1 HQ Hc3 hc1
        clear hnk
        have i1 : IntKind.i64.wrap (S + y) = S + y := IntWalk.i64_in _ (by omega)
        go_wp2
        go_quiet ((go_at_call 89; exact Calls.quiet_of (HQ.out _ (Hi4.out.drewN _) (Hc3.out.drewN _))))
        clear i1
        go_wp2
        go_roundw
        case rel => exact ⟨k + 1, _, by omega, by go_num, int_eq HN.out.symm, by rw [HW.out, World.drewN_drewN]⟩
        case measure => simp [intOf]; omega
    · obtain rfl : k = L.length := by omega
      go_wp2
      go_ret
      exact ⟨ret_int hE.out, nq, HW.out⟩

/-! ### Points -/
set_option maxHeartbeats 2000000 in
theorem pointsR_bad (L : List (List Pt)) (A : Option Addr) (c : Nat) (w : World) (hA : RdL w w.heap.size A L) (hn : L.length ≤ 1000) (hlen : ∀ o ∈ L, o.length ≤ 1000) (h : ptsErr L ≠ 0) :
    Calls Tryd.prog 49 #[.slice A L.length c] w fun e w' => e = .returned (.tuple #[.slice none 0 0, .int .i64 (ptsErr L)]) ∧ w' = w := by
  have HA := Lib.hid hA
  have Hlen := Lib.hid hlen
  have Hh := Lib.hid h
  clear hA hlen h
  go_enter Tryd.func49, Tryd.ntmps49
  go_wp2
  go_loop [4] (fun i => ∃ k : Nat, k ≤ L.length ∧ i = .int .i64 (k : Int) ∧ Hid (∀ j (hj : j < L.length), j < k → rightM L[j] = true)) (fun i => L.length - (intOf i).toNat)
  case atStart => exact ⟨0, by omega, rfl, fun j _ h => by omega⟩
  case round =>
    obtain ⟨k, hk, rfl, hok⟩ := hrel
    by_cases hlt : k < L.length
    · obtain ⟨b, off, Ak, ck, rfl, hbw, hc1, hc2, hc3⟩ := HA.out k hlt
      have HQ := Lib.hid (rightR_any L[k] Ak ck w hc3 (Hlen.out _ (List.getElem_mem hlt)))
      clear hc2 hc3
      by_cases hp : rightM L[k] = true
      · have Hp := Lib.hid hp
        rw [hp] at HQ
        clear hp
        generalize (L[k]).length = nk at hc1 HQ
        go_wp2_with fail
        refine HQ.out.mono ?_
        rintro e w1 ⟨rfl, rfl⟩
        go_wp2
        go_round
        case rel =>
          refine ⟨k + 1, by omega, by go_num, fun j hj h => ?_⟩
          by_cases e : j = k
          · subst e; exact Hp.out
          · exact hok.out j hj (by omega)
        case measure => simp [intOf]; omega
      · have hp' : rightM L[k] = false := by simpa using hp
        have HE := Lib.hid (show ptsErr L = 2 by
          unfold ptsErr okAll
          rw [List.all_eq_false.2 ⟨L[k], List.getElem_mem hlt, by simp [hp']⟩]; rfl)
        rw [hp'] at HQ
        clear hp hp'
        generalize (L[k]).length = nk at hc1 HQ
        go_wp2_with fail
        refine HQ.out.mono ?_
        rintro e w1 ⟨rfl, rfl⟩
        go_wp2
        go_ret2
        exact ⟨by rw [HE.out]; rfl, rfl⟩
    · have hall : okAll L = true := by
        unfold okAll; rw [List.all_eq_true]
        intro o ho
        obtain ⟨j, hj, rfl⟩ := List.getElem_of_mem ho
        exact hok.out j hj (by omega)
      have h24 : 24 < L.length := by
        have := Hh.out
        unfold ptsErr at this
        rw [hall] at this
        by_cases h : 24 < L.length
        · exact h
        · rw [if_neg h] at this; exact absurd rfl this
      have HE := Lib.hid (show ptsErr L = 5 by unfold ptsErr; rw [hall, if_pos h24]; rfl)
      clear hall
      go_wp2
      go_ret2
      exact ⟨by rw [HE.out]; rfl, rfl⟩

set_option maxHeartbeats 4000000 in
set_option maxRecDepth 100000 in
theorem pointsR_any (L : List (List Pt)) (A : Option Addr) (c : Nat) (w : World) (hA : RdL w w.heap.size A L) (hn : L.length ≤ 24) (hro : ∀ o ∈ L, rightM o = true) :
    Calls Tryd.prog 49 #[.slice A L.length c] w fun e w' => ∃ v, e = .returned (.tuple #[v, .int .i64 0]) ∧ w'.ownsRow w.heap.size 23 2 v L.length (pC (ptsL L)) ∧ Below w.heap.size w w' := by
  obtain ⟨i0, hi, hz0, hz1, hz2⟩ := info_parts info_frac
  have HA := Lib.hid hA
  have Hro := Lib.hid hro
  clear hA hro
  go_enter Tryd.func49, Tryd.ntmps49
  go_wp2
  go_loop [4] (fun i => ∃ k : Nat, k ≤ L.length ∧ i = .int .i64 (k : Int)) (fun i => L.length - (intOf i).toNat)
  case atStart => exact ⟨0, by omega, rfl⟩
  case round =>
    obtain ⟨k, hk, rfl⟩ := hrel
    by_cases hlt : k < L.length
    · obtain ⟨b, off, Ak, ck, rfl, hbw, hc1, hc2, hc3⟩ := HA.out k hlt
      have hrk := Hro.out _ (List.getElem_mem hlt)
      have HQ := Lib.hid (rightR_any L[k] Ak ck w hc3 (by have := (rightM_iff _).1 hrk; omega))
      rw [hrk] at HQ
      clear hc2 hc3 hrk
      generalize (L[k]).length = nk at hc1 HQ
      go_wp2_with fail
      refine HQ.out.mono ?_
      rintro e w1 ⟨rfl, rfl⟩
      go_wp2
      go_round
      case rel => exact ⟨k + 1, by omega, by go_num⟩
      case measure => simp [intOf]; omega
    · have t0 : decide ((k : Int) < (L.length : Int)) = false := decide_eq_false (by omega)
      go_wp2_with fail
      go_loopw [5, 6] (fun v i wr => ∃ (j : Nat) (xs : List Value), j ≤ L.length ∧ i = .int .i64 (j : Int) ∧ Hid (xs = pC (ptsTo L j)) ∧ wr.ownsRow w.heap.size 23 2 v j xs ∧ Below w.heap.size w wr) (fun _ i _ => L.length - (intOf i).toNat)
      case atStart => exact ⟨0, [], by omega, rfl, rfl, own_nil, Below.refl _ _⟩
      case round =>
        obtain ⟨j, xs, hj, rfl, hxs, hown, hbr⟩ := hrel
        have hsr2 := hbr.size
        by_cases hlt2 : j < L.length
        · have hrk := Hro.out _ (List.getElem_mem hlt2)
          have hfb := gAll_mem L[j] L Hro.out (List.getElem_mem hlt2)
          have hfb2 := gAll_le L[j] L hrk Hro.out
          have Hs := Lib.hid (ptsTo_succ L j hlt2)
          have HQ := Lib.hid (among_any L j A c wr ((HA.out.below hbr).more hsr2) Hro.out hn hlt2)
          have hf := show ptsM L[j] L = fr (gAll L[j] L - 10000) 10000 from rfl
          clear hrk
          generalize gAll L[j] L = y at hfb hfb2 HQ hf
          generalize ptsM L[j] L = f at hf Hs
          have Hf := Lib.hid hf
          clear hf
          obtain ⟨f1, f2⟩ := f
          go_wp2_with fail
          refine HQ.out.mono ?_
          rintro e _ ⟨rfl, nq, rfl⟩
          have hb3 := below_drewN (Below.refl wr.heap.size wr) nq
          generalize wr.drewN nq = w3 at *
          have s3 := hb3.size
          go_wp2_with fail
          refine (reduced_any (y - 10000) 10000 _ (by omega) (by omega)).mono ?_
          rintro e w4 ⟨rfl, hb4⟩
          rw [← Hf.out, show fV (f1, f2) = .agg #[.int .i64 f1, .int .i64 f2] from rfl]
          have hb4' := hb3.trans (hb4.mono s3)
          have s4 := hb4'.size
          have hown4 := own_below hown hb4' (Nat.le_refl _)
          have hbr4 := hbr.trans (hb4'.mono hsr2)
          have s14 := hbr4.size
          clear hb4 hb3 hb4'
          go_wp2_with (at_builtin; refine wpList_append_own _ rfl _ _ 38 rfl w.heap.size 23 i0 (.agg #[.int .i64 0, .int .i64 0]) 2 16 Tryd.underlying38 hi hz0 hz1 hz2 rfl (by decide) _ _ _ rfl (hown4.alloc _) _ 1 1 [.int .i64 f1, .int .i64 f2] rfl rfl ?c1 ?c2 ?c3 ?c4 ?c5 ?_)
          case c1 => exact cells_new_at _ #[.int .i64 f1, .int .i64 f2] _ _ (by simp)
          case c2 => simp [Value.oneCell']
          case c3 => unfold maxLen; omega
          case c4 => omega
          case c5 => simp; omega
          intro v' w5 hown1 hgrow _
          go_wp2
          go_roundw
          case rel =>
            refine ⟨j + 1, _, by omega, by go_num, ?_, hown1, (hbr4.alloc s14 _).grown hgrow (by simp; omega) (fun g hg => (hown4.lt g hg).1)⟩
            show _ = pC (ptsTo L (j + 1)); rw [Hs.out, hxs.out, pC_snoc]
          case measure => simp [intOf]; omega
        · obtain rfl : j = L.length := by omega
          have Hx := Lib.hid (show xs = pC (ptsL L) by rw [hxs.out, ptsTo_all])
          go_wp2
          go_ret2
          exact ⟨_, rfl, by rw [← show _ = _ from Hx.out]; exact hown, hbr⟩

end Go.Proofs.YtlobdeakgoicpaaDoor
