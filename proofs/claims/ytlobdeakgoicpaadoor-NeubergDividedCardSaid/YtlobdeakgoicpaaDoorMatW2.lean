/- The walks of the package match: the matchpoints of results. -/
import Derived.Test.YtlobdeakgoicpaaDoorMatW
import Derived.Test.YtlobdeakgoicpaaDoorMatLaw
namespace Go.Proofs.YtlobdeakgoicpaaDoor
open Go.RowKit

/-! ### Slices of results -/
/-- The slice with address A reads as the results L; each of them, and the slice, lies in blocks below B. -/
def RdL (w : World) (B : Nat) (A : Option Addr) (L : List (List Pt)) : Prop :=
  ∀ k (h : k < L.length), ∃ b off Ak ck, A = some ⟨b, off, none⟩ ∧ b < B ∧ w.cell? ⟨b, off + k, none⟩ = some (.slice Ak (L[k]).length ck) ∧ (Ak = none → ck = 0) ∧ Rd w B 2 Ak (L[k]).length (pC L[k])
theorem RdL.below {w w' : World} {B : Nat} {A : Option Addr} {L : List (List Pt)} (h : RdL w B A L) (hb : Below B w w') : RdL w' B A L := fun k hk => by
  obtain ⟨b, off, Ak, ck, h1, h2, h3, h4, h5⟩ := h k hk
  exact ⟨b, off, Ak, ck, h1, h2, (bcell hb _ _ h2).trans h3, h4, h5.below hb⟩
theorem RdL.more {w : World} {B B' : Nat} {A : Option Addr} {L : List (List Pt)} (h : RdL w B A L) (hB : B ≤ B') : RdL w B' A L := fun k hk => by
  obtain ⟨b, off, Ak, ck, h1, h2, h3, h4, h5⟩ := h k hk
  exact ⟨b, off, Ak, ck, h1, by omega, h3, h4, h5.more hB⟩
theorem RdL.go {w w' : World} {A : Option Addr} {L : List (List Pt)} (h : RdL w w.heap.size A L) (hb : Below w.heap.size w w') : RdL w' w'.heap.size A L := (h.below hb).more hb.size
theorem Rd.go {w w' : World} {sz n : Nat} {A : Option Addr} {xs : List Value} (h : Rd w w.heap.size sz A n xs) (hb : Below w.heap.size w w') : Rd w' w'.heap.size sz A n xs := (h.below hb).more hb.size

set_option maxHeartbeats 1000000 in
theorem points1_any (r o : List Pt) (R O : Option Addr) (cr co g : Nat) (w : World) (hL : Laid w) (hg : w.heap[g]? = some (.cells #[.slice R r.length cr] 35)) (hr : Rd w w.heap.size 2 R r.length (pC r)) (ho : Rd w w.heap.size 2 O o.length (pC o)) (hrr : rightM r = true) (hro : rightM o = true) :
    Calls Tryd.prog 54 #[.slice O o.length co, .pointer (some ⟨g, 0, none⟩)] w fun e w' => e = .returned (.int .i64 (gAB r o)) ∧ Below w.heap.size w w' := by
  have hc := blk_cell hg 0
  have HS := Lib.hid (against_any r o R O cr co w hL hr ho hrr hro)
  clear hL hg hr ho hrr hro
  go_enter Tryd.func54, Tryd.ntmps54
  go_wp2_with fail
  refine HS.out.mono ?_
  rintro e w1 ⟨rfl, hb1⟩
  go_wp2
  go_ret
  exact ⟨rfl, hb1⟩

set_option maxHeartbeats 1000000 in
theorem sumR_any (r : List Pt) (L : List (List Pt)) (R A : Option Addr) (cr c g : Nat) (w : World) (hL : Laid w) (hg : w.heap[g]? = some (.cells #[.slice R r.length cr] 35)) (hr : Rd w w.heap.size 2 R r.length (pC r)) (hA : RdL w w.heap.size A L) (hrr : rightM r = true) (hro : ∀ o ∈ L, rightM o = true) (hn : L.length ≤ 1000) :
    Calls Tryd.prog 53 #[.slice A L.length c, .func (.func 54) #[] #[.pointer (some ⟨g, 0, none⟩)]] w fun e w' => e = .returned (.int .i64 (gAll r L)) ∧ Below w.heap.size w w' := by
  have hglt := blk_lt hg
  have HL := Lib.hid hL
  have Hg := Lib.hid hg
  have HA := Lib.hid hA
  have Hro := Lib.hid hro
  have h0 := hL.lt
  clear hL hg hA hro
  go_enter Tryd.func53, Tryd.ntmps53
  go_wp2
  go_loopw [5, 10] (fun s i wr => ∃ k : Nat, k ≤ L.length ∧ i = .int .i64 (k : Int) ∧ s = .int .i64 (gAllTo r L k) ∧ Below w.heap.size w wr) (fun _ i _ => L.length - (intOf i).toNat)
  case atStart => exact ⟨0, by omega, rfl, rfl, Below.refl _ _⟩
  case round =>
    obtain ⟨k, hk, rfl, rfl, hbel⟩ := hrel
    have hsr := hbel.size
    by_cases hlt : k < L.length
    · obtain ⟨b, off, Ak, ck, rfl, hbw, hc1, hc2, hc3⟩ := HA.out k hlt
      have hd1 := (bcell hbel b (off + k) hbw).trans hc1
      have hsb := gAllTo_bd r L hrr Hro.out k hk
      have hrk := Hro.out _ (List.getElem_mem hlt)
      have hfb := gAB_bd r L[k] hrr hrk
      have Hs := Lib.hid (gAllTo_succ r L k hlt)
      have HQ := Lib.hid (points1_any r L[k] R Ak cr ck g wr (HL.out.below hbel h0) (blk_below Hg.out hbel hglt) ((hr.below hbel).more hsr) ((hc3.below hbel).more hsr) hrr hrk)
      clear hc1 hc2 hc3 hrk
      generalize gAB r L[k] = y at hfb Hs HQ
      generalize (L[k]).length = nk at hd1 HQ
      go_wp2_with fail
      refine HQ.out.mono ?_
      rintro e w1 ⟨rfl, hb1⟩
      have hb2 : Below w.heap.size w w1 := hbel.trans (hb1.mono hsr)
      go_wp2
      go_roundw
      case rel => exact ⟨k + 1, by omega, by go_num, int_eq Hs.out.symm, hb2⟩
      case measure => simp [intOf]; omega
    · obtain rfl : k = L.length := by omega
      have Hs := Lib.hid (gAllTo_all r L)
      go_wp2
      go_ret
      exact ⟨ret_int Hs.out, hbel⟩

/-! ### Points -/
def ptsTo (L : List (List Pt)) (k : Nat) : List Pt := (L.take k).map fun r => ptsM r L
theorem ptsTo_succ (L : List (List Pt)) (k : Nat) (h : k < L.length) : ptsTo L (k + 1) = ptsTo L k ++ [ptsM L[k] L] := by
  unfold ptsTo; rw [List.take_succ_eq_append_getElem h, List.map_append]; rfl
/-- The matchpoints of all results. -/
def ptsL (L : List (List Pt)) : List Pt := L.map fun r => ptsM r L
theorem ptsTo_all (L : List (List Pt)) : ptsTo L L.length = ptsL L := by unfold ptsTo ptsL; rw [List.take_length]
theorem ptsL_len (L : List (List Pt)) : (ptsL L).length = L.length := by simp [ptsL]
theorem info_frac : (Tryd.prog.info? 23).map (fun i => (i.zero, i.size, i.bytes)) = some (some (.agg #[.int .i64 0, .int .i64 0]), 2, 16) := by kernel_rfl
/-- The error of results: 2 if one of them is not right, 5 if there are too many. -/
def ptsErr (L : List (List Pt)) : Int := if okAll L then (if 24 < L.length then 5 else 0) else 2

set_option maxHeartbeats 2000000 in
theorem points_bad (L : List (List Pt)) (A : Option Addr) (c : Nat) (w : World) (hA : RdL w w.heap.size A L) (hn : L.length ≤ 1000) (hlen : ∀ o ∈ L, o.length ≤ 1000) (h : ptsErr L ≠ 0) :
    Calls Tryd.prog 28 #[.slice A L.length c] w fun e w' => e = .returned (.tuple #[.slice none 0 0, .int .i64 (ptsErr L)]) ∧ Below w.heap.size w w' := by
  have HA := Lib.hid hA
  have Hlen := Lib.hid hlen
  have Hh := Lib.hid h
  clear hA hlen h
  go_enter Tryd.func28, Tryd.ntmps28
  go_wp2
  go_loopw [14] (fun i wr => ∃ k : Nat, k ≤ L.length ∧ i = .int .i64 (k : Int) ∧ Hid (∀ j (hj : j < L.length), j < k → rightM L[j] = true) ∧ Below w.heap.size w wr) (fun i _ => L.length - (intOf i).toNat)
  case atStart => exact ⟨0, by omega, rfl, fun j _ h => by omega, Below.refl _ _⟩
  case round =>
    obtain ⟨k, hk, rfl, hok, hbel⟩ := hrel
    have hsr := hbel.size
    by_cases hlt : k < L.length
    · obtain ⟨b, off, Ak, ck, rfl, hbw, hc1, hc2, hc3⟩ := HA.out k hlt
      have hd1 := (bcell hbel b (off + k) hbw).trans hc1
      have HQ := Lib.hid (rightM_any L[k] Ak ck wr ((hc3.below hbel).more hsr) (by have := Hlen.out _ (List.getElem_mem hlt); omega))
      clear hc1 hc2 hc3
      by_cases hp : rightM L[k] = true
      · have Hp := Lib.hid hp
        rw [hp] at HQ
        clear hp
        generalize (L[k]).length = nk at hd1 HQ
        go_wp2_with fail
        refine HQ.out.mono ?_
        rintro e w1 ⟨rfl, hb1⟩
        have hb2 : Below w.heap.size w w1 := hbel.trans (hb1.mono hsr)
        go_wp2
        go_roundw
        case rel =>
          refine ⟨k + 1, by omega, by go_num, fun j hj h => ?_, hb2⟩
          by_cases e : j = k
          · subst e; exact Hp.out
          · exact hok.out j hj (by omega)
        case measure => simp [intOf]; omega
      · have hp' : rightM L[k] = false := by simpa using hp
        have HE := Lib.hid (show ptsErr L = 2 by
          unfold ptsErr okAll
          rw [List.all_eq_false.2 ⟨L[k], List.getElem_mem hlt, by simp [hp']⟩]; rfl)
        rw [hp'] at HQ
        clear hp hp'
        generalize (L[k]).length = nk at hd1 HQ
        go_wp2_with fail
        refine HQ.out.mono ?_
        rintro e w1 ⟨rfl, hb1⟩
        have hb2 : Below w.heap.size w w1 := hbel.trans (hb1.mono hsr)
        go_wp2
        go_ret2
        exact ⟨by rw [HE.out]; rfl, hb2⟩
    · have hall : okAll L = true := by
        unfold okAll; rw [List.all_eq_true]
        intro o ho
        obtain ⟨j, hj, rfl⟩ := List.getElem_of_mem ho
        exact hok.out j hj (by omega)
      have h24 : 24 < L.length := by
        have := Hh.out
        unfold ptsErr at this
        rw [hall] at this
        by_cases h : 24 < L.length
        · exact h
        · rw [if_neg h] at this; exact absurd rfl this
      have HE := Lib.hid (show ptsErr L = 5 by unfold ptsErr; rw [hall, if_pos h24]; rfl)
      clear hall
      go_wp2
      go_ret2
      exact ⟨by rw [HE.out]; rfl, hbel⟩

set_option maxHeartbeats 4000000 in
set_option maxRecDepth 100000 in
theorem points_any (L : List (List Pt)) (A : Option Addr) (c : Nat) (w : World) (hL : Laid w) (hA : RdL w w.heap.size A L) (hn : L.length ≤ 24) (hro : ∀ o ∈ L, rightM o = true) :
    Calls Tryd.prog 28 #[.slice A L.length c] w fun e w' => ∃ v, e = .returned (.tuple #[v, .int .i64 0]) ∧ w'.ownsRow w.heap.size 23 2 v L.length (pC (ptsL L)) ∧ Below w.heap.size w w' := by
  obtain ⟨i0, hi, hz0, hz1, hz2⟩ := info_parts info_frac
  have HL := Lib.hid hL
  have HA := Lib.hid hA
  have Hro := Lib.hid hro
  have h0 := hL.lt
  clear hL hA hro
  go_enter Tryd.func28, Tryd.ntmps28
  go_wp2
  go_loopw [14] (fun i wr => ∃ k : Nat, k ≤ L.length ∧ i = .int .i64 (k : Int) ∧ Below w.heap.size w wr) (fun i _ => L.length - (intOf i).toNat)
  case atStart => exact ⟨0, by omega, rfl, Below.refl _ _⟩
  case round =>
    obtain ⟨k, hk, rfl, hbel⟩ := hrel
    have hsr := hbel.size
    by_cases hlt : k < L.length
    · obtain ⟨b, off, Ak, ck, rfl, hbw, hc1, hc2, hc3⟩ := HA.out k hlt
      have hd1 := (bcell hbel b (off + k) hbw).trans hc1
      have hrk := Hro.out _ (List.getElem_mem hlt)
      have HQ := Lib.hid (rightM_any L[k] Ak ck wr ((hc3.below hbel).more hsr) (by have := (rightM_iff _).1 hrk; omega))
      rw [hrk] at HQ
      clear hc1 hc2 hc3 hrk
      generalize (L[k]).length = nk at hd1 HQ
      go_wp2_with fail
      refine HQ.out.mono ?_
      rintro e w1 ⟨rfl, hb1⟩
      have hb2 : Below w.heap.size w w1 := hbel.trans (hb1.mono hsr)
      go_wp2
      go_roundw
      case rel => exact ⟨k + 1, by omega, by go_num, hb2⟩
      case measure => simp [intOf]; omega
    · have t0 : decide ((k : Int) < (L.length : Int)) = false := decide_eq_false (by omega)
      obtain ⟨w1, rfl⟩ : ∃ w1 : World, w1 = wr := ⟨_, rfl⟩
      have HL1 := Lib.hid (HL.out.below hbel h0)
      have HA1 := Lib.hid ((HA.out.below hbel).more hsr)
      clear HL HA
      go_wp2_with (refine wpList_make_own _ rfl _ _ 38 rfl w1.heap.size 23 i0 (.agg #[.int .i64 0, .int .i64 0]) 2 Tryd.underlying38 hi hz0 hz1 .i64 .i64 _ L.length rfl rfl (by simp) ?b2 ?b3 ?b4 ?_)
      case b2 => rw [hz2]; omega
      case b3 => unfold maxLen; omega
      case b4 => omega
      intro w2 ho2 hg2
      have hb2 : Below w1.heap.size w1 w2 := (Below.refl _ _).grown hg2 (by omega) (fun g hg => by cases hg)
      go_wp2_with fail
      go_loopw [6, 30] (fun v i wr => ∃ (j : Nat) (xs : List Value), j ≤ L.length ∧ i = .int .i64 (j : Int) ∧ Hid (xs = pC (ptsTo L j)) ∧ wr.ownsRow w1.heap.size 23 2 v j xs ∧ Below w1.heap.size w1 wr) (fun _ i _ => L.length - (intOf i).toNat)
      case atStart => exact ⟨0, [], by omega, rfl, rfl, ho2, hb2⟩
      case round =>
        obtain ⟨j, xs, hj, rfl, hxs, hown, hbr⟩ := hrel
        have hsr2 := hbr.size
        by_cases hlt2 : j < L.length
        · obtain ⟨b, off, Ak, ck, rfl, hbw, hc1, hc2, hc3⟩ := HA1.out j hlt2
          have hd1 := (bcell hbr b (off + j) hbw).trans hc1
          have hrk := Hro.out _ (List.getElem_mem hlt2)
          have hfb := gAll_mem L[j] L Hro.out (List.getElem_mem hlt2)
          have hfb2 := gAll_le L[j] L hrk Hro.out
          have Hs := Lib.hid (ptsTo_succ L j hlt2)
          have hW0 : Below wr.heap.size wr (wr.alloc (.cells #[.slice Ak (L[j]).length ck] 35)) := (Below.refl _ _).alloc (Nat.le_refl _) _
          have HQ := Lib.hid (sumR_any L[j] L Ak (some ⟨b, off, none⟩) ck c wr.heap.size (wr.alloc (.cells #[.slice Ak (L[j]).length ck] 35)) ((HL1.out.below hbr HL1.out.lt).below hW0 (HL1.out.below hbr HL1.out.lt).lt) (blk_new _ rfl)
            ((((hc3.below hbr).more hsr2).below hW0).more hW0.size) ((((HA1.out.below hbr).more hsr2).below hW0).more hW0.size) hrk Hro.out (by omega))
          have hf := show ptsM L[j] L = fr (gAll L[j] L - 10000) 10000 from rfl
          clear hc1 hc2 hc3 hrk
          generalize gAll L[j] L = y at hfb hfb2 HQ hf
          generalize (L[j]).length = nk at hd1 HQ hW0
          generalize ptsM L[j] L = f at hf Hs
          have Hf := Lib.hid hf
          clear hf
          obtain ⟨f1, f2⟩ := f
          go_wp2_with fail
          refine HQ.out.mono ?_
          rintro e w3 ⟨rfl, hb3⟩
          have hb3' := hW0.trans (hb3.mono hW0.size)
          have s3 := hb3'.size
          clear hb3
          go_wp2_with fail
          refine (make_pos (y - 10000) 10000 _ (by omega) (by omega)).mono ?_
          rintro e w4 ⟨rfl, hb4⟩
          rw [← Hf.out]
          have hb4' := hb3'.trans (hb4.mono s3)
          have s4 := hb4'.size
          have hown4 := own_below hown hb4' (Nat.le_refl _)
          have hbr4 := hbr.trans (hb4'.mono hsr2)
          have s14 := hbr4.size
          clear hb4 hb3' hb4' hW0
          go_wp2_with (at_builtin; refine wpList_append_own _ rfl _ _ 38 rfl w1.heap.size 23 i0 (.agg #[.int .i64 0, .int .i64 0]) 2 16 Tryd.underlying38 hi hz0 hz1 hz2 rfl (by decide) _ _ _ rfl ((hown4.alloc _).alloc _) _ 1 1 [.int .i64 f1, .int .i64 f2] rfl rfl ?c1 ?c2 ?c3 ?c4 ?c5 ?_)
          case c1 => exact cells_new_at _ #[.int .i64 f1, .int .i64 f2] _ _ (by simp)
          case c2 => simp [Value.oneCell']
          case c3 => unfold maxLen; omega
          case c4 => omega
          case c5 => simp; omega
          intro v' w5 hown1 hgrow _
          go_wp2
          go_roundw
          case rel =>
            refine ⟨j + 1, _, by omega, by go_num, ?_, hown1, ((hbr4.alloc s14 _).alloc (by simp; omega) _).grown hgrow (by simp; omega) (fun g hg => (hown4.lt g hg).1)⟩
            show _ = pC (ptsTo L (j + 1)); rw [Hs.out, hxs.out, pC_snoc]
          case measure => simp [intOf]; omega
        · obtain rfl : j = L.length := by omega
          have hB := hbel.trans (hbr.mono hsr)
          have Hx := Lib.hid (show xs = pC (ptsL L) by rw [hxs.out, ptsTo_all])
          go_wp2
          go_ret2
          exact ⟨_, rfl, by rw [← show _ = _ from Hx.out]; exact own_mono hown hsr, hB⟩

end Go.Proofs.YtlobdeakgoicpaaDoor
