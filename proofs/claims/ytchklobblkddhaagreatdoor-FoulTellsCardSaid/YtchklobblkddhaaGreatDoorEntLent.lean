/- The walks of LentEntries and KeptEntries: a slice of entries lent with marks behind it, and whether it was kept. -/
import Derived.Test.YtchklobblkddhaaGreatDoorFouEqW
import Derived.Test.YtchklobblkddhaaGreatDoorFouRow
import Derived.Test.YtchklobblkddhaaGreatDoorFouVal
import Derived.Test.YtchklobblkddhaaGreatDoorAppend
import Derived.Test.YtchklobblkddhaaGreatDoorFouBrdW
import Derived.Deep.AppendLies
namespace Go.Proofs.YtchklobblkddhaaGreatDoor
open Go.RowKit Go.Shelf

/-- All cells of an entry. -/
def fulC (r t b v k f : Int) (tu : Bool) (o : Nat → Oc) (a0 a1 : Int) : Array Value := #[.int .i64 r, .int .i64 t, .int .i64 b, .int .i64 v, .int .u8 k, .int .u8 f, .bool tu, .int .u8 (o 0).l, .int .u8 (o 0).d, .int .u8 (o 0).r, .int .u8 (o 0).s, .int .i64 (o 0).t, .int .i64 (o 0).w, .int .u8 (o 1).l, .int .u8 (o 1).d, .int .u8 (o 1).r, .int .u8 (o 1).s, .int .i64 (o 1).t, .int .i64 (o 1).w, .int .u8 (o 2).l, .int .u8 (o 2).d, .int .u8 (o 2).r, .int .u8 (o 2).s, .int .i64 (o 2).t, .int .i64 (o 2).w, .int .u8 (o 3).l, .int .u8 (o 3).d, .int .u8 (o 3).r, .int .u8 (o 3).s, .int .i64 (o 3).t, .int .i64 (o 3).w, .int .i64 a0, .int .i64 a1]
theorem fulC_ok (r t b v k f : Int) (tu : Bool) (o : Nat → Oc) (a0 a1 : Int) : EnC (fulC r t b v k f tu o a0 a1) k f o a0 a1 := by
  refine ⟨rfl, rfl, rfl, rfl, rfl, fun i hi => ?_⟩
  rcases (show i = 0 ∨ i = 1 ∨ i = 2 ∨ i = 3 by omega) with rfl | rfl | rfl | rfl <;> exact ⟨rfl, rfl, rfl, rfl, rfl, rfl⟩
theorem fulC_one (r t b v k f : Int) (tu : Bool) (o : Nat → Oc) (a0 a1 : Int) : (fulC r t b v k f tu o a0 a1).all (·.oneCell') = true := by simp [fulC, Value.oneCell']
theorem ful7 (r t b v k f : Int) (tu : Bool) (o : Nat → Oc) (a0 a1 : Int) : (fulC r t b v k f tu o a0 a1).extract 7 31 = fourA o := by kernel_rfl
theorem ful31 (r t b v k f : Int) (tu : Bool) (o : Nat → Oc) (a0 a1 : Int) : (fulC r t b v k f tu o a0 a1).extract 31 33 = #[.int .i64 a0, .int .i64 a1] := by kernel_rfl
theorem ocB_refl (x : Oc) : ocB x x = true := by simp [ocB]
/-- An entry is the same as itself. -/
def EqC (C : Array Value) : Prop := ∀ w, (Op.equalIn 10000 51 (.agg C) (.agg C)).run Tryz.prog w = .ok true w
theorem eqC_ful (r t b v k f : Int) (tu : Bool) (o : Nat → Oc) (a0 a1 : Int) : EqC (fulC r t b v k f tu o a0 a1) := fun w => by
  have h4 := eqFour 9995 o o w
  have h2 := eqTwo 9997 a0 a1 a0 a1 w
  rw [ocB_refl, ocB_refl, ocB_refl, ocB_refl] at h4
  have q0 : (fulC r t b v k f tu o a0 a1)[0]? = some (.int .i64 r) := rfl
  have q1 : (fulC r t b v k f tu o a0 a1)[1]? = some (.int .i64 t) := rfl
  have q2 : (fulC r t b v k f tu o a0 a1)[2]? = some (.int .i64 b) := rfl
  have q3 : (fulC r t b v k f tu o a0 a1)[3]? = some (.int .i64 v) := rfl
  have q4 : (fulC r t b v k f tu o a0 a1)[4]? = some (.int .u8 k) := rfl
  have q5 : (fulC r t b v k f tu o a0 a1)[5]? = some (.int .u8 f) := rfl
  have q6 : (fulC r t b v k f tu o a0 a1)[6]? = some (.bool tu) := rfl
  have q7 := ful7 r t b v k f tu o a0 a1
  have q8 := ful31 r t b v k f tu o a0 a1
  rw [run_equalIn_agg w 9999 51 _ _ (by kernel_rfl) (by kernel_rfl)]
  go_simp
/-- A mark. -/
def markE (m : Int) : Ent := ⟨fulC 0 0 m 0 0 0 false (fun _ => ⟨0, 0, 0, 0, 0, 0⟩) 0 0, 0, 0, fun _ => ⟨0, 0, 0, 0, 0, 0⟩, 0, 0⟩
theorem markE_ok (m : Int) : (markE m).Ok := ⟨fulC_ok _ _ _ _ _ _ _ _ _ _, fulC_one _ _ _ _ _ _ _ _ _ _, fun i _ => (show OcOk ⟨0, 0, 0, 0, 0, 0⟩ by unfold OcOk; decide), (show (0 : Int) ≤ 0 ∧ (0 : Int) ≤ 255 by decide), (show (0 : Int) ≤ 0 ∧ (0 : Int) ≤ 255 by decide)⟩
def marksE (k : Nat) : List Ent := (List.range k).map fun (i : Nat) => markE (8000024 + (i : Int))
theorem marksE_succ (k : Nat) : marksE (k + 1) = marksE k ++ [markE (8000024 + (k : Int))] := by unfold marksE; rw [List.range_succ, List.map_append]; rfl
theorem marksE_len (k : Nat) : (marksE k).length = k := by simp [marksE]
theorem marksE_at (k i : Nat) (h : i < (marksE k).length) : (marksE k)[i] = markE (8000024 + (i : Int)) := by simp [marksE]
theorem marksE_ok (k : Nat) : ∀ e ∈ marksE k, e.Ok := fun e he => by
  obtain ⟨i, _, rfl⟩ := List.mem_map.1 he
  exact markE_ok _
theorem enL_appE (L M : List Ent) : enL (L ++ M) = enL L ++ enL M := List.flatMap_append
theorem enL_oneE (L : List Ent) (h : ∀ e ∈ L, e.Ok) : ∀ u ∈ enL L, u.oneCell' = true := fun u hu => by
  obtain ⟨e, he, hue⟩ := List.mem_flatMap.1 hu
  exact Array.all_eq_true_iff_forall_mem.1 (h e he).2.1 u (by simpa using hue)
theorem info_entE : (Tryz.prog.info? 51).map (fun i => (i.zero, i.size, i.bytes)) = some (some (.agg enZ), 33, 152) := by kernel_rfl

set_option maxHeartbeats 400000 in
theorem markI_any (k i : Int) (w : World) (hk : 0 ≤ k ∧ k ≤ 1000) (hi : 0 ≤ i ∧ i ≤ 1000000000) :
    Calls Tryz.prog 27 #[.int .i64 k, .int .i64 i] w fun e w' => e = .returned (.int .i64 (1000003 * (k + 7) + i)) ∧ w = w' := by
  go_enter Tryz.func27, Tryz.ntmps27
  go_wp2
  go_ret
  exact ⟨rfl, rfl⟩

set_option maxRecDepth 100000 in
set_option maxHeartbeats 1000000 in
theorem markEntry_any (i : Int) (w : World) (hi : 0 ≤ i ∧ i ≤ 1000000000) :
    Calls Tryz.prog 15 #[.int .i64 1, .int .i64 i] w fun e w' => e = .returned (.agg (markE (8000024 + i)).C) ∧ Below w.heap.size w w' := by
  have HM := Lib.hid (markI_any 1 i)
  have hm : 1000003 * (1 + 7) + i = 8000024 + i := by omega
  obtain ⟨m, hm2⟩ : ∃ m, 8000024 + i = m := ⟨_, rfl⟩
  rw [hm2]
  rw [hm, hm2] at HM
  clear hm hm2
  have HMo := Lib.hid (markE_ok m)
  have HIm := Lib.hid (show (Tryz.prog.info? 51).map (·.size) = some (markE m).C.size from rfl)
  go_enter Tryz.func15, Tryz.ntmps15
  go_wp2_with (refine plain_alloc_to rfl 51 rfl enZ enZ_zero ?_)
  refine (HM.out _ (by decide) hi).mono ?_
  rintro ee _ ⟨rfl, rfl⟩
  go_wp2_with (first | (refine wpList_build_to rfl 51 _ rfl (markE m).C (by kernel_rfl) ?_) | (refine wpList_store_new23 rfl 51 _ _ rfl (markE m).C _ _ rfl rfl HIm.out rfl HMo.out.2.1 ?_))
  exact bodyPost_ret (v := .agg (markE m).C) (results_cell_row (by rfl) _ _ w.heap.size 51 (markE m).C (0, 0) _ rfl (blk_new _ rfl) Tryz.underlying51 rfl HIm.out) rfl ⟨rfl, (Below.refl _ _).alloc (Nat.le_refl _) _⟩

/-- What a lent slice is: its entries at the head of a row, the marks behind them. -/
def LentE (w : World) (B : Nat) (L : List Ent) (g : Nat) : Prop := w.ownsRow B 51 33 (.slice (some ⟨g, 0, none⟩) (L.length + 12) (L.length + 12)) (L.length + 12) (enL (L ++ marksE 12))
theorem LentE.all {w : World} {B : Nat} {L : List Ent} {g : Nat} (h : LentE w B L g) : Rd w w.heap.size 33 (some ⟨g, 0, none⟩) (L ++ marksE 12).length (enL (L ++ marksE 12)) := by
  have h1 := Rd.of_own h
  rw [show L.length + 12 = (L ++ marksE 12).length by rw [List.length_append, marksE_len]] at h1
  exact h1
theorem LentE.rd {w : World} {B : Nat} {L : List Ent} {g : Nat} (h : LentE w B L g) (hO : ∀ e ∈ L, e.C.size = 33) : Rd w w.heap.size 33 (some ⟨g, 0, none⟩) L.length (enL L) := by
  have h1 := (Rd.of_own h).pre (k := L.length) (by omega)
  rw [enL_appE, List.take_left' (enL_len L hO)] at h1
  exact h1
theorem rd_addE {w : World} {B n : Nat} {A : Option Addr} {xs : List Value} (h : Rd w B 33 A n xs) : ∀ ad, A = some ad → ∀ j u, xs[j]? = some u → w.cell? (ad.add j) = some u := by
  intro ad he j u hj
  have hjl := (List.getElem?_eq_some_iff.1 hj).1
  obtain ⟨b, off, e, hb, hc⟩ := h.pos (by have := h.len; omega)
  obtain rfl := Option.some.inj (he.symm.trans e)
  have := (hc j hjl).trans hj
  unfold Addr.add
  split
  · rename_i h0; subst h0; simpa using this
  · exact this

set_option maxRecDepth 100000 in
set_option maxHeartbeats 2000000 in
theorem lentE_any (L : List Ent) (A : Option Addr) (c : Nat) (w : World) (hO : ∀ e ∈ L, e.Ok) (hl : Rd w w.heap.size 33 A L.length (enL L)) (hA : A = none → c = 0) (hm : L.length ≤ 1000000) :
    Calls Tryz.prog 5 #[.slice A L.length c] w fun e w' => ∃ g, e = .returned (.slice (some ⟨g, 0, none⟩) L.length (L.length + 12)) ∧ LentE w' w.heap.size L g ∧ Below w.heap.size w w' := by
  obtain ⟨i0, hi, hz0, hz1, hz2⟩ := info_parts info_entE
  have hnone : A = none → L.length = 0 ∧ c = 0 := fun h => ⟨(by
    rcases Nat.eq_zero_or_pos L.length with h0 | h0
    · exact h0
    · obtain ⟨b, off, e, _⟩ := hl.pos h0; (rw [h] at e; cases e)), hA h⟩
  have Hl := Lib.hid hl
  have Hnone := Lib.hid hnone
  have HO := Lib.hid hO
  have Hlen := Lib.hid (enL_len L (fun e he => (hO e he).1.1))
  clear hl hnone hA hO
  go_enter Tryz.func5, Tryz.ntmps5
  go_wp2_with (refine wpList_make_own _ rfl _ _ 22 rfl w.heap.size 51 i0 (.agg enZ) 33 Tryz.underlying22 hi hz0 hz1 .i64 .i64 _ (L.length + 12) rfl rfl (by simp) ?b2 ?b3 ?b4 ?_)
  case b2 => rw [hz2]; omega
  case b3 => unfold maxLen; omega
  case b4 => omega
  intro w1 ho1 hg1
  have hb1 : Below w.heap.size w w1 := (Below.refl _ _).grown hg1 (by omega) (fun g hg => by cases hg)
  go_wp2_with (at_builtin; refine wpList_append_fits_any _ rfl _ _ 22 rfl w.heap.size 51 i0 33 Tryz.underlying22 hi hz1 w.heap.size 0 (L.length + 12) [] rfl ho1 A L.length c (enL L) rfl ?c1 ?c2 ?c3 ?c4 ?c5 ?_)
  case c1 => rw [Hlen.out]
  case c2 => exact Hnone.out
  case c3 => exact rd_addE (Hl.out.below hb1)
  case c4 => exact enL_oneE L HO.out
  case c5 => omega
  intro w2 ho2 hg2
  have hb2 : Below w.heap.size w w2 := hb1.grown hg2 (by have := hb1.size; omega) (fun g hg => by cases hg; exact Nat.le_refl _)
  have HO2 := Lib.hid ho2
  have HB2 := Lib.hid hb2
  clear ho2 hb2 hg2 ho1 hg1 hb1
  go_wp2
  go_loopw [3, 4] (fun v i wr => ∃ (k n' : Nat) (xs : List Value), k ≤ 12 ∧ i = .int .i64 (k : Int) ∧ v = .slice (some ⟨w.heap.size, 0, none⟩) n' (L.length + 12) ∧ Hid (n' = L.length + k) ∧ Hid (xs = enL (L ++ marksE k)) ∧ n' + (12 - k) ≤ L.length + 12 ∧
      wr.ownsRow w.heap.size 51 33 (.slice (some ⟨w.heap.size, 0, none⟩) n' (L.length + 12)) n' xs ∧ Below w.heap.size w wr) (fun _ i _ => 12 - (intOf i).toNat)
  case atStart => exact ⟨0, L.length, enL L, by omega, rfl, rfl, (Nat.add_zero _).symm, (by show enL L = _; simp [marksE]), by omega, by simpa using HO2.out, HB2.out⟩
  case round =>
    obtain ⟨k, n', xs, hk, rfl, rfl, hn', hxs, hle, hown, hbel⟩ := hrel
    have Hown := Lib.hid hown
    have Hbel := Lib.hid hbel
    have hsr := hbel.size
    clear hown hbel
    by_cases hlt : k < 12
    · have HMo := Lib.hid (markE_ok (8000024 + (k : Int)))
      have HMk := Lib.hid (fun W => markEntry_any (k : Int) W (by omega))
      have HSn := Lib.hid (show enL (L ++ marksE (k + 1)) = enL (L ++ marksE k) ++ (markE (8000024 + (k : Int))).C.toList by rw [marksE_succ, ← List.append_assoc, enL_appE (L ++ marksE k)]; congr 1)
      have HFi := Lib.hid (fills_one (size := 33) (Z := enZ) (C := (markE (8000024 + (k : Int))).C) HMo.out.1.1)
      have HCl := Lib.hid (show (markE (8000024 + (k : Int))).C.toList.length = 33 by simp [HMo.out.1.1])
      have HCo := Lib.hid (show ∀ u ∈ (markE (8000024 + (k : Int))).C.toList, u.oneCell' = true from fun u hu => Array.all_eq_true_iff_forall_mem.1 HMo.out.2.1 u (by simpa using hu))
      generalize (markE (8000024 + (k : Int))).C = cm at HMk HSn HFi HCl HCo
      have c1 : (0 : Int) ≤ (k : Int) := by omega
      have c2 : (k : Int) < 12 := by omega
      clear HMo
      go_wp2_with fail
      refine (HMk.out _).mono ?_
      rintro ee wa ⟨rfl, hba⟩
      have HOa := Lib.hid (own_below Hown.out hba (Nat.le_refl _))
      have HBa := Lib.hid (Hbel.out.trans (hba.mono hsr))
      have hsa : w.heap.size ≤ wa.heap.size := Nat.le_trans hsr hba.size
      clear hba Hown Hbel
      go_wp2_with (first | (refine wpList_buildSlice_to rfl 22 51 1 _ rfl i0 (.agg enZ) 33 cm Tryz.underlying22 hi hz0 hz1 (by decide) (by decide) ?hf ?_) | (at_builtin; refine wpList_append_fits _ rfl _ _ 22 rfl w.heap.size 51 i0 33 Tryz.underlying22 hi hz1 w.heap.size n' (L.length + 12) xs rfl (HOa.out.alloc _) ⟨wa.heap.size, 0, none⟩ 1 1 cm.toList rfl ?d0 ?d1 ?d2 ?d3 ?_))
      case hf => exact HFi.out
      case d0 => rw [HCl.out]
      case d1 => exact World.news_of_block (blk_new _ rfl)
      case d2 => exact HCo.out
      case d3 => omega
      intro w3 ho3 hg3
      have HO3 := Lib.hid ho3
      have HB3 := Lib.hid ((HBa.out.alloc hsa _).grown hg3 (by simp; omega) (fun g hg => by cases hg; exact Nat.le_refl _))
      clear ho3 hg3
      go_wp2
      go_roundw
      case rel =>
        refine ⟨k + 1, n' + 1, _, by omega, by go_num, rfl, ?_, ?_, by omega, HO3.out, HB3.out⟩
        · show _ = _; rw [hn'.out]; omega
        · show _ = enL (L ++ marksE (k + 1)); rw [HSn.out, ← show _ = _ from hxs.out]
      case measure => simp [intOf]; omega
    · obtain rfl : k = 12 := by omega
      have h1 := hn'.out
      subst h1
      have h2 := hxs.out
      subst h2
      have c1 : (L.length : Int) ≤ (L.length : Int) + 12 := by omega
      go_wp2
      go_ret
      exact ⟨_, rfl, Hown.out, Hbel.out⟩

theorem allE_at (L : List Ent) (k : Nat) (h : k < L.length + 12) : (L ++ marksE 12)[k]'(by rw [List.length_append, marksE_len]; exact h) = if h1 : k < L.length then L[k] else markE (8000024 + ((k : Int) - L.length)) := by
  split
  · rename_i h1; exact List.getElem_append_left h1
  · rename_i h1
    rw [List.getElem_append_right (by omega), marksE_at]
    congr 1; omega

set_option maxRecDepth 100000 in
set_option maxHeartbeats 2000000 in
theorem keptE_any (L : List Ent) (g : Nat) (A : Option Addr) (c : Nat) (w : World) (hO : ∀ e ∈ L, e.Ok) (hE : ∀ e ∈ L, EqC e.C) (hg : Rd w w.heap.size 33 (some ⟨g, 0, none⟩) (L ++ marksE 12).length (enL (L ++ marksE 12))) (hl : Rd w w.heap.size 33 A L.length (enL L)) (hm : L.length ≤ 1000000) :
    Calls Tryz.prog 12 #[.slice (some ⟨g, 0, none⟩) L.length (L.length + 12), .slice A L.length c] w fun e w' => e = .returned (.bool true) ∧ Below w.heap.size w w' := by
  have hlen : (L ++ marksE 12).length = L.length + 12 := by rw [List.length_append, marksE_len]
  have HO := Lib.hid hO
  have HE := Lib.hid hE
  have HG := Lib.hid hg
  have HL := Lib.hid hl
  have hOA : ∀ e ∈ L ++ marksE 12, e.Ok := fun e he => by
    rcases List.mem_append.1 he with h | h
    · exact hO e h
    · exact marksE_ok 12 e h
  have HOA := Lib.hid hOA
  have Hlen := Lib.hid hlen
  clear hO hE hg hl hOA hlen
  have c1 : (L.length : Int) + 12 ≤ (L.length : Int) + 12 := Int.le_refl _
  go_enter Tryz.func12, Tryz.ntmps12
  go_wp2
  go_loopw [6] (fun i wr => ∃ k : Nat, k ≤ L.length + 12 ∧ i = .int .i64 (k : Int) ∧ Below w.heap.size w wr) (fun i _ => L.length + 12 - (intOf i).toNat)
  case atStart => exact ⟨0, by omega, rfl, Below.refl _ _⟩
  case round =>
    obtain ⟨k, hk, rfl, hb⟩ := hrel
    have Hb := Lib.hid hb
    have hsz := hb.size
    clear hb
    by_cases hlt : k < L.length + 12
    · have hkA : k < (L ++ marksE 12).length := by rw [Hlen.out]; exact hlt
      obtain ⟨b1, o1, he1, hw1, hr1⟩ := rd_e (fun e he => (HOA.out e he).1.1) HG.out k hkA
      obtain ⟨rfl, rfl⟩ : g = b1 ∧ 0 = o1 := by injection he1 with he1; injection he1 with e1 e2; exact ⟨e1, e2⟩
      rw [allE_at L k hlt, Nat.zero_add] at hr1
      have hRa := range_below hr1 Hb.out hw1
      have j2 : (0 : Int) ≤ (k : Int) := by omega
      have j3 : (k : Int) < (L.length : Int) + 12 := by omega
      have lg : g < wr.heap.size := Nat.lt_of_lt_of_le hw1 hsz
      clear hr1 he1 hkA
      by_cases h1 : k < L.length
      · obtain ⟨b2, o2, rfl, hw2, hr2⟩ := rd_e (fun e he => (HO.out e he).1.1) HL.out k h1
        rw [dif_pos h1] at hRa
        have hRb := range_below hr2 Hb.out hw2
        have hok := HO.out _ (List.getElem_mem h1)
        have hI := Lib.hid (hok.1.size)
        have HEq := HE.out _ (List.getElem_mem h1)
        unfold EqC at HEq
        have j1 : (k : Int) < (L.length : Int) := by omega
        have t1 : decide ((k : Int) < (L.length : Int)) = true := decide_eq_true j1
        have t2 : decide ((k : Int) ≥ (L.length : Int)) = false := decide_eq_false (by omega)
        have t3 : decide (L.length ≤ k) = false := decide_eq_false (by omega)
        have t4 : decide (k < L.length) = true := decide_eq_true h1
        generalize (L[k]).C = C at hRa hRb hI HEq
        have hS0 := And.intro hRa hRb
        clear hr2 hok hRa hRb
        go_upto_region 7 with fail
        refine wp_region_held_drew (S := (fun wq => wq.rangeAt g (k * 33) C.toList ∧ wq.rangeAt b2 (o2 + k * 33) C.toList)) (by kernel_rfl) hS0 (fun hHeldA => ?_)
        refine take_named23 (i := 0) (d := 23) (v := ?vA0) rfl (by kernel_rfl) (by kernel_rfl) (by kernel_rfl) (by kernel_rfl) (fun _ _ _ h => h) (Or.inl ⟨by kernel_rfl, ?yA0⟩) (by assumption) ?_
        case yA0 => intro wq hSw; (try dsimp only at hSw); go_simp; (try with_reducible rfl)
        (try simp only [Act.put, List.setIfInBounds_toArray, List.set_cons_zero, List.set_cons_succ])
        refine take_named23 (i := 1) (d := 24) (v := ?vA1) rfl (by kernel_rfl) (by kernel_rfl) (by kernel_rfl) (by kernel_rfl) (fun _ _ _ h => h) (Or.inl ⟨by kernel_rfl, ?yA1⟩) (by assumption) ?_
        case yA1 => intro wq hSw; (try dsimp only at hSw); go_simp; (try with_reducible rfl)
        (try simp only [Act.put, List.setIfInBounds_toArray, List.set_cons_zero, List.set_cons_succ])
        refine take_named23 (i := 2) (d := 25) (v := ?vA2) rfl (by kernel_rfl) (by kernel_rfl) (by kernel_rfl) (by kernel_rfl) (fun _ _ _ h => h) (Or.inl ⟨by kernel_rfl, ?yA2⟩) (by assumption) ?_
        case yA2 => intro wq hSw; (try dsimp only at hSw); go_simp; (try with_reducible rfl)
        (try simp only [Act.put, List.setIfInBounds_toArray, List.set_cons_zero, List.set_cons_succ])
        refine take_named23 (i := 3) (d := 26) (v := ?vA3) rfl (by kernel_rfl) (by kernel_rfl) (by kernel_rfl) (by kernel_rfl) (fun _ _ _ h => h) (Or.inl ⟨by kernel_rfl, ?yA3⟩) (by assumption) ?_
        case yA3 => intro wq hSw; (try dsimp only at hSw); go_simp; (try with_reducible rfl)
        (try simp only [Act.put, List.setIfInBounds_toArray, List.set_cons_zero, List.set_cons_succ])
        refine take_named23 (i := 4) (d := 27) (v := ?vA4) rfl (by kernel_rfl) (by kernel_rfl) (by kernel_rfl) (by kernel_rfl) (fun _ _ _ h => h) (Or.inl ⟨by kernel_rfl, ?yA4⟩) (by assumption) ?_
        case yA4 => intro wq hSw; (try dsimp only at hSw); go_simp; (try with_reducible rfl)
        (try simp only [Act.put, List.setIfInBounds_toArray, List.set_cons_zero, List.set_cons_succ])
        refine take_named23 (i := 5) (d := 28) (v := ?vA5) rfl (by kernel_rfl) (by kernel_rfl) (by kernel_rfl) (by kernel_rfl) (fun _ _ _ h => h) (Or.inl ⟨by kernel_rfl, ?yA5⟩) (by assumption) ?_
        case yA5 => intro wq hSw; (try dsimp only at hSw); go_simp; (try with_reducible rfl)
        (try simp only [Act.put, List.setIfInBounds_toArray, List.set_cons_zero, List.set_cons_succ])
        refine take_named23 (i := 6) (d := 29) (v := ?vA6) rfl (by kernel_rfl) (by kernel_rfl) (by kernel_rfl) (by kernel_rfl) (fun _ _ _ h => h) (Or.inl ⟨by kernel_rfl, ?yA6⟩) (by assumption) ?_
        case yA6 => intro wq hSw; (try dsimp only at hSw); go_simp; (try with_reducible rfl)
        (try simp only [Act.put, List.setIfInBounds_toArray, List.set_cons_zero, List.set_cons_succ])
        refine take_named23 (i := 7) (d := 30) (v := ?vA7) rfl (by kernel_rfl) (by kernel_rfl) (by kernel_rfl) (by kernel_rfl) (fun _ _ _ h => h) (Or.inl ⟨by kernel_rfl, ?yA7⟩) (by assumption) ?_
        case yA7 => intro wq hSw; (try dsimp only at hSw); go_simp; (try with_reducible rfl)
        (try simp only [Act.put, List.setIfInBounds_toArray, List.set_cons_zero, List.set_cons_succ])
        refine take_named23 (i := 8) (d := 31) (v := .agg (C.toList).toArray) rfl (by kernel_rfl) (by kernel_rfl) (by kernel_rfl) (by kernel_rfl) (fun _ _ _ h => h) (yieldsIf_load_mid (by kernel_rfl) 51 (.tmp 30) rfl g (k * 33) rfl (C.toList) _ (fun w h => h.1) Tryz.underlying51 rfl hI.out) (by assumption) ?_
        (try simp only [Act.put, List.setIfInBounds_toArray, List.set_cons_zero, List.set_cons_succ])
        (try simp only [Array.toArray_toList])
        refine take_named23 (i := 9) (d := 32) (v := ?vA9) rfl (by kernel_rfl) (by kernel_rfl) (by kernel_rfl) (by kernel_rfl) (fun _ _ _ h => h) (Or.inl ⟨by kernel_rfl, ?yA9⟩) (by assumption) ?_
        case yA9 => intro wq hSw; (try dsimp only at hSw); go_simp; (try with_reducible rfl)
        (try simp only [Act.put, List.setIfInBounds_toArray, List.set_cons_zero, List.set_cons_succ])
        refine take_named23 (i := 10) (d := 33) (v := ?vA10) rfl (by kernel_rfl) (by kernel_rfl) (by kernel_rfl) (by kernel_rfl) (fun _ _ _ h => h) (Or.inl ⟨by kernel_rfl, ?yA10⟩) (by assumption) ?_
        case yA10 => intro wq hSw; (try dsimp only at hSw); go_simp; (try with_reducible rfl)
        (try simp only [Act.put, List.setIfInBounds_toArray, List.set_cons_zero, List.set_cons_succ])
        refine take_named23 (i := 11) (d := 34) (v := ?vA11) rfl (by kernel_rfl) (by kernel_rfl) (by kernel_rfl) (by kernel_rfl) (fun _ _ _ h => h) (Or.inl ⟨by kernel_rfl, ?yA11⟩) (by assumption) ?_
        case yA11 => intro wq hSw; (try dsimp only at hSw); go_simp; (try with_reducible rfl)
        (try simp only [Act.put, List.setIfInBounds_toArray, List.set_cons_zero, List.set_cons_succ])
        refine take_named23 (i := 12) (d := 35) (v := .agg (C.toList).toArray) rfl (by kernel_rfl) (by kernel_rfl) (by kernel_rfl) (by kernel_rfl) (fun _ _ _ h => h) (yieldsIf_load_mid (by kernel_rfl) 51 (.tmp 34) rfl b2 (o2 + k * 33) rfl (C.toList) _ (fun w h => h.2) Tryz.underlying51 rfl hI.out) (by assumption) ?_
        (try simp only [Act.put, List.setIfInBounds_toArray, List.set_cons_zero, List.set_cons_succ])
        (try simp only [Array.toArray_toList])
        refine take_named23 (i := 13) (d := 36) (v := ?vA13) rfl (by kernel_rfl) (by kernel_rfl) (by kernel_rfl) (by kernel_rfl) (fun _ _ _ h => h) (Or.inl ⟨by kernel_rfl, ?yA13⟩) (by assumption) ?_
        case yA13 => intro wq hSw; (try dsimp only at hSw); go_simp; (try with_reducible rfl)
        (try simp only [Act.put, List.setIfInBounds_toArray, List.set_cons_zero, List.set_cons_succ])
        refine take_named23 (i := 14) (d := 37) (v := ?vA14) rfl (by kernel_rfl) (by kernel_rfl) (by kernel_rfl) (by kernel_rfl) (fun _ _ _ h => h) (Or.inl ⟨by kernel_rfl, ?yA14⟩) (by assumption) ?_
        case yA14 => intro wq hSw; (try dsimp only at hSw); go_simp; (try with_reducible rfl)
        (try simp only [Act.put, List.setIfInBounds_toArray, List.set_cons_zero, List.set_cons_succ])
        refine take_named23 (i := 15) (d := 38) (v := ?vA15) rfl (by kernel_rfl) (by kernel_rfl) (by kernel_rfl) (by kernel_rfl) (fun _ _ _ h => h) (Or.inl ⟨by kernel_rfl, ?yA15⟩) (by assumption) ?_
        case yA15 => intro wq hSw; (try dsimp only at hSw); go_simp; (try with_reducible rfl)
        (try simp only [Act.put, List.setIfInBounds_toArray, List.set_cons_zero, List.set_cons_succ])
        refine take_named23 (i := 16) (d := 39) (v := ?vA16) rfl (by kernel_rfl) (by kernel_rfl) (by kernel_rfl) (by kernel_rfl) (fun _ _ _ h => h) (Or.inl ⟨by kernel_rfl, ?yA16⟩) (by assumption) ?_
        case yA16 => intro wq hSw; (try dsimp only at hSw); go_simp; (try with_reducible rfl)
        (try simp only [Act.put, List.setIfInBounds_toArray, List.set_cons_zero, List.set_cons_succ])
        refine take_named23 (i := 17) (d := 40) (v := ?vA17) rfl (by kernel_rfl) (by kernel_rfl) (by kernel_rfl) (by kernel_rfl) (fun _ _ _ h => h) (Or.inl ⟨by kernel_rfl, ?yA17⟩) (by assumption) ?_
        case yA17 => intro wq hSw; (try dsimp only at hSw); go_simp; (try with_reducible rfl)
        (try simp only [Act.put, List.setIfInBounds_toArray, List.set_cons_zero, List.set_cons_succ])
        refine take_named23 (i := 18) (d := 41) (v := ?vA18) rfl (by kernel_rfl) (by kernel_rfl) (by kernel_rfl) (by kernel_rfl) (fun _ _ _ h => h) (Or.inl ⟨by kernel_rfl, ?yA18⟩) (by assumption) ?_
        case yA18 => intro wq hSw; (try dsimp only at hSw); go_simp; (try with_reducible rfl)
        (try simp only [Act.put, List.setIfInBounds_toArray, List.set_cons_zero, List.set_cons_succ])
        refine take_named23 (i := 19) (d := 42) (v := ?vA19) rfl (by kernel_rfl) (by kernel_rfl) (by kernel_rfl) (by kernel_rfl) (fun _ _ _ h => h) (Or.inl ⟨by kernel_rfl, ?yA19⟩) (by assumption) ?_
        case yA19 => intro wq hSw; (try dsimp only at hSw); go_simp; (try with_reducible rfl)
        (try simp only [Act.put, List.setIfInBounds_toArray, List.set_cons_zero, List.set_cons_succ])
        refine take_named23 (i := 20) (d := 43) (v := ?vA20) rfl (by kernel_rfl) (by kernel_rfl) (by kernel_rfl) (by kernel_rfl) (fun _ _ _ h => h) (Or.inl ⟨by kernel_rfl, ?yA20⟩) (by assumption) ?_
        case yA20 => intro wq hSw; (try dsimp only at hSw); go_simp; (try with_reducible rfl)
        (try simp only [Act.put, List.setIfInBounds_toArray, List.set_cons_zero, List.set_cons_succ])
        refine take_named23 (i := 21) (d := 44) (v := ?vA21) rfl (by kernel_rfl) (by kernel_rfl) (by kernel_rfl) (by kernel_rfl) (fun _ _ _ h => h) (Or.inl ⟨by kernel_rfl, ?yA21⟩) (by assumption) ?_
        case yA21 => intro wq hSw; (try dsimp only at hSw); go_simp; (try with_reducible rfl)
        (try simp only [Act.put, List.setIfInBounds_toArray, List.set_cons_zero, List.set_cons_succ])
        refine take_named23 (i := 22) (d := 45) (v := undef) rfl (by kernel_rfl) (by kernel_rfl) (by kernel_rfl) (by kernel_rfl) (fun _ _ _ h => h) (Or.inr ⟨by kernel_rfl, rfl⟩) (by assumption) ?_
        (try simp only [Act.put, List.setIfInBounds_toArray, List.set_cons_zero, List.set_cons_succ])
        refine take_named23 (i := 23) (d := 46) (v := undef) rfl (by kernel_rfl) (by kernel_rfl) (by kernel_rfl) (by kernel_rfl) (fun _ _ _ h => h) (Or.inr ⟨by kernel_rfl, rfl⟩) (by assumption) ?_
        (try simp only [Act.put, List.setIfInBounds_toArray, List.set_cons_zero, List.set_cons_succ])
        refine take_named23 (i := 24) (d := 47) (v := undef) rfl (by kernel_rfl) (by kernel_rfl) (by kernel_rfl) (by kernel_rfl) (fun _ _ _ h => h) (Or.inr ⟨by kernel_rfl, rfl⟩) (by assumption) ?_
        (try simp only [Act.put, List.setIfInBounds_toArray, List.set_cons_zero, List.set_cons_succ])
        refine take_named23 (i := 25) (d := 48) (v := undef) rfl (by kernel_rfl) (by kernel_rfl) (by kernel_rfl) (by kernel_rfl) (fun _ _ _ h => h) (Or.inr ⟨by kernel_rfl, rfl⟩) (by assumption) ?_
        (try simp only [Act.put, List.setIfInBounds_toArray, List.set_cons_zero, List.set_cons_succ])
        refine take_named23 (i := 26) (d := 49) (v := undef) rfl (by kernel_rfl) (by kernel_rfl) (by kernel_rfl) (by kernel_rfl) (fun _ _ _ h => h) (Or.inr ⟨by kernel_rfl, rfl⟩) (by assumption) ?_
        (try simp only [Act.put, List.setIfInBounds_toArray, List.set_cons_zero, List.set_cons_succ])
        refine take_named23 (i := 27) (d := 50) (v := undef) rfl (by kernel_rfl) (by kernel_rfl) (by kernel_rfl) (by kernel_rfl) (fun _ _ _ h => h) (Or.inr ⟨by kernel_rfl, rfl⟩) (by assumption) ?_
        (try simp only [Act.put, List.setIfInBounds_toArray, List.set_cons_zero, List.set_cons_succ])
        refine take_named23 (i := 28) (d := 51) (v := undef) rfl (by kernel_rfl) (by kernel_rfl) (by kernel_rfl) (by kernel_rfl) (fun _ _ _ h => h) (Or.inr ⟨by kernel_rfl, rfl⟩) (by assumption) ?_
        (try simp only [Act.put, List.setIfInBounds_toArray, List.set_cons_zero, List.set_cons_succ])
        refine take_named23 (i := 29) (d := 52) (v := undef) rfl (by kernel_rfl) (by kernel_rfl) (by kernel_rfl) (by kernel_rfl) (fun _ _ _ h => h) (Or.inr ⟨by kernel_rfl, rfl⟩) (by assumption) ?_
        (try simp only [Act.put, List.setIfInBounds_toArray, List.set_cons_zero, List.set_cons_succ])
        refine take_named23 (i := 30) (d := 53) (v := undef) rfl (by kernel_rfl) (by kernel_rfl) (by kernel_rfl) (by kernel_rfl) (fun _ _ _ h => h) (Or.inr ⟨by kernel_rfl, rfl⟩) (by assumption) ?_
        (try simp only [Act.put, List.setIfInBounds_toArray, List.set_cons_zero, List.set_cons_succ])
        refine take_named23 (i := 31) (d := 54) (v := undef) rfl (by kernel_rfl) (by kernel_rfl) (by kernel_rfl) (by kernel_rfl) (fun _ _ _ h => h) (Or.inr ⟨by kernel_rfl, rfl⟩) (by assumption) ?_
        (try simp only [Act.put, List.setIfInBounds_toArray, List.set_cons_zero, List.set_cons_succ])
        refine take_named23 (i := 32) (d := 55) (v := undef) rfl (by kernel_rfl) (by kernel_rfl) (by kernel_rfl) (by kernel_rfl) (fun _ _ _ h => h) (Or.inr ⟨by kernel_rfl, rfl⟩) (by assumption) ?_
        (try simp only [Act.put, List.setIfInBounds_toArray, List.set_cons_zero, List.set_cons_succ])
        refine take_named23 (i := 33) (d := 56) (v := ?vA33) rfl (by kernel_rfl) (by kernel_rfl) (by kernel_rfl) (by kernel_rfl) (fun _ _ _ h => h) (Or.inl ⟨by kernel_rfl, ?yA33⟩) (by assumption) ?_
        case yA33 => intro wq hSw; (try dsimp only at hSw); go_simp; (try with_reducible rfl)
        (try simp only [Act.put, List.setIfInBounds_toArray, List.set_cons_zero, List.set_cons_succ])
        refine take_named23 (i := 34) (d := 57) (v := ?vA34) rfl (by kernel_rfl) (by kernel_rfl) (by kernel_rfl) (by kernel_rfl) (fun _ _ _ h => h) (Or.inl ⟨by kernel_rfl, ?yA34⟩) (by assumption) ?_
        case yA34 => intro wq hSw; (try dsimp only at hSw); go_simp; (try with_reducible rfl)
        (try simp only [Act.put, List.setIfInBounds_toArray, List.set_cons_zero, List.set_cons_succ])
        refine wpAnyH_done (by kernel_rfl) ?_ _
        clear hHeldA
        clear hS0
        go_wp2_with fail
        go_roundw
        case rel => exact ⟨k + 1, by omega, by go_num, Hb.out.drew⟩
        case measure => simp [intOf]; omega
      · rw [dif_neg h1] at hRa
        have hmo := markE_ok (8000024 + ((k : Int) - (L.length : Int)))
        have hI := Lib.hid (hmo.1.size)
        have HEq := eqC_ful 0 0 (8000024 + ((k : Int) - (L.length : Int))) 0 0 0 false (fun _ => ⟨0, 0, 0, 0, 0, 0⟩) 0 0
        have HEq : EqC (markE (8000024 + ((k : Int) - (L.length : Int)))).C := HEq
        have HMk := Lib.hid (fun W => markEntry_any ((k : Int) - (L.length : Int)) W (by omega))
        unfold EqC at HEq
        have t1 : decide ((k : Int) < (L.length : Int)) = false := decide_eq_false (by omega)
        have t2 : decide ((k : Int) ≥ (L.length : Int)) = true := decide_eq_true (by omega)
        have t3 : decide (L.length ≤ k) = true := decide_eq_true (by omega)
        have t4 : decide (k < L.length) = false := decide_eq_false h1
        have i1 : IntKind.i64.wrap ((k : Int) - (L.length : Int)) = (k : Int) - (L.length : Int) := IntWalk.i64_in _ (by omega)
        generalize (markE (8000024 + ((k : Int) - (L.length : Int)))).C = C at hRa hI HEq HMk
        have hS0 := And.intro ((Below.refl wr.heap.size wr).drew) hRa
        have KS := Lib.hid (fun (wq : World) (h : Below wr.heap.size wr wq) => (show wq.rangeAt g (k * 33) C.toList from range_below hRa h lg))
        clear hmo hRa
        go_upto_region 7 with fail
        refine wp_region_held_drew (S := (fun wq => Below wr.heap.size wr wq ∧ wq.rangeAt g (k * 33) C.toList)) (by kernel_rfl) hS0 (fun hHeldB => ?_)
        refine take_named23 (i := 0) (d := 23) (v := ?vB0) rfl (by kernel_rfl) (by kernel_rfl) (by kernel_rfl) (by kernel_rfl) (fun _ _ _ h => h) (Or.inl ⟨by kernel_rfl, ?yB0⟩) (by assumption) ?_
        case yB0 => intro wq hSw; (try dsimp only at hSw); go_simp; (try with_reducible rfl)
        (try simp only [Act.put, List.setIfInBounds_toArray, List.set_cons_zero, List.set_cons_succ])
        refine take_named23 (i := 1) (d := 24) (v := ?vB1) rfl (by kernel_rfl) (by kernel_rfl) (by kernel_rfl) (by kernel_rfl) (fun _ _ _ h => h) (Or.inl ⟨by kernel_rfl, ?yB1⟩) (by assumption) ?_
        case yB1 => intro wq hSw; (try dsimp only at hSw); go_simp; (try with_reducible rfl)
        (try simp only [Act.put, List.setIfInBounds_toArray, List.set_cons_zero, List.set_cons_succ])
        refine take_named23 (i := 2) (d := 25) (v := ?vB2) rfl (by kernel_rfl) (by kernel_rfl) (by kernel_rfl) (by kernel_rfl) (fun _ _ _ h => h) (Or.inl ⟨by kernel_rfl, ?yB2⟩) (by assumption) ?_
        case yB2 => intro wq hSw; (try dsimp only at hSw); go_simp; (try with_reducible rfl)
        (try simp only [Act.put, List.setIfInBounds_toArray, List.set_cons_zero, List.set_cons_succ])
        refine take_named23 (i := 3) (d := 26) (v := ?vB3) rfl (by kernel_rfl) (by kernel_rfl) (by kernel_rfl) (by kernel_rfl) (fun _ _ _ h => h) (Or.inl ⟨by kernel_rfl, ?yB3⟩) (by assumption) ?_
        case yB3 => intro wq hSw; (try dsimp only at hSw); go_simp; (try with_reducible rfl)
        (try simp only [Act.put, List.setIfInBounds_toArray, List.set_cons_zero, List.set_cons_succ])
        refine take_named23 (i := 4) (d := 27) (v := ?vB4) rfl (by kernel_rfl) (by kernel_rfl) (by kernel_rfl) (by kernel_rfl) (fun _ _ _ h => h) (Or.inl ⟨by kernel_rfl, ?yB4⟩) (by assumption) ?_
        case yB4 => intro wq hSw; (try dsimp only at hSw); go_simp; (try with_reducible rfl)
        (try simp only [Act.put, List.setIfInBounds_toArray, List.set_cons_zero, List.set_cons_succ])
        refine take_named23 (i := 5) (d := 28) (v := undef) rfl (by kernel_rfl) (by kernel_rfl) (by kernel_rfl) (by kernel_rfl) (fun _ _ _ h => h) (Or.inr ⟨by kernel_rfl, rfl⟩) (by assumption) ?_
        (try simp only [Act.put, List.setIfInBounds_toArray, List.set_cons_zero, List.set_cons_succ])
        refine take_named23 (i := 6) (d := 29) (v := undef) rfl (by kernel_rfl) (by kernel_rfl) (by kernel_rfl) (by kernel_rfl) (fun _ _ _ h => h) (Or.inr ⟨by kernel_rfl, rfl⟩) (by assumption) ?_
        (try simp only [Act.put, List.setIfInBounds_toArray, List.set_cons_zero, List.set_cons_succ])
        refine take_named23 (i := 7) (d := 30) (v := undef) rfl (by kernel_rfl) (by kernel_rfl) (by kernel_rfl) (by kernel_rfl) (fun _ _ _ h => h) (Or.inr ⟨by kernel_rfl, rfl⟩) (by assumption) ?_
        (try simp only [Act.put, List.setIfInBounds_toArray, List.set_cons_zero, List.set_cons_succ])
        refine take_named23 (i := 8) (d := 31) (v := undef) rfl (by kernel_rfl) (by kernel_rfl) (by kernel_rfl) (by kernel_rfl) (fun _ _ _ h => h) (Or.inr ⟨by kernel_rfl, rfl⟩) (by assumption) ?_
        (try simp only [Act.put, List.setIfInBounds_toArray, List.set_cons_zero, List.set_cons_succ])
        refine take_named23 (i := 9) (d := 32) (v := undef) rfl (by kernel_rfl) (by kernel_rfl) (by kernel_rfl) (by kernel_rfl) (fun _ _ _ h => h) (Or.inr ⟨by kernel_rfl, rfl⟩) (by assumption) ?_
        (try simp only [Act.put, List.setIfInBounds_toArray, List.set_cons_zero, List.set_cons_succ])
        refine take_named23 (i := 10) (d := 33) (v := undef) rfl (by kernel_rfl) (by kernel_rfl) (by kernel_rfl) (by kernel_rfl) (fun _ _ _ h => h) (Or.inr ⟨by kernel_rfl, rfl⟩) (by assumption) ?_
        (try simp only [Act.put, List.setIfInBounds_toArray, List.set_cons_zero, List.set_cons_succ])
        refine take_named23 (i := 11) (d := 34) (v := undef) rfl (by kernel_rfl) (by kernel_rfl) (by kernel_rfl) (by kernel_rfl) (fun _ _ _ h => h) (Or.inr ⟨by kernel_rfl, rfl⟩) (by assumption) ?_
        (try simp only [Act.put, List.setIfInBounds_toArray, List.set_cons_zero, List.set_cons_succ])
        refine take_named23 (i := 12) (d := 35) (v := undef) rfl (by kernel_rfl) (by kernel_rfl) (by kernel_rfl) (by kernel_rfl) (fun _ _ _ h => h) (Or.inr ⟨by kernel_rfl, rfl⟩) (by assumption) ?_
        (try simp only [Act.put, List.setIfInBounds_toArray, List.set_cons_zero, List.set_cons_succ])
        refine take_named23 (i := 13) (d := 36) (v := undef) rfl (by kernel_rfl) (by kernel_rfl) (by kernel_rfl) (by kernel_rfl) (fun _ _ _ h => h) (Or.inr ⟨by kernel_rfl, rfl⟩) (by assumption) ?_
        (try simp only [Act.put, List.setIfInBounds_toArray, List.set_cons_zero, List.set_cons_succ])
        refine take_named23 (i := 14) (d := 37) (v := undef) rfl (by kernel_rfl) (by kernel_rfl) (by kernel_rfl) (by kernel_rfl) (fun _ _ _ h => h) (Or.inr ⟨by kernel_rfl, rfl⟩) (by assumption) ?_
        (try simp only [Act.put, List.setIfInBounds_toArray, List.set_cons_zero, List.set_cons_succ])
        refine take_named23 (i := 15) (d := 38) (v := ?vB15) rfl (by kernel_rfl) (by kernel_rfl) (by kernel_rfl) (by kernel_rfl) (fun _ _ _ h => h) (Or.inl ⟨by kernel_rfl, ?yB15⟩) (by assumption) ?_
        case yB15 => intro wq hSw; (try dsimp only at hSw); go_simp; (try with_reducible rfl)
        (try simp only [Act.put, List.setIfInBounds_toArray, List.set_cons_zero, List.set_cons_succ])
        refine take_named23 (i := 16) (d := 39) (v := ?vB16) rfl (by kernel_rfl) (by kernel_rfl) (by kernel_rfl) (by kernel_rfl) (fun _ _ _ h => h) (Or.inl ⟨by kernel_rfl, ?yB16⟩) (by assumption) ?_
        case yB16 => intro wq hSw; (try dsimp only at hSw); go_simp; (try with_reducible rfl)
        (try simp only [Act.put, List.setIfInBounds_toArray, List.set_cons_zero, List.set_cons_succ])
        refine take_named23 (i := 17) (d := 40) (v := ?vB17) rfl (by kernel_rfl) (by kernel_rfl) (by kernel_rfl) (by kernel_rfl) (fun _ _ _ h => h) (Or.inl ⟨by kernel_rfl, ?yB17⟩) (by assumption) ?_
        case yB17 => intro wq hSw; (try dsimp only at hSw); go_simp; (try with_reducible rfl)
        (try simp only [Act.put, List.setIfInBounds_toArray, List.set_cons_zero, List.set_cons_succ])
        refine take_named23 (i := 18) (d := 41) (v := ?vB18) rfl (by kernel_rfl) (by kernel_rfl) (by kernel_rfl) (by kernel_rfl) (fun _ _ _ h => h) (Or.inl ⟨by kernel_rfl, ?yB18⟩) (by assumption) ?_
        case yB18 => intro wq hSw; (try dsimp only at hSw); go_simp; (try with_reducible rfl)
        (try simp only [Act.put, List.setIfInBounds_toArray, List.set_cons_zero, List.set_cons_succ])
        refine take_named23 (i := 19) (d := 42) (v := ?vB19) rfl (by kernel_rfl) (by kernel_rfl) (by kernel_rfl) (by kernel_rfl) (fun _ _ _ h => h) (Or.inl ⟨by kernel_rfl, ?yB19⟩) (by assumption) ?_
        case yB19 => intro wq hSw; (try dsimp only at hSw); go_simp; (try with_reducible rfl)
        (try simp only [Act.put, List.setIfInBounds_toArray, List.set_cons_zero, List.set_cons_succ])
        refine take_named23 (i := 20) (d := 43) (v := ?vB20) rfl (by kernel_rfl) (by kernel_rfl) (by kernel_rfl) (by kernel_rfl) (fun _ _ _ h => h) (Or.inl ⟨by kernel_rfl, ?yB20⟩) (by assumption) ?_
        case yB20 => intro wq hSw; (try dsimp only at hSw); go_simp; (try with_reducible rfl)
        (try simp only [Act.put, List.setIfInBounds_toArray, List.set_cons_zero, List.set_cons_succ])
        refine take_named23 (i := 21) (d := 44) (v := ?vB21) rfl (by kernel_rfl) (by kernel_rfl) (by kernel_rfl) (by kernel_rfl) (fun _ _ _ h => h) (Or.inl ⟨by kernel_rfl, ?yB21⟩) (by assumption) ?_
        case yB21 => intro wq hSw; (try dsimp only at hSw); go_simp; (try with_reducible rfl)
        (try simp only [Act.put, List.setIfInBounds_toArray, List.set_cons_zero, List.set_cons_succ])
        refine take_named23 (i := 22) (d := 45) (v := ?vB22) rfl (by kernel_rfl) (by kernel_rfl) (by kernel_rfl) (by kernel_rfl) (fun _ _ _ h => h) (Or.inl ⟨by kernel_rfl, ?yB22⟩) (by assumption) ?_
        case yB22 => intro wq hSw; (try dsimp only at hSw); go_simp; (try with_reducible rfl)
        (try simp only [Act.put, List.setIfInBounds_toArray, List.set_cons_zero, List.set_cons_succ])
        refine take_named23 (i := 23) (d := 46) (v := ?vB23) rfl (by kernel_rfl) (by kernel_rfl) (by kernel_rfl) (by kernel_rfl) (fun _ _ _ h => h) (Or.inl ⟨by kernel_rfl, ?yB23⟩) (by assumption) ?_
        case yB23 => intro wq hSw; (try dsimp only at hSw); go_simp; (try with_reducible rfl)
        (try simp only [Act.put, List.setIfInBounds_toArray, List.set_cons_zero, List.set_cons_succ])
        refine take_named23 (i := 24) (d := 47) (v := ?vB24) rfl (by kernel_rfl) (by kernel_rfl) (by kernel_rfl) (by kernel_rfl) (fun _ _ _ h => h) (Or.inl ⟨by kernel_rfl, ?yB24⟩) (by assumption) ?_
        case yB24 => intro wq hSw; (try dsimp only at hSw); go_simp; (try with_reducible rfl)
        (try simp only [Act.put, List.setIfInBounds_toArray, List.set_cons_zero, List.set_cons_succ])
        refine take_named23 (i := 25) (d := 48) (v := .agg (C.toList).toArray) rfl (by kernel_rfl) (by kernel_rfl) (by kernel_rfl) (by kernel_rfl) (fun _ _ _ h => h) (yieldsIf_load_mid (by kernel_rfl) 51 (.tmp 47) rfl g (k * 33) rfl (C.toList) _ (fun w h => h.2) Tryz.underlying51 rfl hI.out) (by assumption) ?_
        (try simp only [Act.put, List.setIfInBounds_toArray, List.set_cons_zero, List.set_cons_succ])
        (try simp only [Array.toArray_toList])
        refine take_named23 (i := 26) (d := 49) (v := ?vB26) rfl (by kernel_rfl) (by kernel_rfl) (by kernel_rfl) (by kernel_rfl) (fun _ _ _ h => h) (Or.inl ⟨by kernel_rfl, ?yB26⟩) (by assumption) ?_
        case yB26 => intro wq hSw; (try dsimp only at hSw); go_simp; (try with_reducible rfl)
        (try simp only [Act.put, List.setIfInBounds_toArray, List.set_cons_zero, List.set_cons_succ])
        refine take_named23 (i := 27) (d := 50) (v := ?vB27) rfl (by kernel_rfl) (by kernel_rfl) (by kernel_rfl) (by kernel_rfl) (fun _ _ _ h => h) (Or.inl ⟨by kernel_rfl, ?yB27⟩) (by assumption) ?_
        case yB27 => intro wq hSw; (try dsimp only at hSw); go_simp; (try with_reducible rfl)
        (try simp only [Act.put, List.setIfInBounds_toArray, List.set_cons_zero, List.set_cons_succ])
        refine take_named23 (i := 28) (d := 51) (v := ?vB28) rfl (by kernel_rfl) (by kernel_rfl) (by kernel_rfl) (by kernel_rfl) (fun _ _ _ h => h) (Or.inl ⟨by kernel_rfl, ?yB28⟩) (by assumption) ?_
        case yB28 => intro wq hSw; (try dsimp only at hSw); go_simp; (try with_reducible rfl)
        (try simp only [Act.put, List.setIfInBounds_toArray, List.set_cons_zero, List.set_cons_succ])
        refine take_named23 (i := 29) (d := 52) (v := ?vB29) rfl (by kernel_rfl) (by kernel_rfl) (by kernel_rfl) (by kernel_rfl) (fun _ _ _ h => h) (Or.inl ⟨by kernel_rfl, ?yB29⟩) (by assumption) ?_
        case yB29 => intro wq hSw; (try dsimp only at hSw); go_simp; (try with_reducible rfl)
        (try simp only [Act.put, List.setIfInBounds_toArray, List.set_cons_zero, List.set_cons_succ])
        refine wpAnyH_ready (rs := [30]) (by kernel_rfl) (by simp) ?_
        refine AllReadyH.cons rfl (fun K hK => ?_) AllReadyH.nil
        go_simp
        refine (HMk.out _).mono ?_
        rintro ee wq1 ⟨rfl, hbq1⟩
        refine hK.out _ _ (⟨hHeldB.1.trans (hbq1.mono hHeldB.1.size), KS.out _ (hHeldB.1.trans (hbq1.mono hHeldB.1.size))⟩) (fun hHeldB30 => ?_)
        clear hK K hHeldB
        (try simp only [Act.put, List.setIfInBounds_toArray, List.set_cons_zero, List.set_cons_succ])
        refine take_named23 (i := 31) (d := 54) (v := ?vB31) rfl (by kernel_rfl) (by kernel_rfl) (by kernel_rfl) (by kernel_rfl) (fun _ _ _ h => h) (Or.inl ⟨by kernel_rfl, ?yB31⟩) (by assumption) ?_
        case yB31 => intro wq hSw; (try dsimp only at hSw); go_simp; (try with_reducible rfl)
        (try simp only [Act.put, List.setIfInBounds_toArray, List.set_cons_zero, List.set_cons_succ])
        refine take_named23 (i := 32) (d := 55) (v := ?vB32) rfl (by kernel_rfl) (by kernel_rfl) (by kernel_rfl) (by kernel_rfl) (fun _ _ _ h => h) (Or.inl ⟨by kernel_rfl, ?yB32⟩) (by assumption) ?_
        case yB32 => intro wq hSw; (try dsimp only at hSw); go_simp; (try with_reducible rfl)
        (try simp only [Act.put, List.setIfInBounds_toArray, List.set_cons_zero, List.set_cons_succ])
        refine take_named23 (i := 33) (d := 56) (v := ?vB33) rfl (by kernel_rfl) (by kernel_rfl) (by kernel_rfl) (by kernel_rfl) (fun _ _ _ h => h) (Or.inl ⟨by kernel_rfl, ?yB33⟩) (by assumption) ?_
        case yB33 => intro wq hSw; (try dsimp only at hSw); go_simp; (try with_reducible rfl)
        (try simp only [Act.put, List.setIfInBounds_toArray, List.set_cons_zero, List.set_cons_succ])
        refine take_named23 (i := 34) (d := 57) (v := ?vB34) rfl (by kernel_rfl) (by kernel_rfl) (by kernel_rfl) (by kernel_rfl) (fun _ _ _ h => h) (Or.inl ⟨by kernel_rfl, ?yB34⟩) (by assumption) ?_
        case yB34 => intro wq hSw; (try dsimp only at hSw); go_simp; (try with_reducible rfl)
        (try simp only [Act.put, List.setIfInBounds_toArray, List.set_cons_zero, List.set_cons_succ])
        have hbN := hHeldB30.1
        refine wpAnyH_done (by kernel_rfl) ?_ _
        clear hHeldB30
        clear hS0 i1
        go_wp2_with fail
        go_roundw
        case rel => exact ⟨k + 1, by omega, by go_num, Hb.out.trans (hbN.mono hsz)⟩
        case measure => simp [intOf]; omega
    · obtain rfl : k = L.length + 12 := by omega
      go_wp2
      go_ret
      exact ⟨rfl, Hb.out⟩

end Go.Proofs.YtchklobblkddhaaGreatDoor
