/- The walks of matches: imp.Match, imp.Running, their helpers, and the reference. -/
import Derived.Test.YtkkemdjeobnpfaaDoorImpW
import Derived.Deep.QuietTactic
import Derived.BigQuiet
import Derived.Deep.RegionHeld3
namespace Go.Proofs.YtkkemdjeobnpfaaDoor
open Go.RowKit

/-- The cells of boards. -/
def bCells (l : List (Int × Int)) : List Value := l.flatMap fun b => [.int .i64 b.1, .int .i64 b.2]

theorem bCells_len (l : List (Int × Int)) : (bCells l).length = l.length * 2 := by
  induction l with
  | nil => rfl
  | cons b l ih => simp [bCells] at ih ⊢; omega
theorem bCells_get (l : List (Int × Int)) : ∀ (k : Nat) (h : k < l.length), (bCells l)[k * 2]? = some (.int .i64 l[k].1) ∧ (bCells l)[k * 2 + 1]? = some (.int .i64 l[k].2) := by
  induction l with
  | nil => intro k h; simp at h
  | cons b l ih =>
    intro k h
    have e : bCells (b :: l) = [.int .i64 b.1, .int .i64 b.2] ++ bCells l := rfl
    rw [e]
    cases k with
    | zero => exact ⟨rfl, rfl⟩
    | succ k =>
      have := ih k (by simpa using h)
      rw [List.getElem?_append_right (by simp; omega), List.getElem?_append_right (by simp; omega)]
      simpa [show (k + 1) * 2 - 2 = k * 2 by omega, show (k + 1) * 2 + 1 - 2 = k * 2 + 1 by omega] using this
/-- The two cells of board k. -/
theorem rd_board {w : World} {B : Nat} {A : Option Addr} {l : List (Int × Int)} (h : Rd w B 2 A l.length (bCells l)) (k : Nat) (hk : k < l.length) :
    ∃ b off, A = some ⟨b, off, none⟩ ∧ b < B ∧ w.cell? ⟨b, off + k * 2, none⟩ = some (.int .i64 l[k].1) ∧ w.cell? ⟨b, off + k * 2 + 1, none⟩ = some (.int .i64 l[k].2) := by
  obtain ⟨b, off, e, hb, hc⟩ := h.pos (by omega)
  have hl := bCells_len l
  obtain ⟨h1, h2⟩ := bCells_get l k hk
  exact ⟨b, off, e, hb, (hc (k * 2) (by omega)).trans h1, by rw [Nat.add_assoc]; exact (hc (k * 2 + 1) (by omega)).trans h2⟩

def addW (t : Int × Int) (x : Int) : Int × Int := if 0 < x then (t.1 + x, t.2) else (t.1, t.2 - x)
set_option maxHeartbeats 400000 in
/-- The closure of imp.Match. -/
theorem matchF_any (t0 t1 x : Int) (w : World) (hx : -24 ≤ x ∧ x ≤ 24) (h0 : 0 ≤ t0 ∧ t0 ≤ 10000) (h1 : 0 ≤ t1 ∧ t1 ≤ 10000) :
    Calls Tryd.prog 26 #[.agg #[.int .i64 t0, .int .i64 t1], .int .i64 x] w fun e w' => e = .returned (.agg #[.int .i64 (t0 + max x 0), .int .i64 (t1 + max (-x) 0)]) ∧ Below w.heap.size w w' := by
  by_cases hp : 0 < x
  · rw [show t0 + max x 0 = t0 + x by omega, show t1 + max (-x) 0 = t1 by omega]
    go_enter Tryd.func26, Tryd.ntmps26
    go_wp2
    exact bodyPost_ret (v := .agg #[.int .i64 (t0 + x), .int .i64 t1]) (by simp [results, Tryd.results26, go_sem]) rfl ⟨rfl, (by repeat (first | exact Below.refl _ _ | assumption | refine Below.drew ?_ | refine below_drewN ?_ _ | refine Below.alloc ?_ (by first | omega | (simp; done) | (simp; omega)) _ | refine Below.setCell ?_ (by first | omega | (simp; done) | (simp; omega)) _))⟩
  · rw [show t0 + max x 0 = t0 by omega, show t1 + max (-x) 0 = t1 - x by omega]
    go_enter Tryd.func26, Tryd.ntmps26
    go_wp2
    exact bodyPost_ret (v := .agg #[.int .i64 t0, .int .i64 (t1 - x)]) (by simp [results, Tryd.results26, go_sem]) rfl ⟨rfl, (by repeat (first | exact Below.refl _ _ | assumption | refine Below.drew ?_ | refine below_drewN ?_ _ | refine Below.alloc ?_ (by first | omega | (simp; done) | (simp; omega)) _ | refine Below.setCell ?_ (by first | omega | (simp; done) | (simp; omega)) _))⟩

set_option maxHeartbeats 400000 in
/-- The loop of imp.Match. -/
theorem matchTotal_any (l : List (Int × Int)) (A : Option Addr) (c : Nat) (w : World) (hg : Laid w) (hl : Rd w w.heap.size 2 A l.length (bCells l)) (hm : l.length ≤ 4611686018427387904) :
    Calls Tryd.prog 25 #[.slice A l.length c, .agg #[.int .i64 0, .int .i64 0], .func (.func 26) #[] #[]] w fun e w' =>
      e = .returned (.tuple #[.agg #[.int .i64 (wonV l), .int .i64 (lostV l)], .int .i64 (matchE l)]) ∧ Below w.heap.size w w' := by
  by_cases h128 : 128 < l.length
  · have he : matchE l = 5 := by simp [matchE, h128]
    have hw : wonV l = 0 := by simp [wonV, he]
    have hlo : lostV l = 0 := by simp [lostV, he]
    rw [he, hw, hlo]; clear he hw hlo
    go_enter Tryd.func25, Tryd.ntmps25
    go_wp2
    exact bodyPost_ret (v := .tuple #[.agg #[.int .i64 0, .int .i64 0], .int .i64 5]) (by simp [results, Tryd.results25, go_sem]) rfl ⟨rfl, (by repeat (first | exact Below.refl _ _ | assumption | refine Below.drew ?_ | refine below_drewN ?_ _ | refine Below.alloc ?_ (by first | omega | (simp; done) | (simp; omega)) _ | refine Below.setCell ?_ (by first | omega | (simp; done) | (simp; omega)) _))⟩
  go_enter Tryd.func25, Tryd.ntmps25
  go_wp2
  go_loopw [19] (fun i wr => ∃ k : Nat, k ≤ l.length ∧ i = .int .i64 (k : Int) ∧ Hid (∀ j (h : j < l.length), j < k → okB l[j]) ∧
      wr.heap[w.heap.size]? = some (.cells #[.int .i64 (wonUpto l k), .int .i64 (lostUpto l k)] 51) ∧ wr.heap[w.heap.size + 1]? = some (.cells #[.int .i64 0, .int .i64 0] 51) ∧
      wr.heap[w.heap.size + 1 + 1]? = some (.cells #[.int .i64 0, .int .i64 0] 51) ∧ Below w.heap.size w wr) (fun i _ => l.length - (intOf i).toNat)
  case atStart =>
    refine ⟨0, by omega, rfl, fun j _ h => by omega, ?_, ?_, ?_, (by repeat (first | exact Below.refl _ _ | assumption | refine Below.drew ?_ | refine below_drewN ?_ _ | refine Below.alloc ?_ (by first | omega | (simp; done) | (simp; omega)) _ | refine Below.setCell ?_ (by first | omega | (simp; done) | (simp; omega)) _))⟩
    · exact blk_alloc (blk_alloc (heap_alloc_new _ _) _) _
    · exact blk_alloc (blk_new _ (by simp)) _
    · exact blk_new _ (by simp)
  case round =>
    obtain ⟨k, hk, rfl, hok, hb1, hb2, hb3, hbel⟩ := hrel
    by_cases hlt : k < l.length
    · obtain ⟨b, off, rfl, hbw, hc1, hc2⟩ := rd_board hl k hlt
      have hd1 := (bcell hbel b (off + k * 2) hbw).trans hc1
      have hd2 := (bcell hbel b (off + k * 2 + 1) hbw).trans hc2
      have Hlaid := Lib.hid (hg.below hbel hg.lt)
      have hlt1 := blk_lt hb3
      have hsw := swingV_bd l[k].1 l[k].2
      have hub : 0 ≤ wonUpto l k ∧ wonUpto l k ≤ 24 * k ∧ 0 ≤ lostUpto l k ∧ lostUpto l k ≤ 24 * k := by have := upto_bd l k hk; omega
      have hm' : l.length ≤ 128 := by omega
      have Hb1 := Lib.hid hb1
      have Hb2 := Lib.hid hb2
      have Hb3 := Lib.hid hb3
      clear hb1 hb2 hb3 hc1 hc2
      go_wp2_with fail
      refine (swing_any _ _ _ (Hlaid.out.below ((Below.refl _ _).alloc (Nat.le_refl _) _) (by omega))).mono ?_
      rintro e w1 ⟨rfl, hb⟩
      have hbel1 : Below w.heap.size w w1 := (hbel.alloc (by omega) _).trans (hb.mono (by simp; omega))
      have hB1 : w1.heap[w.heap.size]? = _ := blk_below (blk_alloc Hb1.out _) hb (by simp; omega)
      have hB2 : w1.heap[w.heap.size + 1]? = _ := blk_below (blk_alloc Hb2.out _) hb (by simp; omega)
      have hB3 : w1.heap[w.heap.size + 1 + 1]? = _ := blk_below (blk_alloc Hb3.out _) hb (by simp; omega)
      by_cases hk' : okB l[k]
      · have he := Lib.hid (swing_ok hk')
        have hx0 : w1.cell? ⟨w.heap.size, 0, none⟩ = some (.int .i64 (wonUpto l k)) := blk_cell hB1 0
        have hx1 : w1.cell? ⟨w.heap.size, 1, none⟩ = some (.int .i64 (lostUpto l k)) := blk_cell hB1 1
        have HB1 := Lib.hid hB1
        have HB2 := Lib.hid hB2
        have HB3 := Lib.hid hB3
        clear hB1 hB2 hB3
        rw [he.out]
        go_wp2_with fail
        refine (matchF_any _ _ _ _ hsw (by omega) (by omega)).mono ?_
        rintro e w2 ⟨rfl, hbb⟩
        have hbel2 : Below w.heap.size w w2 := hbel1.trans (hbb.mono (by have := hb.size; simp at this; omega))
        have hlt2 := blk_lt HB3.out
        have hC1 : w2.heap[w.heap.size]? = _ := blk_below HB1.out hbb (by omega)
        have hC2 : w2.heap[w.heap.size + 1]? = _ := blk_below HB2.out hbb (by omega)
        have hC3 : w2.heap[w.heap.size + 1 + 1]? = _ := blk_below HB3.out hbb (by omega)
        have hy0 : w2.cell? ⟨w.heap.size, 0, none⟩ = some (.int .i64 (wonUpto l k)) := blk_cell hC1 0
        have hy1 : w2.cell? ⟨w.heap.size, 1, none⟩ = some (.int .i64 (lostUpto l k)) := blk_cell hC1 1
        have hyf : ∀ i, w2.frozen? ⟨w.heap.size, i, none⟩ = false := blk_free hC1
        have HC1 := Lib.hid hC1
        have HC2 := Lib.hid hC2
        have HC3 := Lib.hid hC3
        clear hC1 hC2 hC3
        go_wp2
        go_roundw
        case rel =>
          refine ⟨k + 1, by omega, by go_num, fun j h hj => ?_, ?_, blk_far (blk_far HC2.out (by simp) _) (by simp) _, blk_far (blk_far HC3.out (by simp; omega) _) (by simp; omega) _, (by repeat (first | exact Below.refl _ _ | assumption | refine Below.drew ?_ | refine below_drewN ?_ _ | refine Below.alloc ?_ (by first | omega | (simp; done) | (simp; omega)) _ | refine Below.setCell ?_ (by first | omega | (simp; done) | (simp; omega)) _))⟩
          · by_cases e : j = k
            · subst e; exact hk'
            · exact hok.out j h (by omega)
          · rw [wonUpto_succ l k hlt, lostUpto_succ l k hlt]
            exact blk_set (blk_set HC1.out _ _) _ _
        case measure => simp [intOf]; omega
      · have he := Lib.hid (swing_bad hk')
        have hfin := matchE_bad h128 k hlt hk'
        have hfw : wonV l = 0 := by simp [wonV, hfin]
        have hfl : lostV l = 0 := by simp [lostV, hfin]
        have Hfin := Lib.hid hfin
        have Hfw := Lib.hid hfw
        have Hfl := Lib.hid hfl
        have hx0 : w1.cell? ⟨w.heap.size + 1 + 1, 0, none⟩ = some (.int .i64 0) := blk_cell hB3 0
        have hx1 : w1.cell? ⟨w.heap.size + 1 + 1, 1, none⟩ = some (.int .i64 0) := blk_cell hB3 1
        have hz0 : w1.cell? ⟨w.heap.size + 1, 0, none⟩ = some (.int .i64 0) := blk_cell hB2 0
        have hz1 : w1.cell? ⟨w.heap.size + 1, 1, none⟩ = some (.int .i64 0) := blk_cell hB2 1
        have hzf : ∀ i, w1.frozen? ⟨w.heap.size + 1, i, none⟩ = false := blk_free hB2
        clear hB1 hB2 hB3 hfin hfw hfl
        rw [he.out]
        go_wp2
        exact bodyPost_ret (v := .tuple #[.agg #[.int .i64 0, .int .i64 0], .int .i64 190]) (by simp [results, Tryd.results25, go_sem, hz0, hz1]) rfl ⟨by rw [Hfin.out, Hfw.out, Hfl.out], (by repeat (first | exact Below.refl _ _ | assumption | refine Below.drew ?_ | refine below_drewN ?_ _ | refine Below.alloc ?_ (by first | omega | (simp; done) | (simp; omega)) _ | refine Below.setCell ?_ (by first | omega | (simp; done) | (simp; omega)) _))⟩
    · obtain rfl : k = l.length := by omega
      have hfin := matchE_ok h128 (okAll_of hok.out)
      have hfw : wonV l = wonUpto l l.length := by simp [wonV, hfin]
      have hfl : lostV l = lostUpto l l.length := by simp [lostV, hfin]
      have Hfin := Lib.hid hfin
      have Hfw := Lib.hid hfw
      have Hfl := Lib.hid hfl
      have hx0 : wr.cell? ⟨w.heap.size, 0, none⟩ = some (.int .i64 (wonUpto l l.length)) := blk_cell hb1 0
      have hx1 : wr.cell? ⟨w.heap.size, 1, none⟩ = some (.int .i64 (lostUpto l l.length)) := blk_cell hb1 1
      have hz0 : wr.cell? ⟨w.heap.size + 1, 0, none⟩ = some (.int .i64 0) := blk_cell hb2 0
      have hz1 : wr.cell? ⟨w.heap.size + 1, 1, none⟩ = some (.int .i64 0) := blk_cell hb2 1
      have hzf : ∀ i, wr.frozen? ⟨w.heap.size + 1, i, none⟩ = false := blk_free hb2
      clear hb1 hb2 hb3 hfin hfw hfl
      go_wp2
      exact bodyPost_ret (v := .tuple #[.agg #[.int .i64 (wonUpto l l.length), .int .i64 (lostUpto l l.length)], .int .i64 0]) (by simp [results, Tryd.results25, go_sem, hz0, hz1]) rfl ⟨by rw [Hfin.out, Hfw.out, Hfl.out], (by repeat (first | exact Below.refl _ _ | assumption | refine Below.drew ?_ | refine below_drewN ?_ _ | refine Below.alloc ?_ (by first | omega | (simp; done) | (simp; omega)) _ | refine Below.setCell ?_ (by first | omega | (simp; done) | (simp; omega)) _))⟩

set_option maxHeartbeats 400000 in
/-- imp.Match returns what both teams win. -/
theorem match_any (l : List (Int × Int)) (A : Option Addr) (c : Nat) (w : World) (hg : Laid w) (hl : Rd w w.heap.size 2 A l.length (bCells l)) (hm : l.length ≤ 4611686018427387904) :
    Calls Tryd.prog 20 #[.slice A l.length c] w fun e w' => e = .returned (.tuple #[.int .i64 (wonV l), .int .i64 (lostV l), .int .i64 (matchE l)]) ∧ Below w.heap.size w w' := by
  go_enter Tryd.func20, Tryd.ntmps20
  go_wp2_with fail
  refine (matchTotal_any l A c w hg hl hm).mono ?_
  rintro e w1 ⟨rfl, hb⟩
  go_wp2
  go_quiet (fail)
  go_wp2
  go_ret3
  have hsz := hb.size
  exact ⟨rfl, (by repeat (first | exact Below.refl _ _ | assumption | refine Below.drew ?_ | refine below_drewN ?_ _ | refine Below.alloc ?_ (by first | omega | (simp; done) | (simp; omega)) _ | refine Below.setCell ?_ (by first | omega | (simp; done) | (simp; omega)) _))⟩

set_option maxHeartbeats 400000 in
/-- The closure of imp.Running: it adds to the captured sum, and appends it. -/
theorem runF_any (v : Value) (n : Nat) (xs : List Value) (x s : Int) (g base : Nat) (w : World) (hown : w.ownsRow base 3 1 v n xs) (hgc : w.heap[g]? = some (.cells #[.int .i64 s] 3)) (hgb : g < base) (hbs : base ≤ w.heap.size)
    (hx : -24 ≤ x ∧ x ≤ 24) (hs : -10000 ≤ s ∧ s ≤ 10000) (hn : n ≤ 1000) :
    Calls Tryd.prog 28 #[v, .int .i64 x, .pointer (some ⟨g, 0, none⟩)] w fun e w' => ∃ v', e = .returned v' ∧ w'.ownsRow base 3 1 v' (n + 1) (xs ++ [.int .i64 (s + x)]) ∧ 
      Below base (w.setCell ⟨g, 0, none⟩ (.int .i64 (s + x))) w' := by
  obtain ⟨i0, hi, hz0, hz1, hz2⟩ := info_parts info_int
  have hc := blk_cell hgc 0
  have hf := blk_free hgc
  go_enter Tryd.func28, Tryd.ntmps28
  go_wp2_with (at_builtin; refine wpList_append_own _ rfl _ _ 36 rfl base 3 i0 (.int .i64 0) 1 8 Tryd.underlying36 hi hz0 hz1 hz2 rfl (by decide) _ _ _ rfl ((ownsRow_setCell_below hown hgb _).alloc _) _ 1 1 [.int .i64 (s + x)] rfl rfl ?c1 ?c2 ?c3 ?c4 ?c5 ?_)
  case c1 => exact cell_one_at _ _ _ _ (by simp)
  case c2 => simp [Value.oneCell']
  case c3 => unfold maxLen; omega
  case c4 => omega
  case c5 => simp; omega
  intro v' w1 hown1 hgrow _
  go_wp2
  go_ret
  exact ⟨_, rfl, hown1, ((Below.refl _ _).alloc (by simpa using hbs) _).grown hgrow (by simp; omega) (fun k hk => (hown.lt k hk).1)⟩

theorem runCells_succ (l : List (Int × Int)) (k : Nat) : (runL l (k + 1)).map (Value.int .i64) = (runL l k).map (Value.int .i64) ++ [.int .i64 (runUpto l (k + 1))] := by rw [runL_succ, List.map_append]; rfl

set_option maxHeartbeats 1000000 in
/-- The loop of imp.Running. -/
theorem runTotal_any (l : List (Int × Int)) (A : Option Addr) (c g : Nat) (w : World) (hg : Laid w) (h0 : 0 < g) (hl : Rd w g 2 A l.length (bCells l)) (hm : l.length ≤ 4611686018427387904)
    (hgc : w.heap[g]? = some (.cells #[.int .i64 0] 3)) :
    Calls Tryd.prog 27 #[.slice A l.length c, .slice none 0 0, .func (.func 28) #[] #[.pointer (some ⟨g, 0, none⟩)]] w fun e w' =>
      ∃ v, e = .returned (.tuple #[v, .int .i64 (matchE l)]) ∧ w'.ownsRow w.heap.size 3 1 v (runV l).length ((runV l).map (Value.int .i64)) ∧ Below g w w' := by
  have hgw := blk_lt hgc
  by_cases h128 : 128 < l.length
  · have he : matchE l = 5 := by simp [matchE, h128]
    have hw : runV l = [] := by simp [runV, he]
    rw [he, hw]; clear he hw hgc
    go_enter Tryd.func27, Tryd.ntmps27
    go_wp2
    go_ret2
    exact ⟨_, rfl, own_nil, (by repeat (first | exact Below.refl _ _ | assumption | refine Below.drew ?_ | refine below_drewN ?_ _ | refine Below.alloc ?_ (by first | omega | (simp; done) | (simp; omega)) _ | refine Below.setCell ?_ (by first | omega | (simp; done) | (simp; omega)) _))⟩
  have Hgc := Lib.hid hgc
  clear hgc
  go_enter Tryd.func27, Tryd.ntmps27
  go_wp2
  go_loopw [1, 19] (fun v i wr => ∃ (k : Nat) (xs : List Value), k ≤ l.length ∧ i = .int .i64 (k : Int) ∧ Hid (∀ j (h : j < l.length), j < k → okB l[j]) ∧ Hid (xs = (runL l k).map (Value.int .i64)) ∧
      wr.ownsRow w.heap.size 3 1 v k xs ∧ wr.heap[g]? = some (.cells #[.int .i64 (runUpto l k)] 3) ∧ Below g w wr ∧ w.heap.size ≤ wr.heap.size) (fun _ i _ => l.length - (intOf i).toNat)
  case atStart => exact ⟨0, [], by omega, rfl, fun j _ h => by omega, rfl, own_nil, Hgc.out, Below.refl _ _, Nat.le_refl _⟩
  case round =>
    obtain ⟨k, xs, hk, rfl, hok, hxs, hown, hb1, hbel, hsz⟩ := hrel
    by_cases hlt : k < l.length
    · obtain ⟨b, off, rfl, hbw, hc1, hc2⟩ := rd_board hl k hlt
      have hd1 := (bcell hbel b (off + k * 2) hbw).trans hc1
      have hd2 := (bcell hbel b (off + k * 2 + 1) hbw).trans hc2
      have Hlaid := Lib.hid (hg.below hbel h0)
      have hsw := swingV_bd l[k].1 l[k].2
      have hub : -24 * (k : Int) ≤ runUpto l k ∧ runUpto l k ≤ 24 * k := by have := upto_bd l k hk; omega
      have hm' : l.length ≤ 128 := by omega
      have Hb1 := Lib.hid hb1
      clear hb1 hc1 hc2
      go_wp2_with fail
      refine (swing_any _ _ _ (Hlaid.out.below ((Below.refl _ _).alloc (Nat.le_refl _) _) (by omega))).mono ?_
      rintro e w1 ⟨rfl, hb⟩
      have hbel1 : Below g w w1 := (hbel.alloc (by omega) _).trans (hb.mono (by simp; omega))
      have hB1 : w1.heap[g]? = _ := blk_below (blk_alloc Hb1.out _) hb (by simp; omega)
      have hown1 := own_below (hown.alloc _) hb (Nat.le_refl _)
      by_cases hk' : okB l[k]
      · have he := Lib.hid (swing_ok hk')
        have HB1 := Lib.hid hB1
        clear hB1
        have hs1 := hb.size
        simp at hs1
        rw [he.out]
        go_wp2_with fail
        refine (runF_any _ k xs _ (runUpto l k) g w.heap.size _ hown1 HB1.out hgw (by omega) hsw (by omega) (by omega)).mono ?_
        rintro e w2 ⟨v', rfl, hown2, hbb⟩
        have Hrs := Lib.hid (runUpto_succ l k hlt)
        have hC1 := blk_below (blk_set HB1.out 0 (.int .i64 (runUpto l k + swingV l[k].1 l[k].2))) hbb hgw
        have HC1 := Lib.hid hC1
        clear hC1
        go_wp2
        go_roundw
        case rel =>
          refine ⟨k + 1, _, by omega, by go_num, fun j h hj => ?_, ?_, hown2, ?_, (hbel1.setCell (Nat.le_refl _) _).trans (hbb.mono (by omega)), ?_⟩
          · by_cases e : j = k
            · subst e; exact hk'
            · exact hok.out j h (by omega)
          · rw [runCells_succ, Hrs.out, hxs.out]; exact rfl
          · rw [Hrs.out]; exact HC1.out
          · have := hbb.size; simp [World.setCell] at this; omega
        case measure => simp [intOf]; omega
      · have he := Lib.hid (swing_bad hk')
        have hfin := matchE_bad h128 k hlt hk'
        have hfw : runV l = [] := by simp [runV, hfin]
        have Hfin := Lib.hid hfin
        have Hfw := Lib.hid hfw
        clear hB1 hfin hfw
        rw [he.out]
        go_wp2
        go_ret2
        exact ⟨_, by rw [Hfin.out]; rfl, by rw [Hfw.out]; exact own_nil, (by repeat (first | exact Below.refl _ _ | assumption | refine Below.drew ?_ | refine below_drewN ?_ _ | refine Below.alloc ?_ (by first | omega | (simp; done) | (simp; omega)) _ | refine Below.setCell ?_ (by first | omega | (simp; done) | (simp; omega)) _))⟩
    · obtain rfl : k = l.length := by omega
      have hfin := matchE_ok h128 (okAll_of hok.out)
      have hfw : runV l = runL l l.length := by simp [runV, hfin]
      have Hfin := Lib.hid hfin
      have Hfw := Lib.hid hfw
      clear hb1 hfin hfw
      go_wp2
      go_ret2
      exact ⟨_, by rw [Hfin.out]; rfl, by rw [Hfw.out, runL_len, ← show _ = _ from hxs.out]; exact hown, (by repeat (first | exact Below.refl _ _ | assumption | refine Below.drew ?_ | refine below_drewN ?_ _ | refine Below.alloc ?_ (by first | omega | (simp; done) | (simp; omega)) _ | refine Below.setCell ?_ (by first | omega | (simp; done) | (simp; omega)) _))⟩

set_option maxHeartbeats 400000 in
/-- imp.Running returns the running sums, in a new slice. -/
theorem running_any (l : List (Int × Int)) (A : Option Addr) (c : Nat) (w : World) (hg : Laid w) (hl : Rd w w.heap.size 2 A l.length (bCells l)) (hm : l.length ≤ 4611686018427387904) :
    Calls Tryd.prog 21 #[.slice A l.length c] w fun e w' => ∃ v, e = .returned (.tuple #[v, .int .i64 (matchE l)]) ∧ w'.ownsRow w.heap.size 3 1 v (runV l).length ((runV l).map (Value.int .i64)) ∧ Below w.heap.size w w' := by
  have h0 := hg.lt
  go_enter Tryd.func21, Tryd.ntmps21
  go_wp2_with fail
  refine (runTotal_any l A c w.heap.size _ (hg.below ((Below.refl _ _).alloc (Nat.le_refl _) _) h0) h0 (hl.alloc (Nat.le_refl _) _) hm (heap_alloc_new _ _)).mono ?_
  rintro e w1 ⟨v, rfl, hown, hb⟩
  go_wp2
  go_ret2
  exact ⟨_, rfl, own_mono hown (by simp), ((Below.refl _ _).alloc (Nat.le_refl _) _).trans hb⟩

/-! ### The reference -/
theorem rd_int {w : World} {B : Nat} {A : Option Addr} {l : List Int} (h : Rd w B 1 A l.length (l.map (Value.int .i64))) (k : Nat) (hk : k < l.length) :
    ∃ b off, A = some ⟨b, off, none⟩ ∧ b < B ∧ w.cell? ⟨b, off + k, none⟩ = some (.int .i64 l[k]) := by
  obtain ⟨b, off, e, hb, hc⟩ := h.pos (by omega)
  exact ⟨b, off, e, hb, by rw [hc k (by simpa using hk)]; simp [List.getElem?_map, List.getElem?_eq_getElem hk]⟩

set_option maxHeartbeats 1000000 in
/-- finesseref19.Running. -/
theorem runref_any (l : List (Int × Int)) (A1 A2 : Option Addr) (c1 c2 : Nat) (w : World) (hm : l.length ≤ 4611686018427387904)
    (hl1 : Rd w w.heap.size 1 A1 l.length (l.map fun b => Value.int .i64 b.1)) (hl2 : Rd w w.heap.size 1 A2 l.length (l.map fun b => Value.int .i64 b.2)) :
    Calls Tryd.prog 24 #[.slice A1 l.length c1, .slice A2 l.length c2] w fun e w' =>
      ∃ v, e = .returned (.tuple #[v, .int .i64 (matchE l)]) ∧ w'.ownsRow w.heap.size 3 1 v (runV l).length ((runV l).map (Value.int .i64)) ∧ Below w.heap.size w w' := by
  obtain ⟨i0, hi, hz0, hz1, hz2⟩ := info_parts info_int
  by_cases h128 : 128 < l.length
  · have he : matchE l = 5 := by simp [matchE, h128]
    have hw : runV l = [] := by simp [runV, he]
    rw [he, hw]; clear he hw
    go_enter Tryd.func24, Tryd.ntmps24
    go_wp2
    go_ret2
    exact ⟨_, rfl, own_nil, (by repeat (first | exact Below.refl _ _ | assumption | refine Below.drew ?_ | refine below_drewN ?_ _ | refine Below.alloc ?_ (by first | omega | (simp; done) | (simp; omega)) _ | refine Below.setCell ?_ (by first | omega | (simp; done) | (simp; omega)) _))⟩
  go_enter Tryd.func24, Tryd.ntmps24
  go_wp2
  go_loopw [6, 7, 8] (fun v s i wr => ∃ (k : Nat) (xs : List Value), k ≤ l.length ∧ i = .int .i64 (k : Int) ∧ s = .int .i64 (runUpto l k) ∧ Hid (∀ j (h : j < l.length), j < k → okB l[j]) ∧ Hid (xs = (runL l k).map (Value.int .i64)) ∧
      wr.ownsRow w.heap.size 3 1 v k xs ∧ Below w.heap.size w wr) (fun _ _ i _ => l.length - (intOf i).toNat)
  case atStart => exact ⟨0, [], by omega, rfl, rfl, fun j _ h => by omega, rfl, own_nil, Below.refl _ _⟩
  case round =>
    obtain ⟨k, xs, hk, rfl, rfl, hok, hxs, hown, hbel⟩ := hrel
    by_cases hlt : k < l.length
    · obtain ⟨b1, o1, rfl, hbw1, hd1⟩ : ∃ b off, A1 = some ⟨b, off, none⟩ ∧ b < w.heap.size ∧ w.cell? ⟨b, off + k, none⟩ = some (.int .i64 l[k].1) := by
        obtain ⟨b, off, e, hb, hc⟩ := hl1.pos (by omega)
        exact ⟨b, off, e, hb, by rw [hc k (by simpa using hlt)]; simp [List.getElem?_map, List.getElem?_eq_getElem hlt]⟩
      obtain ⟨b2, o2, rfl, hbw2, hd2⟩ : ∃ b off, A2 = some ⟨b, off, none⟩ ∧ b < w.heap.size ∧ w.cell? ⟨b, off + k, none⟩ = some (.int .i64 l[k].2) := by
        obtain ⟨b, off, e, hb, hc⟩ := hl2.pos (by omega)
        exact ⟨b, off, e, hb, by rw [hc k (by simpa using hlt)]; simp [List.getElem?_map, List.getElem?_eq_getElem hlt]⟩
      have hr1 := (bcell hbel b1 (o1 + k) hbw1).trans hd1
      have hr2 := (bcell hbel b2 (o2 + k) hbw2).trans hd2
      have hsw := swingV_bd l[k].1 l[k].2
      have hub : -24 * (k : Int) ≤ runUpto l k ∧ runUpto l k ≤ 24 * k := by have := upto_bd l k hk; omega
      have hm' : l.length ≤ 128 := by omega
      have hi1 : (k : Int) < (l.length : Int) := by omega
      have hi2 : (0 : Int) ≤ (k : Int) := by omega
      clear hd1 hd2
      have hv1 : b1 < wr.heap.size := by have := hbel.size; omega
      have hv2 : b2 < wr.heap.size := by have := hbel.size; omega
      go_wp2
      go_region_held3 (fun w' => w'.cell? ⟨b1, o1 + k, none⟩ = some (.int .i64 l[k].1) ∧ w'.cell? ⟨b2, o2 + k, none⟩ = some (.int .i64 l[k].2)) (first | exact ⟨(q1 _ _ hv1).trans hr1, (q1 _ _ hv2).trans hr2⟩ | go_keep)
        (first | (go_at_call 14; refine (swingref_any _ _ _).mono ?_; rintro e w1 ⟨rfl, hb⟩; have q1 := bcell hb))
      have hbel1 : Below w.heap.size w w1 := (below_drewN hbel 1).trans (hb.mono (by simpa using hbel.size))
      have hown1 := own_below (w' := w1) (World.ownsRow.drew hown) hb (Nat.le_refl _)
      by_cases hk' : okB l[k]
      · have he := Lib.hid (swing_ok hk')
        have Hrs := Lib.hid (runUpto_succ l k hlt)
        rw [he.out]
        go_wp2_with (at_builtin; refine wpList_append_own _ rfl _ _ 36 rfl w.heap.size 3 i0 (.int .i64 0) 1 8 Tryd.underlying36 hi hz0 hz1 hz2 rfl (by decide) _ _ _ rfl (hown1.alloc _) _ 1 1 [.int .i64 (runUpto l k + swingV l[k].1 l[k].2)] rfl rfl ?c1 ?c2 ?c3 ?c4 ?c5 ?_)
        case c1 => exact cell_one_at _ _ _ _ (by simp)
        case c2 => simp [Value.oneCell']
        case c3 => unfold maxLen; omega
        case c4 => omega
        case c5 => have := hbel1.size; simp; omega
        intro v' w2 hown2 hgrow _
        go_wp2
        go_roundw
        case rel =>
          refine ⟨k + 1, _, by omega, by go_num, int_eq (by rw [Hrs.out]; rfl), fun j h hj => ?_, ?_, hown2, (hbel1.alloc hbel1.size _).grown hgrow (by have := hbel1.size; simp; omega) (fun g hg => (hown1.lt g hg).1)⟩
          · by_cases e : j = k
            · subst e; exact hk'
            · exact hok.out j h (by omega)
          · rw [runCells_succ, Hrs.out, hxs.out]; exact rfl
        case measure => simp [intOf]; omega
      · have he := Lib.hid (swing_bad hk')
        have hfin := matchE_bad h128 k hlt hk'
        have hfw : runV l = [] := by simp [runV, hfin]
        have Hfin := Lib.hid hfin
        have Hfw := Lib.hid hfw
        clear hfin hfw
        rw [he.out]
        go_wp2
        go_ret2
        exact ⟨_, by rw [Hfin.out]; rfl, by rw [Hfw.out]; exact own_nil, hbel1⟩
    · obtain rfl : k = l.length := by omega
      have hfin := matchE_ok h128 (okAll_of hok.out)
      have hfw : runV l = runL l l.length := by simp [runV, hfin]
      have Hfin := Lib.hid hfin
      have Hfw := Lib.hid hfw
      clear hfin hfw
      go_wp2
      go_ret2
      exact ⟨_, by rw [Hfin.out]; rfl, by rw [Hfw.out, runL_len, ← show _ = _ from hxs.out]; exact hown, hbel⟩

set_option maxHeartbeats 1000000 in
/-- finesseref19.Match. -/
theorem matchref_any (l : List (Int × Int)) (A1 A2 : Option Addr) (c1 c2 : Nat) (w : World) (hm : l.length ≤ 4611686018427387904)
    (hl1 : Rd w w.heap.size 1 A1 l.length (l.map fun b => Value.int .i64 b.1)) (hl2 : Rd w w.heap.size 1 A2 l.length (l.map fun b => Value.int .i64 b.2)) :
    Calls Tryd.prog 23 #[.slice A1 l.length c1, .slice A2 l.length c2] w fun e w' =>
      e = .returned (.tuple #[.int .i64 (wonV l), .int .i64 (lostV l), .int .i64 (matchE l)]) ∧ Below w.heap.size w w' := by
  by_cases hE : matchE l = 0
  · have h128 : ¬ 128 < l.length := fun h => by simp [matchE, h] at hE
    have hall : okAll l := by
      by_cases h : okAll l
      · exact h
      · simp [matchE, h128, h] at hE
    have HE := Lib.hid hE
    have Hfw := Lib.hid (show wonV l = wonUpto l l.length by simp [wonV, hE])
    have Hfl := Lib.hid (show lostV l = lostUpto l l.length by simp [lostV, hE])
    have Hall := Lib.hid hall
    clear hE hall
    go_enter Tryd.func23, Tryd.ntmps23
    go_wp2_with fail
    refine (runref_any l A1 A2 c1 c2 _ hm hl1 hl2).mono ?_
    rintro e w1 ⟨v, rfl, _, hb1⟩
    rw [HE.out]
    go_wp2
    go_loopw [9, 10, 11] (fun x y i wr => ∃ k : Nat, k ≤ l.length ∧ i = .int .i64 (k : Int) ∧ x = .int .i64 (wonUpto l k) ∧ y = .int .i64 (lostUpto l k) ∧ Below w.heap.size w wr) (fun _ _ i _ => l.length - (intOf i).toNat)
    case atStart => exact ⟨0, by omega, rfl, rfl, rfl, hb1⟩
    case round =>
      obtain ⟨k, hk, rfl, rfl, rfl, hbel⟩ := hrel
      by_cases hlt : k < l.length
      · obtain ⟨b1, o1, rfl, hbw1, hd1⟩ : ∃ b off, A1 = some ⟨b, off, none⟩ ∧ b < w.heap.size ∧ w.cell? ⟨b, off + k, none⟩ = some (.int .i64 l[k].1) := by
          obtain ⟨b, off, e, hb, hc⟩ := hl1.pos (by omega)
          exact ⟨b, off, e, hb, by rw [hc k (by simpa using hlt)]; simp [List.getElem?_map, List.getElem?_eq_getElem hlt]⟩
        obtain ⟨b2, o2, rfl, hbw2, hd2⟩ : ∃ b off, A2 = some ⟨b, off, none⟩ ∧ b < w.heap.size ∧ w.cell? ⟨b, off + k, none⟩ = some (.int .i64 l[k].2) := by
          obtain ⟨b, off, e, hb, hc⟩ := hl2.pos (by omega)
          exact ⟨b, off, e, hb, by rw [hc k (by simpa using hlt)]; simp [List.getElem?_map, List.getElem?_eq_getElem hlt]⟩
        have hr1 := (bcell hbel b1 (o1 + k) hbw1).trans hd1
        have hr2 := (bcell hbel b2 (o2 + k) hbw2).trans hd2
        have hsw := swingV_bd l[k].1 l[k].2
        have hub : 0 ≤ wonUpto l k ∧ wonUpto l k ≤ 24 * k ∧ 0 ≤ lostUpto l k ∧ lostUpto l k ≤ 24 * k := by have := upto_bd l k hk; omega
        have hm' : l.length ≤ 128 := by omega
        have hi1 : (k : Int) < (l.length : Int) := by omega
        have hi2 : (0 : Int) ≤ (k : Int) := by omega
        clear hd1 hd2
        have hv1 : b1 < wr.heap.size := by have := hbel.size; omega
        have hv2 : b2 < wr.heap.size := by have := hbel.size; omega
        have Hw := Lib.hid (wonUpto_succ l k hlt)
        have Hl := Lib.hid (lostUpto_succ l k hlt)
        go_wp2
        go_region_held3 (fun w' => w'.cell? ⟨b1, o1 + k, none⟩ = some (.int .i64 l[k].1) ∧ w'.cell? ⟨b2, o2 + k, none⟩ = some (.int .i64 l[k].2)) (first | exact ⟨(q1 _ _ hv1).trans hr1, (q1 _ _ hv2).trans hr2⟩ | go_keep)
          (first | (go_at_call 14; refine (swingref_any _ _ _).mono ?_; rintro e w1 ⟨rfl, hb⟩; have q1 := bcell hb))
        have hbel1 : Below w.heap.size w w1 := (below_drewN hbel 1).trans (hb.mono (by simpa using hbel.size))
        by_cases hp : 0 < swingV l[k].1 l[k].2
        · go_wp2
          go_roundw
          case rel => exact ⟨k + 1, by omega, by go_num, int_eq (by rw [Hw.out]; unfold swingOf; omega), int_eq (by rw [Hl.out]; unfold swingOf; omega), hbel1⟩
          case measure => simp [intOf]; omega
        · go_wp2
          go_roundw
          case rel => exact ⟨k + 1, by omega, by go_num, int_eq (by rw [Hw.out]; unfold swingOf; omega), int_eq (by rw [Hl.out]; unfold swingOf; omega), hbel1⟩
          case measure => simp [intOf]; omega
      · obtain rfl : k = l.length := by omega
        go_wp2
        go_ret3
        exact ⟨by rw [HE.out, Hfw.out, Hfl.out]; rfl, hbel⟩
  · have hw : wonV l = 0 := by simp [wonV, hE]
    have hl : lostV l = 0 := by simp [lostV, hE]
    have hb : (matchE l == 0) = false := by simpa using hE
    have hb' : (matchE l != 0) = true := by simpa using hE
    rw [hw, hl]
    generalize hEe : matchE l = E at hb hb'
    have HE := Lib.hid hEe
    clear hw hl hE hEe
    go_enter Tryd.func23, Tryd.ntmps23
    go_wp2_with fail
    refine (runref_any l A1 A2 c1 c2 _ hm hl1 hl2).mono ?_
    rintro e w1 ⟨v, rfl, _, hb1⟩
    rw [HE.out]
    go_wp2
    go_ret3
    exact ⟨rfl, hb1⟩

end Go.Proofs.YtkkemdjeobnpfaaDoor
