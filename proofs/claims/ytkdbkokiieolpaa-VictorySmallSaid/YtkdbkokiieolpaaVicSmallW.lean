/- The walk of the statement VictorySmall. -/
import Derived.Test.YtkdbkokiieolpaaVicSameW
import Derived.Deep.CutBlock
namespace Go.Proofs.Ytkdbkokiieolpaa
open Go.RowKit

/-- The comparison, the lengths given apart. -/
theorem same_at (s l : List Int) (n1 n2 : Nat) (h1 : n1 = s.length) (h2 : n2 = l.length) (n : Int) (A A' : Option Addr) (c c' : Nat) (w0 w : World) (hw : Below w0.heap.size w0 w) (hl : Rd w w.heap.size 1 A s.length (iC s)) (hA : A = none → c = 0) (hn : s.length ≤ 1000000)
    (hl' : Rd w w.heap.size 1 A' l.length (iC l)) (hA' : A' = none → c' = 0) (hn' : l.length ≤ 1000000) :
    Calls Try.prog 16 #[.slice A n1 c, .int .i64 n, .slice A' n2 c'] w fun e w' => e = .returned (.bool true) ∧ Below w0.heap.size w0 w' := by
  subst h1; subst h2
  exact (same_any s l n A A' c c' w hl hA hn hl' hA' hn').mono fun _ _ ⟨a, b⟩ => ⟨a, hw.trans (b.mono hw.size)⟩
theorem rd_blk {w : World} {g : Nat} {l : List Int} (h : w.heap[g]? = some (.cells (iC l).toArray 3)) : Rd w w.heap.size 1 (some ⟨g, 0, none⟩) l.length (iC l) :=
  rd_of_blk h (by rw [Nat.mul_one, List.take_of_length_le (by simp [iC])]) (by simp [iC])
theorem blk_drew' {w : World} {g : Nat} {x : Option Obj} (h : w.heap[g]? = x) : w.drew.heap[g]? = x := h
def triL (n : Nat) : List Int := (List.range n).map fun (i : Nat) => 3 * (i : Int) + 1
theorem triL_succ (n : Nat) : triL (n + 1) = triL n ++ [3 * (n : Int) + 1] := by unfold triL; rw [List.range_succ, List.map_append]; rfl
theorem triL_len (n : Nat) : (triL n).length = n := by simp [triL]
def seven : List Int := [-9223372036854775808, -1000001, -1000000, 999999, 1000000, 1000001, 9223372036854775807]

set_option maxHeartbeats 4000000 in
set_option maxRecDepth 100000 in
theorem victorySmall_walk (w : World) : Calls Try.prog 7 #[] w fun e w' => e = .returned (.bool true) ∧ Below w.heap.size w w' := by
  go_enter Try.func7, Try.ntmps7
  go_wp2_with fail
  go_loopw [1] (fun i wr => ∃ k : Nat, k ≤ 132 ∧ i = .int .i64 ((k : Int) - 1) ∧ Below w.heap.size w wr) (fun i _ => 132 - (intOf i + 1).toNat)
  case atStart => exact ⟨0, by omega, by go_num, Below.refl _ _⟩
  case round =>
    obtain ⟨k, hk, rfl, hbel⟩ := hrel
    have hsr := hbel.size
    by_cases hlt : k < 132
    · obtain ⟨m1, hm1⟩ : ∃ m1 : Int, (if (128 : Int) < (k : Int) - 1 then 128 else (k : Int) - 1) = m1 := ⟨_, rfl⟩
      obtain ⟨m2, hm2⟩ : ∃ m2 : Int, (if (1 : Int) < m1 then m1 else 1) = m2 := ⟨_, rfl⟩
      have hmb : 1 ≤ m2 ∧ m2 ≤ 128 := by split at hm1 <;> split at hm2 <;> omega
      go_wp2_with fail
      all_goals
        clear hm1 hm2
        refine (usualR_any m2 _ hmb).mono ?_
        rintro e w2 ⟨v, L, rfl, hown, hL, hus, hb2⟩
        obtain ⟨A, c, rfl⟩ := own_form hown
        have hA := Lib.hid (own_src hown)
        have hrd := Rd.of_own hown
        have hU := Lib.hid hus
        have s2 := hb2.size
        have hB2 := hbel.trans (hb2.mono hsr)
        rw [← hL] at hrd
        obtain ⟨y, b, off, hAe, hbw, hc, hy⟩ : ∃ (y : Int) (b off : Nat), A = some ⟨b, off, none⟩ ∧ b < w2.heap.size ∧ w2.cell? ⟨b, off + 3, none⟩ = some (.int .i64 y) ∧ 1 ≤ y ∧ y ≤ 170 := by
          obtain ⟨b, off, h1, h2, h3⟩ := rd_i hrd 3 (by omega)
          exact ⟨_, b, off, h1, h2, h3, below4_bd _ _ (want_bd _ (3 + 1) (by omega) (by omega)).2.2.2 (hus 3 (by omega)).1⟩
        have HL := Lib.hid hL
        have Hrd := Lib.hid hrd
        clear hus hown hL hrd hb2
        subst hAe
        have C1 := Lib.hid (fun (W : World) (g : Nat) (hw : Below w2.heap.size w2 W) (h : W.heap[g]? = some (.cells #[.int .i64 y, .int .i64 (-y), .int .i64 0] 3)) => same_at L [y, -y, 0] 10 3 HL.out.symm rfl ((k : Int) - 1) (some ⟨b, off, none⟩) (some ⟨g, 0, none⟩) c 3 w2 W hw ((Hrd.out.below hw).more hw.size) (by simp) (by rw [HL.out]; decide) (rd_blk (l := [y, -y, 0]) h) (by simp) (by show (3 : Nat) ≤ _; decide))
        have C2 := Lib.hid (fun (W : World) (hw : Below w2.heap.size w2 W) => same_at L L 10 10 HL.out.symm HL.out.symm ((k : Int) - 1 - 60) (some ⟨b, off, none⟩) (some ⟨b, off, none⟩) c c w2 W hw ((Hrd.out.below hw).more hw.size) (by simp) (by rw [HL.out]; decide) ((Hrd.out.below hw).more hw.size) (by simp) (by rw [HL.out]; decide))
        have C3 := Lib.hid (fun (W : World) (n : Int) (hw : Below w2.heap.size w2 W) => same_at L [] 10 0 HL.out.symm rfl n (some ⟨b, off, none⟩) none c 0 w2 W hw ((Hrd.out.below hw).more hw.size) (by simp) (by rw [HL.out]; decide) Rd.nil_ (by simp) (by decide))
        have hbf := Lib.hid (Below.refl w2.heap.size w2)
        go_wp2_with fail
        have i1 : IntKind.i64.wrap ((k : Int) - 1 - 60) = (k : Int) - 1 - 60 := IntWalk.i64_in _ (by omega)
        have i2 : IntKind.i64.wrap (1000001 - ((k : Int) - 1)) = 1000001 - ((k : Int) - 1) := IntWalk.i64_in _ (by omega)
        have i3 : IntKind.i64.wrap ((k : Int) - 1 - 1000001) = (k : Int) - 1 - 1000001 := IntWalk.i64_in _ (by omega)
        have i4 : IntKind.i64.wrap (-y) = -y := IntWalk.i64_in _ (by omega)
        have HB2 := Lib.hid hB2
        clear hB2
        go_region_held3 (fun w' => w'.cell? ⟨b, off + 3, none⟩ = some (.int .i64 y) ∧ Below w2.heap.size w2 w') ((refine ⟨(bcell ?_ b (off + 3) hbw).trans hc, ?_⟩ <;> (focus (repeat (first | exact Below.refl _ _ | assumption | (with_reducible refine Below.drew ?_) | (with_reducible refine below_drewN ?_ _) | ((with_reducible refine Below.alloc ?_ ?_ _); rotate_left; (first | omega | (simp <;> omega))) | ((with_reducible refine Below.setCell ?_ ?_ _); rotate_left; (first | omega | (simp <;> omega))))))))
          (first | (go_at_call 16; (first | (with_reducible refine (C1.out _ _ ?_ ?_).mono ?_; rotate_left; (focus (repeat (first | (with_reducible refine blk_drew' ?_) | ((with_reducible refine blk_new _ ?_); (simp; done)) | (with_reducible refine blk_alloc ?_ _)))); rotate_left) | (with_reducible refine (C2.out _ ?_).mono ?_) | (with_reducible refine (C3.out _ _ ?_).mono ?_)); (focus (repeat (first | exact Below.refl _ _ | assumption | (with_reducible refine Below.drew ?_) | (with_reducible refine below_drewN ?_ _) | ((with_reducible refine Below.alloc ?_ ?_ _); rotate_left; (first | omega | (simp <;> omega))) | ((with_reducible refine Below.setCell ?_ ?_ _); rotate_left; (first | omega | (simp <;> omega)))))); rintro e wa ⟨rfl, hba⟩))
        all_goals
          clear i1 i2 i3 i4
          have hbn := HB2.out.trans (hba.mono HB2.out.size)
          go_wp2
          go_roundw
          case rel => exact ⟨k + 1, by omega, by go_num, hbn⟩
          case measure => simp [intOf]; omega
    · have t0 : decide ((k : Int) - 1 < 131) = false := decide_eq_false (by omega)
      clear hk
      obtain ⟨w1, rfl⟩ : ∃ w1 : World, w1 = wr := ⟨_, rfl⟩
      go_wp2_with fail
      go_loopw [58] (fun i wr => ∃ k : Nat, k ≤ 216 ∧ i = .int .i64 (k : Int) ∧ Below w.heap.size w wr) (fun i _ => 216 - (intOf i).toNat)
      case atStart => exact ⟨0, by omega, rfl, hbel⟩
      case round =>
        obtain ⟨k, hk, rfl, hbel⟩ := hrel
        have hsr := hbel.size
        by_cases hlt : k < 216
        · have t1 : decide ((k : Int) < 216) = true := decide_eq_true (by omega)
          obtain ⟨x0, hx0⟩ : ∃ x0 : Int, (k : Int) % 6 = x0 := ⟨_, rfl⟩
          obtain ⟨x1, hx1⟩ : ∃ x1 : Int, (k : Int) / 6 % 6 = x1 := ⟨_, rfl⟩
          obtain ⟨x2, hx2⟩ : ∃ x2 : Int, (k : Int) / 36 = x2 := ⟨_, rfl⟩
          obtain ⟨w2, rfl⟩ : ∃ w2 : World, w2 = wr := ⟨_, rfl⟩
          go_wp2_with fail
          try rw [hx0]
          try rw [hx1]
          try rw [hx2]
          clear hx0 hx1 hx2
          go_loopw [6] (fun i wr => ∃ q : Nat, q ≤ 15 ∧ i = .int .i64 ((q : Int) - 7) ∧ Hid (wr.heap[w2.heap.size]? = some (.cells #[.int .i64 x0, .int .i64 x1, .int .i64 x2] 3)) ∧ Below w2.heap.size w2 wr) (fun i _ => 15 - (intOf i + 7).toNat)
          case atStart => exact ⟨0, by omega, by go_num, heap_alloc_new _ _, (by repeat (first | exact Below.refl _ _ | assumption | refine Below.drew ?_ | refine below_drewN ?_ _ | refine Below.alloc ?_ (by first | omega | (simp; done) | (simp; omega)) _ | refine Below.setCell ?_ (by first | omega | (simp; done) | (simp; omega)) _))⟩
          case round =>
            obtain ⟨q, hq, rfl, hblk, hbr⟩ := hrel
            have hlw := blk_lt hblk.out
            by_cases hlt2 : q < 15
            · have hd := Lib.hid (rd_blk (l := [x0, x1, x2]) hblk.out)
              have Hbr := Lib.hid hbr
              clear hbr
              go_wp2_with fail
              refine (same_at [x0, x1, x2] [(q : Int) - 7, -((q : Int) - 7), 1] 3 3 rfl rfl _ _ _ 3 3 _ _ (Below.refl _ _) ((hd.out.alloc (Nat.le_refl _) _).more (by simp)) (by simp) (by show (3 : Nat) ≤ _; decide) (rd_blk (heap_alloc_new _ _)) (by simp) (by show (3 : Nat) ≤ _; decide)).mono ?_
              rintro e w4 ⟨rfl, hb4⟩
              have hb4' : Below wr.heap.size wr w4 := ((Below.refl _ _).alloc (Nat.le_refl _) _).trans (hb4.mono (by simp))
              have s4 := hb4'.size
              have hd4 := Lib.hid ((hd.out.below hb4').more s4)
              have hd5 := Lib.hid (show Rd w4 w4.heap.size 1 (some ⟨w2.heap.size, 0, none⟩) [x0, x1].length (iC [x0, x1]) from hd4.out.pre (k := 2) (by show 2 ≤ 3; omega))
              have hd6 := Lib.hid (show Rd w4 w4.heap.size 1 (some ⟨w2.heap.size, 0, none⟩) [x0].length (iC [x0]) from hd4.out.pre (k := 1) (by show 1 ≤ 3; omega))
              clear hb4
              go_wp2_with fail
              refine (same_at [x0, x1] [(q : Int) - 7] 2 1 rfl rfl _ _ _ 3 1 _ _ (Below.refl _ _) ((hd5.out.alloc (Nat.le_refl _) _).more (by simp)) (by simp) (by show (2 : Nat) ≤ _; decide) (rd_blk (heap_alloc_new _ _)) (by simp) (by show (1 : Nat) ≤ _; decide)).mono ?_
              rintro e w5 ⟨rfl, hb5⟩
              have hb5' : Below w4.heap.size w4 w5 := ((Below.refl _ _).alloc (Nat.le_refl _) _).trans (hb5.mono (by simp))
              have s5 := hb5'.size
              clear hb5
              go_wp2_with fail
              refine (same_at [x0] [x0, x1, x2] 1 3 rfl rfl _ _ _ 3 3 _ _ (Below.refl _ _) ((hd6.out.below hb5').more s5) (by simp) (by show (1 : Nat) ≤ _; decide) ((hd4.out.below hb5').more s5) (by simp) (by show (3 : Nat) ≤ _; decide)).mono ?_
              rintro e w6 ⟨rfl, hb6⟩
              have hall : Below wr.heap.size wr w6 := (hb4'.trans (hb5'.mono s4)).trans (hb6.mono (by omega))
              have hblk6 := Lib.hid (blk_below hblk.out hall hlw)
              have hbr6 := Hbr.out.trans (hall.mono Hbr.out.size)
              go_wp2
              go_roundw
              case rel => exact ⟨q + 1, by omega, by go_num, hblk6, hbr6⟩
              case measure => simp [intOf]; omega
            · obtain rfl : q = 15 := by omega
              have hbel2 := hbel.trans (hbr.mono hsr)
              go_wp2
              go_roundw
              case rel => exact ⟨k + 1, by omega, by go_num, hbel2⟩
              case measure => simp [intOf]; omega
        · have t1 : decide ((k : Int) < 216) = false := decide_eq_false (by omega)
          clear hk
          obtain ⟨w2, rfl⟩ : ∃ w2 : World, w2 = wr := ⟨_, rfl⟩
          obtain ⟨i0, hi, hz0, hz1, hz2⟩ := info_parts info_int
          go_wp2_with fail
          go_loopw [7] (fun i wr => ∃ k : Nat, k ≤ 5 ∧ i = .int .i64 ((k : Int) + 48) ∧ Below w.heap.size w wr) (fun i _ => 5 - (intOf i - 48).toNat)
          case atStart => exact ⟨0, by omega, by go_num, hbel⟩
          case round =>
            obtain ⟨k, hk, rfl, hbel⟩ := hrel
            have hsr := hbel.size
            by_cases hlt : k < 5
            · have t2 : decide ((k : Int) + 48 < 53) = true := decide_eq_true (by omega)
              obtain ⟨w3, rfl⟩ : ∃ w3 : World, w3 = wr := ⟨_, rfl⟩
              go_wp2_with fail
              go_loopw [8, 104] (fun v i wr => ∃ (j : Nat) (xs : List Value), j ≤ k + 48 ∧ i = .int .i64 (j : Int) ∧ Hid (xs = iC (triL j)) ∧ wr.ownsRow w3.heap.size 3 1 v j xs ∧ Below w3.heap.size w3 wr) (fun _ i _ => k + 48 - (intOf i).toNat)
              case atStart => exact ⟨0, [], by omega, rfl, rfl, own_nil, Below.refl _ _⟩
              case round =>
                obtain ⟨j, xs, hj, rfl, hxs, hown, hbr⟩ := hrel
                have h3r := hbr.size
                by_cases hlt2 : j < k + 48
                · go_wp2_with (at_builtin; refine wpList_append_own _ rfl _ _ 24 rfl w3.heap.size 3 i0 (.int .i64 0) 1 8 Try.underlying24 hi hz0 hz1 hz2 rfl (by decide) _ _ _ rfl (hown.alloc _) _ 1 1 [.int .i64 (3 * (j : Int) + 1)] rfl rfl ?c1 ?c2 ?c3 ?c4 ?c5 ?_)
                  case c1 => exact cell_one_at _ _ _ _ (by simp)
                  case c2 => simp [Value.oneCell']
                  case c3 => unfold maxLen; omega
                  case c4 => omega
                  case c5 => simp; omega
                  intro v' w4 hown1 hgrow _
                  go_wp2
                  go_roundw
                  case rel =>
                    refine ⟨j + 1, _, by omega, by go_num, ?_, hown1, (hbr.alloc h3r _).grown hgrow (by simp; omega) (fun g hg => (hown.lt g hg).1)⟩
                    show _ = iC (triL (j + 1)); rw [triL_succ, iC_app, ← show _ = _ from hxs.out]; rfl
                  case measure => simp [intOf]; omega
                · have t3 : decide ((j : Int) < (k : Int) + 48) = false := decide_eq_false (by omega)
                  have hj2 : k + 48 ≤ j := by omega
                  obtain ⟨A, c, rfl⟩ := own_form hown
                  have hA := Lib.hid (own_src hown)
                  have hx := hxs.out
                  subst hx
                  have hrd := Lib.hid (show Rd wr wr.heap.size 1 A (triL j).length (iC (triL j)) by rw [triL_len]; exact Rd.of_own hown)
                  have hB4 := hbel.trans (hbr.mono hsr)
                  obtain ⟨w4, rfl⟩ : ∃ w4 : World, w4 = wr := ⟨_, rfl⟩
                  clear hown hxs hbr hlt2
                  go_wp2_with fail
                  go_loopw [10] (fun i wr => ∃ q : Nat, q ≤ 200 ∧ i = .int .i64 (3 * (q : Int) - 5) ∧ Below w4.heap.size w4 wr) (fun i _ => 200 - ((intOf i + 5) / 3).toNat)
                  case atStart => exact ⟨0, by omega, by go_num, Below.refl _ _⟩
                  case round =>
                    obtain ⟨q, hq, rfl, hbr⟩ := hrel
                    by_cases hlt2 : 3 * (q : Int) - 5 < 2 * ((k : Int) + 48) + 5
                    · have hr4 := Lib.hid ((hrd.out.below hbr).more hbr.size)
                      go_wp2_with fail
                      refine (same_at (triL j) (triL j) j j (triL_len _).symm (triL_len _).symm _ _ _ c c _ _ (Below.refl _ _) hr4.out hA.out (by rw [triL_len]; omega) hr4.out hA.out (by rw [triL_len]; omega)).mono ?_
                      rintro e w5 ⟨rfl, hb5⟩
                      have hb6 := hbr.trans (hb5.mono hbr.size)
                      go_wp2
                      go_roundw
                      case rel => exact ⟨q + 1, by omega, by go_num, hb6⟩
                      case measure => simp [intOf]; omega
                    · have hbe := hB4.trans (hbr.mono hB4.size)
                      go_wp2
                      go_roundw
                      case rel => exact ⟨k + 1, by omega, by go_num, hbe⟩
                      case measure => simp [intOf]; omega
            · have t2 : decide ((k : Int) + 48 < 53) = false := decide_eq_false (by omega)
              clear hk
              obtain ⟨w3, rfl⟩ : ∃ w3 : World, w3 = wr := ⟨_, rfl⟩
              go_wp2_with fail
              go_loopw [128] (fun i wr => ∃ k : Nat, k ≤ 7 ∧ i = .int .i64 (k : Int) ∧ Hid (wr.heap[w3.heap.size]? = some (.cells (iC seven).toArray 3)) ∧ Below w3.heap.size w3 wr) (fun i _ => 7 - (intOf i).toNat)
              case atStart => exact ⟨0, by omega, rfl, heap_alloc_new _ _, (by repeat (first | exact Below.refl _ _ | assumption | refine Below.drew ?_ | refine below_drewN ?_ _ | refine Below.alloc ?_ (by first | omega | (simp; done) | (simp; omega)) _ | refine Below.setCell ?_ (by first | omega | (simp; done) | (simp; omega)) _))⟩
              case round =>
                obtain ⟨k, hk, rfl, hblk, hbr⟩ := hrel
                have hlw := blk_lt hblk.out
                by_cases hlt2 : k < 7
                · have hcell : wr.cell? ⟨w3.heap.size, k, none⟩ = some (.int .i64 (seven[k]'hlt2)) := (blk_cell hblk.out k).trans (by simp [iC, List.getElem?_map, List.getElem?_eq_getElem (show k < seven.length from hlt2)]; rfl)
                  have Hbr := Lib.hid hbr
                  clear hbr
                  generalize (seven[k]'hlt2) = x at hcell
                  go_wp2_with fail
                  refine (same_at [1, 999999] [x] 2 1 rfl rfl _ _ _ 2 1 _ _ (Below.refl _ _) ((rd_blk (l := [1, 999999]) (blk_alloc (heap_alloc_new _ _) _)).more (by simp)) (by simp) (by show (2 : Nat) ≤ _; decide) (rd_blk (l := [x]) (blk_new _ (by simp))) (by simp) (by show (1 : Nat) ≤ _; decide)).mono ?_
                  rintro e w4 ⟨rfl, hb4⟩
                  have hb4' : Below wr.heap.size wr w4 := (((Below.refl _ _).alloc (Nat.le_refl _) _).alloc (by simp) _).trans (hb4.mono (by simp; omega))
                  have s4 := hb4'.size
                  clear hb4
                  go_wp2_with fail
                  refine (same_at [5, x] [7] 2 1 rfl rfl _ _ _ 2 1 _ _ (Below.refl _ _) ((rd_blk (l := [5, x]) (blk_alloc (heap_alloc_new _ _) _)).more (by simp)) (by simp) (by show (2 : Nat) ≤ _; decide) (rd_blk (l := [7]) (blk_new _ (by simp))) (by simp) (by show (1 : Nat) ≤ _; decide)).mono ?_
                  rintro e w5 ⟨rfl, hb5⟩
                  have hb5' : Below w4.heap.size w4 w5 := (((Below.refl _ _).alloc (Nat.le_refl _) _).alloc (by simp) _).trans (hb5.mono (by simp; omega))
                  have s5 := hb5'.size
                  clear hb5
                  go_wp2_with fail
                  refine (same_at [x] [] 1 0 rfl rfl _ _ _ 1 0 _ _ (Below.refl _ _) (rd_blk (l := [x]) (heap_alloc_new _ _)) (by simp) (by show (1 : Nat) ≤ _; decide) Rd.nil_ (by simp) (by decide)).mono ?_
                  rintro e w6 ⟨rfl, hb6⟩
                  have hb6' : Below w5.heap.size w5 w6 := ((Below.refl _ _).alloc (Nat.le_refl _) _).trans (hb6.mono (by simp))
                  have s6 := hb6'.size
                  clear hb6
                  go_wp2_with fail
                  refine (same_at [] [] 0 0 rfl rfl _ _ _ 0 0 _ _ (Below.refl _ _) Rd.nil_ (by simp) (by decide) Rd.nil_ (by simp) (by decide)).mono ?_
                  rintro e w7 ⟨rfl, hb7⟩
                  have hall : Below wr.heap.size wr w7 := ((hb4'.trans (hb5'.mono s4)).trans (hb6'.mono (by omega))).trans (hb7.mono (by omega))
                  have hblk7 := Lib.hid (blk_below hblk.out hall hlw)
                  have hbr7 := Hbr.out.trans (hall.mono Hbr.out.size)
                  go_wp2
                  go_roundw
                  case rel => exact ⟨k + 1, by omega, by go_num, hblk7, hbr7⟩
                  case measure => simp [intOf]; omega
                · obtain rfl : k = 7 := by omega
                  have hbe := hbel.trans (hbr.mono hsr)
                  go_wp2_with fail
                  refine (awake_any _).mono ?_
                  rintro e w6 ⟨rfl, hb6⟩
                  go_wp2
                  go_ret
                  exact ⟨rfl, hbe.trans (hb6.mono hbe.size)⟩

end Go.Proofs.Ytkdbkokiieolpaa
