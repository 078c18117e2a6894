/- The walks of SameInts and of the examples of the chapter. -/
import Derived.Test.YtkdbkokiieolpaaVicW3
namespace Go.Proofs.Ytkdbkokiieolpaa
open Go.RowKit

theorem same_eq (l : List Int) (n1 n2 : Nat) (h1 : n1 = l.length) (h2 : n2 = l.length) (A1 A2 : Option Addr) (c1 c2 : Nat) (w : World) (hl1 : Rd w w.heap.size 1 A1 l.length (iC l)) (hl2 : Rd w w.heap.size 1 A2 l.length (iC l)) (hn : l.length ≤ 4611686018427387904) :
    Calls Try.prog 21 #[.slice A1 n1 c1, .slice A2 n2 c2] w fun e w' => e = .returned (.bool true) ∧ Below w.heap.size w w' := by
  subst h1; subst h2
  go_enter Try.func21, Try.ntmps21
  go_wp2
  go_loopw [5] (fun i wr => ∃ k : Nat, k ≤ l.length ∧ i = .int .i64 (k : Int) ∧ Below w.heap.size w wr) (fun i _ => l.length - (intOf i).toNat)
  case atStart => exact ⟨0, by omega, rfl, Below.refl _ _⟩
  case round =>
    obtain ⟨k, hk, rfl, hb⟩ := hrel
    by_cases hlt : k < l.length
    · obtain ⟨b1, o1, rfl, hw1, hd1⟩ := rd_i hl1 k hlt
      obtain ⟨b2, o2, rfl, hw2, hd2⟩ := rd_i hl2 k hlt
      have hx1 := (bcell hb b1 (o1 + k) hw1).trans hd1
      have hx2 := (bcell hb b2 (o2 + k) hw2).trans hd2
      have j1 : (k : Int) < (l.length : Int) := by omega
      have j2 : (0 : Int) ≤ (k : Int) := by omega
      clear hd1 hd2
      generalize l[k] = x at hx1 hx2
      go_wp2
      go_quiet (fail)
      go_wp2
      go_roundw
      case rel => exact ⟨k + 1, by omega, by go_num, (by repeat (first | exact Below.refl _ _ | assumption | refine Below.drew ?_ | refine below_drewN ?_ _ | refine Below.alloc ?_ (by first | omega | (simp; done) | (simp; omega)) _ | refine Below.setCell ?_ (by first | omega | (simp; done) | (simp; omega)) _))⟩
      case measure => simp [intOf]; omega
    · obtain rfl : k = l.length := by omega
      go_wp2
      go_ret
      exact ⟨rfl, hb⟩

/-! ### The usual scales of the examples -/
instance (t m : Int) : Decidable (below4 t m) := inferInstanceAs (Decidable (_ ∧ _))
instance (t m : Int) : Decidable (least4 t m) := inferInstanceAs (Decidable (_ ∧ _))
theorem usual_eq (b : Int) (L U : List Int) (hL : L.length = U.length) (h : isUsual b L) (hu : isUsual b U) : L = U := by
  apply List.ext_getElem hL
  intro j h1 h2
  exact least4_unique _ _ _ (h j h1) (hu j h2)
def U16 : List Int := [6, 12, 18, 24, 30, 36, 42, 48, 54, 60]
def U1 : List Int := [2, 3, 5, 6, 8, 9, 11, 12, 14, 15]
theorem u16_ok : isUsual 16 U16 := by
  have : ∀ j : Fin 10, least4 (want 16 (j.1 + 1)) (U16[j.1]'j.2) := by decide +kernel
  exact fun j h => this ⟨j, h⟩
theorem u1_ok : isUsual 1 U1 := by
  have : ∀ j : Fin 10, least4 (want 1 (j.1 + 1)) (U1[j.1]'j.2) := by decide +kernel
  exact fun j h => this ⟨j, h⟩
def tri (l : List (Int × Int × Int)) : List Value := l.flatMap fun b => [.int .i64 b.1, .int .i64 b.2.1, .int .i64 b.2.2]
theorem tri_get (l : List (Int × Int × Int)) : ∀ (k : Nat) (h : k < l.length), (tri l)[k * 3]? = some (.int .i64 l[k].1) ∧ (tri l)[k * 3 + 1]? = some (.int .i64 l[k].2.1) ∧ (tri l)[k * 3 + 2]? = some (.int .i64 l[k].2.2) := by
  induction l with
  | nil => intro k h; simp at h
  | cons b l ih =>
    intro k h
    have e : tri (b :: l) = [.int .i64 b.1, .int .i64 b.2.1, .int .i64 b.2.2] ++ tri l := rfl
    rw [e]
    cases k with
    | zero => exact ⟨rfl, rfl, rfl⟩
    | succ k =>
      have := ih k (by simpa using h)
      rw [List.getElem?_append_right (by simp; omega), List.getElem?_append_right (by simp; omega), List.getElem?_append_right (by simp; omega)]
      simpa [show (k + 1) * 3 - 3 = k * 3 by omega, show (k + 1) * 3 + 1 - 3 = k * 3 + 1 by omega, show (k + 1) * 3 + 2 - 3 = k * 3 + 2 by omega] using this
def awkP : List (Int × Int × Int) := [(0, 10, 10), (5, 10, 10), (6, 11, 9), (-13, 8, 12), (60, 20, 0), (1000, 20, 0)]
def awkM : List (Int × Int × Int) := [(10, -5, 5), (11, 6, 11), (20, 60, 1000000)]
theorem awkP_ok (k : Nat) (h : k < 6) : (ptsA U16 (awkP[k]'h).1 != (awkP[k]'h).2.1) = false ∧ (ptsB U16 (awkP[k]'h).1 != (awkP[k]'h).2.2) = false ∧ ptsE U16 (awkP[k]'h).1 = 0 := by
  have : ∀ k : Fin 6, (ptsA U16 (awkP[k.1]'k.2).1 != (awkP[k.1]'k.2).2.1) = false ∧ (ptsB U16 (awkP[k.1]'k.2).1 != (awkP[k.1]'k.2).2.2) = false ∧ ptsE U16 (awkP[k.1]'k.2).1 = 0 := by decide +kernel
  exact this ⟨k, h⟩
theorem awkM_ok (k : Nat) (h : k < 3) : (marL U16 (awkM[k]'h).1 != (awkM[k]'h).2.1) = false ∧ (marH U16 (awkM[k]'h).1 != (awkM[k]'h).2.2) = false ∧ marE U16 (awkM[k]'h).1 = 0 := by
  have : ∀ k : Fin 3, (marL U16 (awkM[k.1]'k.2).1 != (awkM[k.1]'k.2).2.1) = false ∧ (marH U16 (awkM[k.1]'k.2).1 != (awkM[k.1]'k.2).2.2) = false ∧ marE U16 (awkM[k.1]'k.2).1 = 0 := by decide +kernel
  exact this ⟨k, h⟩
/-- A block of integers, new, reads as them. -/
theorem rd_new (w : World) (l : List Int) (t m n : Nat) (hm : m = w.heap.size) (hn : n = l.length) : Rd (w.alloc (.cells (iC l).toArray t)) (w.alloc (.cells (iC l).toArray t)).heap.size 1 (some ⟨m, 0, none⟩) n (iC l) := by
  subst hm; subst hn
  exact ⟨by simp [iC], fun _ => ⟨_, 0, rfl, by simp, fun j _ => by rw [Nat.zero_add]; exact (blk_cell (blk_new _ rfl) j).trans (by simp)⟩⟩

set_option maxHeartbeats 2000000 in
theorem awake_any (w : World) : Calls Try.prog 12 #[] w fun e w' => e = .returned (.bool true) ∧ Below w.heap.size w w' := by
  go_enter Try.func12, Try.ntmps12
  go_wp2_with fail
  refine (usual_any 16 _ (by omega)).mono ?_
  rintro e w1 ⟨v1, L1, rfl, ho1, hL1, hu1, hb1⟩
  obtain rfl : L1 = U16 := usual_eq 16 L1 U16 hL1 hu1 u16_ok
  obtain ⟨A1, c1, rfl⟩ := own_form ho1
  have hr1 : Rd w1 w1.heap.size 1 A1 U16.length (iC U16) := Rd.of_own ho1
  clear ho1 hL1 hu1
  go_wp2_with fail
  refine (usual_any 1 _ (by omega)).mono ?_
  rintro e w2 ⟨v2, L2, rfl, ho2, hL2, hu2, hb2⟩
  obtain rfl : L2 = U1 := usual_eq 1 L2 U1 hL2 hu2 u1_ok
  obtain ⟨A2, c2, rfl⟩ := own_form ho2
  have hr2 : Rd w2 w2.heap.size 1 A2 U1.length (iC U1) := Rd.of_own ho2
  have hs2 := hb2.size
  have hr12 := (hr1.below hb2).more hs2
  have hB2 : Below w.heap.size w w2 := hb1.trans (hb2.mono hb1.size)
  have hS2 := hB2.size
  clear ho2 hL2 hu2 hr1
  go_wp2_with fail
  refine (same_eq U16 10 10 rfl rfl A1 _ c1 10 _ ((hr12.alloc (Nat.le_refl _) _).more (by simp)) (rd_new w2 U16 3 _ _ rfl rfl) (by decide)).mono ?_
  rintro e w3 ⟨rfl, hb3⟩
  have hB3 : Below w.heap.size w w3 := (hB2.alloc hS2 _).trans (hb3.mono (by simp; omega))
  have hS3 := hB3.size
  have hs3 : w2.heap.size ≤ w3.heap.size := by have := hb3.size; simp at this; omega
  have hr13 := ((hr12.alloc (Nat.le_refl _) (.cells (iC U16).toArray 3)).below (hb3.mono (by simp))).more hs3
  have hr23 := ((hr2.alloc (Nat.le_refl _) (.cells (iC U16).toArray 3)).below (hb3.mono (by simp))).more hs3
  go_wp2_with fail
  refine (same_eq U1 10 10 rfl rfl A2 _ c2 10 _ ((hr23.alloc (Nat.le_refl _) _).more (by simp)) (rd_new w3 U1 3 _ _ rfl rfl) (by decide)).mono ?_
  rintro e w4 ⟨rfl, hb4⟩
  have hB4 : Below w.heap.size w w4 := (hB3.alloc hS3 _).trans (hb4.mono (by simp; omega))
  have hS4 := hB4.size
  have hs4 : w3.heap.size ≤ w4.heap.size := by have := hb4.size; simp at this; omega
  have hr14 := ((hr13.alloc (Nat.le_refl _) (.cells (iC U1).toArray 3)).below (hb4.mono (by simp))).more hs4
  have Hr14 := Lib.hid hr14
  clear hr12 hr13 hr23 hr2 hr14 hb1 hb2 hb3 hb4 hB2 hB3
  go_wp2
  go_loopw [51] (fun i wr => ∃ k : Nat, k ≤ 6 ∧ i = .int .i64 (k : Int) ∧ wr.heap[w4.heap.size]? = some (.cells (tri awkP).toArray 46) ∧ Below w4.heap.size w4 wr) (fun i _ => 6 - (intOf i).toNat)
  case atStart => exact ⟨0, by omega, rfl, heap_alloc_new _ _, (by repeat (first | exact Below.refl _ _ | assumption | refine Below.drew ?_ | refine below_drewN ?_ _ | refine Below.alloc ?_ (by first | omega | (simp; done) | (simp; omega)) _ | refine Below.setCell ?_ (by first | omega | (simp; done) | (simp; omega)) _))⟩
  case round =>
    obtain ⟨k, hk, rfl, hblk, hbel⟩ := hrel
    have hlw := blk_lt hblk
    by_cases hlt : k < 6
    · obtain ⟨t1, t2, t3⟩ := tri_get awkP k hlt
      have q1 : wr.cell? ⟨w4.heap.size, k * 3, none⟩ = _ := (blk_cell hblk (k * 3)).trans (by simpa using t1)
      have q2 : wr.cell? ⟨w4.heap.size, k * 3 + 1, none⟩ = _ := (blk_cell hblk (k * 3 + 1)).trans (by simpa using t2)
      have q3 : wr.cell? ⟨w4.heap.size, k * 3 + 2, none⟩ = _ := (blk_cell hblk (k * 3 + 2)).trans (by simpa using t3)
      obtain ⟨f1, f2, f3⟩ := awkP_ok k hlt
      have F3 := Lib.hid f3
      have Hblk := Lib.hid hblk
      have hrr := Lib.hid ((Hr14.out.below (hbel.mono (by omega))).more (by have := hbel.size; omega))
      clear t1 t2 t3 f3 hblk
      generalize (awkP[k]'hlt).1 = x at *
      generalize (awkP[k]'hlt).2.1 = y at *
      generalize (awkP[k]'hlt).2.2 = z at *
      go_wp2_with fail
      refine (points_any U16 x A1 c1 _ ((hrr.out.alloc (Nat.le_refl _) _).more (by simp)) (by decide)).mono ?_
      rintro e w6 ⟨rfl, hb6⟩
      rw [F3.out]
      have hbb : w6.heap[wr.heap.size]? = _ := blk_below (blk_new (.cells #[.int .i64 x, .int .i64 y, .int .i64 z] 46) rfl) hb6 (by simp)
      have p1 : w6.cell? ⟨wr.heap.size, 1, none⟩ = some (.int .i64 y) := blk_cell hbb 1
      have p2 : w6.cell? ⟨wr.heap.size, 2, none⟩ = some (.int .i64 z) := blk_cell hbb 2
      have hblk6 := Lib.hid (blk_below (blk_alloc Hblk.out (.cells #[.int .i64 x, .int .i64 y, .int .i64 z] 46)) hb6 (by simp; omega))
      have hbel6 := (hbel.alloc (by omega) _).trans (hb6.mono (by simp; omega))
      clear hbb
      go_wp2
      go_roundw
      case rel => exact ⟨k + 1, by omega, by go_num, hblk6.out, hbel6⟩
      case measure => simp [intOf]; omega
    · obtain rfl : k = 6 := by omega
      have hr5 := (Hr14.out.below hbel).more hbel.size
      have Hr15 := Lib.hid hr5
      have hB5 : Below w.heap.size w wr := hB4.trans (hbel.mono hS4)
      have hS5 := hB5.size
      obtain ⟨w5, rfl⟩ : ∃ w5 : World, w5 = wr := ⟨_, rfl⟩
      clear hr5 hblk hlw hbel hk
      go_wp2
      go_loopw [83] (fun i wr => ∃ k : Nat, k ≤ 3 ∧ i = .int .i64 (k : Int) ∧ wr.heap[w5.heap.size]? = some (.cells (tri awkM).toArray 46) ∧ Below w5.heap.size w5 wr) (fun i _ => 3 - (intOf i).toNat)
      case atStart => exact ⟨0, by omega, rfl, heap_alloc_new _ _, (by repeat (first | exact Below.refl _ _ | assumption | refine Below.drew ?_ | refine below_drewN ?_ _ | refine Below.alloc ?_ (by first | omega | (simp; done) | (simp; omega)) _ | refine Below.setCell ?_ (by first | omega | (simp; done) | (simp; omega)) _))⟩
      case round =>
        obtain ⟨k, hk, rfl, hblk, hbel⟩ := hrel
        have hlw := blk_lt hblk
        by_cases hlt : k < 3
        · obtain ⟨t1, t2, t3⟩ := tri_get awkM k hlt
          have q1 : wr.cell? ⟨w5.heap.size, k * 3, none⟩ = _ := (blk_cell hblk (k * 3)).trans (by simpa using t1)
          have q2 : wr.cell? ⟨w5.heap.size, k * 3 + 1, none⟩ = _ := (blk_cell hblk (k * 3 + 1)).trans (by simpa using t2)
          have q3 : wr.cell? ⟨w5.heap.size, k * 3 + 2, none⟩ = _ := (blk_cell hblk (k * 3 + 2)).trans (by simpa using t3)
          obtain ⟨f1, f2, f3⟩ := awkM_ok k hlt
          have F3 := Lib.hid f3
          have Hblk := Lib.hid hblk
          have hrr := Lib.hid ((Hr15.out.below (hbel.mono (by omega))).more (by have := hbel.size; omega))
          clear t1 t2 t3 f3 hblk
          generalize (awkM[k]'hlt).1 = x at *
          generalize (awkM[k]'hlt).2.1 = y at *
          generalize (awkM[k]'hlt).2.2 = z at *
          go_wp2_with fail
          refine (margins_any U16 x A1 c1 _ ((hrr.out.alloc (Nat.le_refl _) _).more (by simp)) (by decide)).mono ?_
          rintro e _ ⟨rfl, nq, rfl⟩
          have hb6 := below_drewN (Below.refl (wr.alloc (.cells #[.int .i64 x, .int .i64 y, .int .i64 z] 46)).heap.size (wr.alloc (.cells #[.int .i64 x, .int .i64 y, .int .i64 z] 46))) nq
          generalize ((wr.alloc (.cells #[.int .i64 x, .int .i64 y, .int .i64 z] 46)).drewN nq) = w6 at *
          rw [F3.out]
          have hbb : w6.heap[wr.heap.size]? = _ := blk_below (blk_new (.cells #[.int .i64 x, .int .i64 y, .int .i64 z] 46) rfl) hb6 (by simp)
          have p1 : w6.cell? ⟨wr.heap.size, 1, none⟩ = some (.int .i64 y) := blk_cell hbb 1
          have p2 : w6.cell? ⟨wr.heap.size, 2, none⟩ = some (.int .i64 z) := blk_cell hbb 2
          have hblk6 := Lib.hid (blk_below (blk_alloc Hblk.out (.cells #[.int .i64 x, .int .i64 y, .int .i64 z] 46)) hb6 (by simp; omega))
          have hbel6 := (hbel.alloc (by omega) _).trans (hb6.mono (by simp; omega))
          clear hbb
          go_wp2
          go_roundw
          case rel =>
              (repeat apply Exists.intro)
              exact ⟨⟨k + 1, by omega, by go_num, hblk6.out, hbel6⟩, rfl⟩
          case measure => simp [intOf]; omega
        · obtain rfl : k = 3 := by omega

          have m1 := Lib.hid (show marE U16 21 = 6 by decide +kernel)
          have m2 := Lib.hid (show ptsA [1] 3 = 2 ∧ ptsB [1] 3 = 0 ∧ ptsE [1] 3 = 0 by decide +kernel)
          have hr6 := Lib.hid ((Hr15.out.below hbel).more hbel.size)
          have hB6 : Below w.heap.size w wr := hB5.trans (hbel.mono hS5)
          clear hblk hlw
          go_wp2_with fail
          refine (margins_any U16 21 A1 c1 _ hr6.out (by decide)).mono ?_
          rintro e _ ⟨rfl, nq, rfl⟩
          rw [m1.out]
          go_wp2_with fail
          refine (points_any [1] 3 _ _ _ (rd_new _ [1] 3 _ _ rfl rfl) (by decide)).mono ?_
          rintro e w8 ⟨rfl, hb8⟩
          rw [m2.out.1, m2.out.2.1, m2.out.2.2]
          go_wp2
          go_ret
          exact ⟨rfl, ((below_drewN hB6 nq).alloc hB6.size _).trans (hb8.mono (by have := hB6.size; simp; omega))⟩

end Go.Proofs.Ytkdbkokiieolpaa
