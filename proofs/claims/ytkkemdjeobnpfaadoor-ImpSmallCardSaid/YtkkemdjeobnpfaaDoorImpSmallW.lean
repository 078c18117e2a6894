/- The walk of the statement ImpSmall. -/
import Derived.Test.YtkkemdjeobnpfaaDoorImpMatchesW
namespace Go.Proofs.YtkkemdjeobnpfaaDoor
open Go.RowKit

/-- The numbers about the limits of scores. -/
def edgeL : List Int := [-7601, -7600, -10, 0, 90, 7600, 7601, 9223372036854775807, -9223372036854775808]
def edgeC : Array Value := (edgeL.map (Value.int .i64)).toArray
theorem edge_get (k : Nat) (h : k < 9) : edgeC[k]? = some (.int .i64 (edgeL[k]'h)) := by
  have e : edgeL[k]? = some (edgeL[k]'h) := List.getElem?_eq_getElem _
  simp [edgeC, List.getElem?_map, e]

/-- The boards of a long match, the first k of them filled in. -/
def Ls (n k : Nat) : List (Int × Int) := (List.range n).map fun i => if i < k then (37 * (i : Int) - 2000, 11 * (i : Int)) else (0, 0)
theorem Ls_len (n k : Nat) : (Ls n k).length = n := by simp [Ls]
theorem Ls_zero (n : Nat) : Ls n 0 = List.replicate n (0, 0) := by
  unfold Ls
  apply List.ext_getElem (by simp)
  intro i h1 h2
  simp
theorem bCells_zero (n : Nat) : bCells (List.replicate n (0, 0)) = List.replicate (n * 2) (.int .i64 0) := by
  induction n with
  | zero => rfl
  | succ n ih =>
    rw [List.replicate_succ, show (n + 1) * 2 = n * 2 + 1 + 1 by omega, List.replicate_succ, List.replicate_succ, ← ih]; rfl
theorem bCells_setB (L : List (Int × Int)) : ∀ (i : Nat) (_ : i < L.length) (x y : Int), ((bCells L).set (i * 2) (.int .i64 x)).set (i * 2 + 1) (.int .i64 y) = bCells (L.set i (x, y)) := by
  induction L with
  | nil => intro i h; simp at h
  | cons b L ih =>
    intro i h x y
    have e : ∀ M : List (Int × Int), ∀ c : Int × Int, bCells (c :: M) = .int .i64 c.1 :: .int .i64 c.2 :: bCells M := fun _ _ => rfl
    cases i with
    | zero => simp [e]
    | succ i =>
      have := ih i (by simpa using h) x y
      rw [e, show (i + 1) * 2 + 1 = (i * 2 + 1) + 1 + 1 by omega, show (i + 1) * 2 = i * 2 + 1 + 1 by omega, List.set_cons_succ, List.set_cons_succ, List.set_cons_succ, List.set_cons_succ, this]
      simp [e]
theorem bCells_setA (L : List (Int × Int)) : ∀ (i : Nat) (h : i < L.length) (x : Int), (bCells L).set (i * 2) (.int .i64 x) = bCells (L.set i (x, L[i].2)) := by
  induction L with
  | nil => intro i h; simp at h
  | cons b L ih =>
    intro i h x
    have e : ∀ M : List (Int × Int), ∀ c : Int × Int, bCells (c :: M) = .int .i64 c.1 :: .int .i64 c.2 :: bCells M := fun _ _ => rfl
    cases i with
    | zero => simp [e]
    | succ i =>
      have := ih i (by simpa using h) x
      rw [e, show (i + 1) * 2 = i * 2 + 1 + 1 by omega, List.set_cons_succ, List.set_cons_succ, this]
      simp [e]
theorem matches_n (L : List (Int × Int)) (n : Nat) (hn : n = L.length) (A : Option Addr) (c : Nat) (w : World) (hg : Laid w) (hl : Rd w w.heap.size 2 A L.length (bCells L)) (hA : A = none → c = 0) (hm : L.length ≤ 1000) :
    Calls Tryd.prog 18 #[.slice A n c] w fun e w' => e = .returned (.bool true) ∧ Below w.heap.size w w' := by
  subst hn; exact matches_any L A c w hg hl hA hm
theorem make_boards (W : World) (n : Nat) (hn : n ≤ 65536) : (Instr.makeSlice 34 (.int .i64 (n : Int)) (.int .i64 (n : Int))).run Tryd.prog W = .ok (.slice (some ⟨W.heap.size, 0, none⟩) n n) (W.alloc (.cells (bCells (Ls n 0)).toArray 29)) := by
  obtain ⟨i0, hi, hz0, hz1, hz2⟩ := info_parts info_board
  have hr := run_make (P := Tryd.prog) W 34 29 i0 _ Tryd.underlying34 hi hz0 .i64 .i64 (n : Int) (n : Int) (by omega) (by omega) (by rw [hz2]; omega) (by omega)
  rw [hr, Ls_zero, bCells_zero, hz1]
  congr 2
  simp only [Int.toNat_natCast]
  congr 1
  apply Array.ext
  · simp [size_madeCells]
  · intro j h1 h2
    simp [madeCells]
    rcases Nat.mod_two_eq_zero_or_one j with h | h <;> simp [h, Value.cells]
theorem Ls_set (n k : Nat) : (Ls n k).set k (37 * (k : Int) - 2000, 11 * (k : Int)) = Ls n (k + 1) := by
  unfold Ls
  apply List.ext_getElem (by simp)
  intro i h1 h2
  rw [List.getElem_set]
  split
  · rename_i e; subst e; simp
  · rename_i e
    simp only [List.getElem_map, List.getElem_range]
    by_cases h3 : i < k
    · rw [if_pos h3, if_pos (by omega)]
    · rw [if_neg h3, if_neg (by omega)]

set_option maxHeartbeats 4000000 in
set_option maxRecDepth 100000 in
theorem impSmall_walk (w : World) (hg : Laid w) :
    Calls Tryd.prog 5 #[] w fun e w' => e = .returned (.bool true) ∧ Below w.heap.size w w' := by
  go_enter Tryd.func5, Tryd.ntmps5
  go_wp2
  go_loopw [1] (fun d wr => ∃ x : Int, -4200 ≤ x ∧ x ≤ 4201 ∧ d = .int .i64 x ∧ Below w.heap.size w wr) (fun d _ => (4201 - intOf d).toNat)
  case atStart => exact ⟨-4200, by omega, by omega, rfl, Below.refl _ _⟩
  case round =>
    obtain ⟨x, hx1, hx2, rfl, hbel⟩ := hrel
    have hl1 := hg.below hbel hg.lt
    have hs1 := hbel.size
    by_cases hlt : x ≤ 4200
    · have Hl1 := Lib.hid hl1
      go_wp2_with fail
      refine (imp_any _ _ Hl1.out).mono ?_
      rintro e _ ⟨rfl, rfl⟩
      go_wp2_with fail
      refine (impref_any _ _).mono ?_
      rintro e w1 ⟨rfl, hb1⟩
      go_wp2
      go_roundw
      case rel => exact ⟨x + 1, by omega, by omega, by go_num, hbel.trans (hb1.mono hs1)⟩
      case measure => simp [intOf]; omega
    · obtain ⟨w1, rfl⟩ : ∃ w1 : World, w1 = wr := ⟨_, rfl⟩
      have Hl1 := Lib.hid hl1
      go_wp2
      go_loopw [2] (fun d wr => ∃ x : Int, -2 ≤ x ∧ x ≤ 28 ∧ d = .int .i64 x ∧ Below w.heap.size w wr) (fun d _ => (28 - intOf d).toNat)
      case atStart => exact ⟨-2, by omega, by omega, rfl, hbel⟩
      case round =>
        obtain ⟨y, hy1, hy2, rfl, hbm⟩ := hrel
        have hl2 := hg.below hbm hg.lt
        have hs2 := hbm.size
        by_cases hlt2 : y < 28
        · have Hl2 := Lib.hid hl2
          go_wp2_with fail
          refine (least_any _ _ Hl2.out).mono ?_
          rintro e _ ⟨rfl, rfl⟩
          go_wp2_with fail
          refine (leastref_any _ _).mono ?_
          rintro e w3 ⟨rfl, hb3⟩
          go_wp2
          go_roundw
          case rel => exact ⟨y + 1, by omega, by omega, by go_num, hbm.trans (hb3.mono hs2)⟩
          case measure => simp [intOf]; omega
        · obtain ⟨w2, rfl⟩ : ∃ w2 : World, w2 = wr := ⟨_, rfl⟩
          go_wp2
          go_loopw [51] (fun d wr => ∃ k : Nat, k ≤ 9 ∧ d = .int .i64 (k : Int) ∧ wr.heap[w2.heap.size]? = some (.cells edgeC 3) ∧ Below w.heap.size w wr ∧ w2.heap.size < wr.heap.size) (fun d _ => 9 - (intOf d).toNat)
          case atStart => exact ⟨0, by omega, rfl, heap_alloc_new _ _, hbm.alloc hbm.size _, by simp⟩
          case round =>
            obtain ⟨k, hk, rfl, hblk, hbn, hszn⟩ := hrel
            have hl3 := hg.below hbn hg.lt
            by_cases hlt3 : k < 9
            · have hce := (blk_cell hblk k).trans (edge_get k hlt3)
              have Hblk := Lib.hid hblk
              clear hblk
              generalize (edgeL[k]'hlt3) = a at hce
              obtain ⟨w3, rfl⟩ : ∃ w3 : World, w3 = wr := ⟨_, rfl⟩
              have Hl3 := Lib.hid hl3
              have hdk : decide ((k : Int) < 9) = true := decide_eq_true (by omega)
              go_wp2
              go_loopw [57] (fun d wr => ∃ j : Nat, j ≤ 9 ∧ d = .int .i64 (j : Int) ∧ wr.heap[w3.heap.size]? = some (.cells edgeC 3) ∧ Below w3.heap.size w3 wr ∧ w3.heap.size < wr.heap.size) (fun d _ => 9 - (intOf d).toNat)
              case atStart => exact ⟨0, by omega, rfl, heap_alloc_new _ _, (Below.refl _ _).alloc (Nat.le_refl _) _, by simp⟩
              case round =>
                obtain ⟨j, hj, rfl, hblj, hbo, hszo⟩ := hrel
                have hl4 := Hl3.out.below hbo Hl3.out.lt
                have hs4 := hbo.size
                by_cases hlt4 : j < 9
                · have hcf := (blk_cell hblj j).trans (edge_get j hlt4)
                  have Hblj := Lib.hid hblj
                  clear hblj
                  generalize (edgeL[j]'hlt4) = b at hcf
                  have Hl4 := Lib.hid hl4
                  go_wp2_with fail
                  refine (swing_any _ _ _ Hl4.out).mono ?_
                  rintro e w5 ⟨rfl, hb5⟩
                  have hl5 := Hl4.out.below hb5 Hl4.out.lt
                  have hs5 := hb5.size
                  go_wp2_with fail
                  refine (swingref_any _ _ _).mono ?_
                  rintro e w6 ⟨rfl, hb6⟩
                  have hl6 := hl5.below hb6 hl5.lt
                  have hs6 := hb6.size
                  go_wp2_with fail
                  refine (matches_any [(100, 0), (a, b), (0, 100)] _ _ _ (hl6.below ((Below.refl _ _).alloc (Nat.le_refl _) _) hl6.lt)
                    (Rd.more (B := w6.heap.size + 1) ⟨rfl, fun _ => ⟨_, 0, rfl, by omega, fun i hi => by rw [Nat.zero_add]; exact (blk_cell (blk_new _ rfl) i).trans (by simp [bCells])⟩⟩ (by simp)) (fun h => by cases h) (by simp)).mono ?_
                  rintro e w7 ⟨rfl, hb7⟩
                  have hbp : Below w3.heap.size w3 w7 := by
                    have t1 := hbo.trans (hb5.mono hs4)
                    have t2 := t1.trans (hb6.mono t1.size)
                    exact (t2.alloc t2.size _).trans (hb7.mono (by have := t2.size; simp; omega))
                  have hblq : w7.heap[w3.heap.size]? = _ := blk_below (blk_alloc (blk_below (blk_below Hblj.out hb5 hszo) hb6 (by omega)) _) hb7 (by simp; omega)
                  have hs7 : w6.heap.size + 1 ≤ w7.heap.size := by have := hb7.size; simpa using this
                  go_wp2
                  go_roundw
                  case rel =>
                    exact ⟨j + 1, by omega, by go_num, hblq, hbp, by omega⟩
                  case measure => simp [intOf]; omega
                · obtain rfl : j = 9 := by omega
                  have Hl4 := Lib.hid hl4
                  have hbq : Below w.heap.size w wr := hbn.trans (hbo.mono hbn.size)
                  have hblq : wr.heap[w2.heap.size]? = _ := blk_below Hblk.out hbo hszn
                  have Hblq := Lib.hid hblq
                  clear hblq hblj
                  go_wp2_with fail
                  refine (imp_any _ _ Hl4.out).mono ?_
                  rintro e _ ⟨rfl, rfl⟩
                  go_wp2_with fail
                  refine (impref_any _ _).mono ?_
                  rintro e w5 ⟨rfl, hb5⟩
                  have hs5 := hb5.size
                  go_wp2
                  go_roundw
                  case rel => exact ⟨k + 1, by omega, by go_num, blk_below Hblq.out hb5 (by omega), hbq.trans (hb5.mono hbq.size), by omega⟩
                  case measure => simp [intOf]; omega
            · obtain rfl : k = 9 := by omega
              clear hblk
              have Hl3 := Lib.hid hl3
              go_wp2
              go_loopw [15] (fun d wr => ∃ n : Nat, 126 ≤ n ∧ n ≤ 131 ∧ d = .int .i64 (n : Int) ∧ Below w.heap.size w wr) (fun d _ => 131 - (intOf d).toNat)
              case atStart => exact ⟨126, by omega, by omega, rfl, hbn⟩
              case round =>
                obtain ⟨n, hn1, hn2, rfl, hbp⟩ := hrel
                have hl5 := hg.below hbp hg.lt
                obtain ⟨w4, rfl⟩ : ∃ w4 : World, w4 = wr := ⟨_, rfl⟩
                have Hl5 := Lib.hid hl5
                have hs4 := hbp.size
                by_cases hlt5 : n < 131
                · have hmk : ∀ W : World, (Instr.makeSlice 34 (.int .i64 (n : Int)) (.int .i64 (n : Int))).run Tryd.prog W = .ok (.slice (some ⟨W.heap.size, 0, none⟩) n n) (W.alloc (.cells (bCells (Ls n 0)).toArray 29)) := fun W => make_boards W n (by omega)
                  have hdn : decide ((n : Int) < 131) = true := decide_eq_true (by omega)
                  go_wp2
                  go_loopw [107] (fun d wr => ∃ k : Nat, k ≤ n ∧ d = .int .i64 (k : Int) ∧ wr.heap[w4.heap.size]? = some (.cells (bCells (Ls n k)).toArray 29) ∧ Below w4.heap.size w4 wr) (fun d _ => n - (intOf d).toNat)
                  case atStart => exact ⟨0, by omega, rfl, heap_alloc_new _ _, (by repeat (first | exact Below.refl _ _ | assumption | refine Below.drew ?_ | refine below_drewN ?_ _ | refine Below.alloc ?_ (by first | omega | (simp; done) | (simp; omega)) _ | refine Below.setCell ?_ (by first | omega | (simp; done) | (simp; omega)) _))⟩
                  case round =>
                    obtain ⟨k, hk, rfl, hblk, hbq⟩ := hrel
                    have hszq := blk_lt hblk
                    have hll : (bCells (Ls n k)).length = n * 2 := by rw [bCells_len, Ls_len]
                    by_cases hlt6 : k < n
                    · obtain ⟨y0, k0⟩ : ∃ y, wr.cell? ⟨w4.heap.size, k * 2, none⟩ = some y := ⟨_, (blk_cell hblk _).trans (by simp; exact List.getElem?_eq_getElem (show k * 2 < (bCells (Ls n k)).length by omega))⟩
                      obtain ⟨y1, k1⟩ : ∃ y, wr.cell? ⟨w4.heap.size, k * 2 + 1, none⟩ = some y := ⟨_, (blk_cell hblk _).trans (by simp; exact List.getElem?_eq_getElem (show k * 2 + 1 < (bCells (Ls n k)).length by omega))⟩
                      have kf : ∀ j, wr.frozen? ⟨w4.heap.size, j, none⟩ = false := blk_free hblk
                      have Hblk := Lib.hid hblk
                      have hi1 : (k : Int) < (n : Int) := by omega
                      clear hblk hll
                      go_wp2
                      go_roundw
                      case rel =>
                        refine ⟨k + 1, by omega, by go_num, ?_, (by repeat (first | exact Below.refl _ _ | assumption | refine Below.drew ?_ | refine below_drewN ?_ _ | refine Below.alloc ?_ (by first | omega | (simp; done) | (simp; omega)) _ | refine Below.setCell ?_ (by first | omega | (simp; done) | (simp; omega)) _))⟩
                        have h1 := blk_set (blk_set Hblk.out (k * 2) (.int .i64 (37 * (k : Int) - 2000))) (k * 2 + 1) (.int .i64 (11 * (k : Int)))
                        rw [← Ls_set n k, ← bCells_setB _ k (by rw [Ls_len]; exact hlt6)]
                        simpa using h1
                      case measure => simp [intOf]; omega
                    · obtain rfl : k = n := by omega
                      have hdk2 := blk_free hblk
                      have hl6 := Hl5.out.below hbq Hl5.out.lt
                      have hlen : (Ls k k).length = k := Ls_len k k
                      have hr := rd_of_blk (xs := bCells (Ls k k)) (n := k) (sz := 2) hblk (by simp [bCells_len, hlen, List.take_of_length_le]) hll
                      have Hlen := Lib.hid hlen
                      have Hblk := Lib.hid hblk
                      have Hll := Lib.hid hll
                      clear hlen hblk hll hdk2
                      have hk1 : ((k : Int) - 1) = ((k - 1 : Nat) : Int) := by omega
                      go_wp2_with fail
                      refine (matches_n (Ls k k) k Hlen.out.symm (some ⟨w4.heap.size, 0, none⟩) k wr hl6 (by rw [Hlen.out]; exact hr) (fun h => by cases h) (by rw [Hlen.out]; omega)).mono ?_
                      rintro e w5 ⟨rfl, hb5⟩
                      have hs5 := hb5.size
                      have hblk5 := blk_below Hblk.out hb5 hszq
                      obtain ⟨y0, k0⟩ : ∃ y, w5.cell? ⟨w4.heap.size, (k - 1) * 2, none⟩ = some y := ⟨_, (blk_cell hblk5 _).trans (by simp; exact List.getElem?_eq_getElem (show (k - 1) * 2 < (bCells (Ls k k)).length by rw [Hll.out]; omega))⟩
                      have kf : ∀ j, w5.frozen? ⟨w4.heap.size, j, none⟩ = false := blk_free hblk5
                      have hl7 := hl6.below hb5 hl6.lt
                      have hbW5 : Below w.heap.size w w5 := (hbp.trans (hbq.mono hs4)).trans (hb5.mono (by have := hbq.size; omega))
                      have hB6 := blk_set hblk5 ((k - 1) * 2) (.int .i64 8000)
                      have hbW6 : Below w.heap.size w (w5.setCell ⟨w4.heap.size, (k - 1) * 2, none⟩ (.int .i64 8000)) := hbW5.setCell hs4 _
                      have hset := bCells_setA (Ls k k) (k - 1) (by rw [Hlen.out]; omega) 8000
                      have hr6 := rd_of_blk (xs := bCells ((Ls k k).set (k - 1) (8000, ((Ls k k)[k - 1]'(by rw [Hlen.out]; omega)).2))) (n := k) (sz := 2) hB6 (by rw [← hset]; simp [Hll.out, List.take_of_length_le]) (by rw [← hset, List.length_set]; exact Hll.out)
                      obtain ⟨M, hMl, hrM⟩ : ∃ M : List (Int × Int), M.length = k ∧ Rd (w5.setCell ⟨w4.heap.size, (k - 1) * 2, none⟩ (.int .i64 8000)) (w5.setCell ⟨w4.heap.size, (k - 1) * 2, none⟩ (.int .i64 8000)).heap.size 2 (some ⟨w4.heap.size, 0, none⟩) k (bCells M) := ⟨_, by rw [List.length_set]; exact Hlen.out, hr6⟩
                      have HMl := Lib.hid hMl
                      clear hr6 hMl
                      have hl8 := hg.below hbW6 hg.lt
                      have Hset := Lib.hid hset
                      have HB6 := Lib.hid hB6
                      clear hset hB6 hblk5
                      go_wp2_with fail
                      generalize (w5.setCell ⟨w4.heap.size, (k - 1) * 2, none⟩ (.int .i64 8000)) = w6 at *
                      refine (matches_n M k HMl.out.symm (some ⟨w4.heap.size, 0, none⟩) k w6 hl8 (by rw [HMl.out]; exact hrM) (fun h => by cases h) (by rw [HMl.out]; omega)).mono ?_
                      rintro e w7 ⟨rfl, hb7⟩
                      go_wp2
                      go_roundw
                      case rel =>
                        (repeat apply Exists.intro)
                        exact ⟨⟨k + 1, by omega, by omega, by go_num, hbW6.trans (hb7.mono hbW6.size)⟩, rfl⟩
                      case measure => simp [intOf]; omega
                · obtain rfl : n = 131 := by omega
                  go_wp2_with fail
                  refine (awake_any _ Hl5.out).mono ?_
                  rintro e w9 ⟨rfl, hb9⟩
                  go_wp2
                  go_ret
                  exact ⟨rfl, hbp.trans (hb9.mono hs4)⟩

end Go.Proofs.YtkkemdjeobnpfaaDoor
