/- The walks of the package victory: Right, Points, Margins, Total, Usual. -/
import Derived.Test.YtkdbkokiieolpaaChecked
import Derived.Test.YtkdbkokiieolpaaBase
import Derived.Test.YtkdbkokiieolpaaVicMath
import Derived.Deep.QuietTactic
import Derived.BigQuiet
import Derived.Deep.RegionHeld3
namespace Go.Proofs.Ytkdbkokiieolpaa
open Go.RowKit

def iC (l : List Int) : List Value := l.map (Value.int .i64)
theorem rd_i {w : World} {B : Nat} {A : Option Addr} {l : List Int} (h : Rd w B 1 A l.length (iC l)) (k : Nat) (hk : k < l.length) :
    ∃ b off, A = some ⟨b, off, none⟩ ∧ b < B ∧ w.cell? ⟨b, off + k, none⟩ = some (.int .i64 l[k]) := by
  obtain ⟨b, off, e, hb, hc⟩ := h.pos (by omega)
  exact ⟨b, off, e, hb, by rw [hc k (by simpa [iC] using hk)]; simp [iC, List.getElem?_map, List.getElem?_eq_getElem hk]⟩

set_option maxHeartbeats 400000 in
theorem right_any (s : List Int) (A : Option Addr) (c : Nat) (w : World) (hl : Rd w w.heap.size 1 A s.length (iC s)) (hm : s.length ≤ 4611686018427387904) :
    Calls Try.prog 15 #[.slice A s.length c] w fun e w' => e = .returned (.bool (rightS s)) ∧ w = w' := by
  by_cases h1 : s.length < 1
  · have hf : rightS s = false := by unfold rightS; simp; omega
    rw [hf]; clear hf
    go_enter Try.func15, Try.ntmps15
    go_wp2
    go_ret
    exact ⟨rfl, rfl⟩
  by_cases h2 : 50 < s.length
  · have hf : rightS s = false := by unfold rightS; simp; omega
    rw [hf]; clear hf
    go_enter Try.func15, Try.ntmps15
    go_wp2
    go_ret
    exact ⟨rfl, rfl⟩
  have hu := Lib.hid (show rightS s = up 0 s by unfold rightS; rw [decide_eq_true (by omega), decide_eq_true (by omega)]; rfl)
  go_enter Try.func15, Try.ntmps15
  go_wp2
  go_loop [3, 16] (fun b i => ∃ (k : Nat) (x : Int), k ≤ s.length ∧ i = .int .i64 (k : Int) ∧ b = .int .i64 x ∧ Hid (rightS s = up x (s.drop k))) (fun _ i => s.length - (intOf i).toNat)
  case atStart => exact ⟨0, 0, by omega, rfl, rfl, hu.out⟩
  case round =>
    obtain ⟨k, x, hk, rfl, rfl, hr⟩ := hrel
    by_cases hlt : k < s.length
    · obtain ⟨b, off, rfl, hbw, hc⟩ := rd_i hl k hlt
      have Hr := Lib.hid (show rightS s = (decide (x < s[k]) && decide (s[k] ≤ 1000000) && up s[k] (s.drop (k + 1))) by rw [hr.out, List.drop_eq_getElem_cons hlt, up_cons])
      generalize s[k] = y at hc Hr
      by_cases h3 : y ≤ x
      · have hf := Lib.hid (show rightS s = false by rw [Hr.out, decide_eq_false (by omega)]; rfl)
        go_wp2
        go_ret
        exact ⟨by rw [hf.out]; rfl, rfl⟩
      by_cases h4 : 1000000 < y
      · have hf := Lib.hid (show rightS s = false by rw [Hr.out, decide_eq_false (show ¬ y ≤ 1000000 by omega)]; simp)
        go_wp2
        go_ret
        exact ⟨by rw [hf.out]; rfl, rfl⟩
      have hf := Lib.hid (show rightS s = up y (s.drop (k + 1)) by rw [Hr.out, decide_eq_true (show x < y by omega), decide_eq_true (show y ≤ 1000000 by omega)]; rfl)
      go_wp2
      go_round
      case rel => exact ⟨k + 1, y, by omega, by go_num, rfl, hf⟩
      case measure => simp [intOf]; omega
    · obtain rfl : k = s.length := by omega
      have hf := Lib.hid (show rightS s = true by rw [hr.out, List.drop_length]; rfl)
      go_wp2
      go_ret
      exact ⟨by rw [hf.out]; rfl, rfl⟩

theorem far_if (m : Int) : (if m < -m then -m else m) = far m := by unfold far; split <;> split <;> omega
theorem far_bd (m : Int) (h : -1000000 ≤ m ∧ m ≤ 1000000) : 0 ≤ far m ∧ far m ≤ 1000000 := by unfold far; split <;> omega

set_option maxHeartbeats 400000 in
theorem asked_any (x m : Int) (g : Nat) (w : World) (hg : w.heap[g]? = some (.cells #[.int .i64 m] 3)) (hm : -1000000 ≤ m ∧ m ≤ 1000000) :
    Calls Try.prog 20 #[.int .i64 x, .pointer (some ⟨g, 0, none⟩)] w fun e w' => e = .returned (.bool (decide (x ≤ far m))) ∧ w = w' := by
  have hc := blk_cell hg 0
  have hf := far_if m
  clear hg
  go_enter Try.func20, Try.ntmps20
  go_wp2
  go_ret
  exact ⟨rfl, rfl⟩

set_option maxHeartbeats 400000 in
theorem count_any (s : List Int) (A : Option Addr) (c g : Nat) (m : Int) (w : World) (hl : Rd w w.heap.size 1 A s.length (iC s)) (hn : s.length ≤ 4611686018427387904)
    (hg : w.heap[g]? = some (.cells #[.int .i64 m] 3)) (hm : -1000000 ≤ m ∧ m ≤ 1000000) :
    Calls Try.prog 19 #[.slice A s.length c, .func (.func 20) #[] #[.pointer (some ⟨g, 0, none⟩)]] w fun e w' => e = .returned (.int .i64 (cntS s (far m))) ∧ w = w' := by
  have Hg := Lib.hid hg
  clear hg
  go_enter Try.func19, Try.ntmps19
  go_wp2
  go_loop [5, 10] (fun n i => ∃ k : Nat, k ≤ s.length ∧ i = .int .i64 (k : Int) ∧ n = .int .i64 (cntTo s (far m) k)) (fun _ i => s.length - (intOf i).toNat)
  case atStart => exact ⟨0, by omega, rfl, rfl⟩
  case round =>
    obtain ⟨k, hk, rfl, rfl⟩ := hrel
    by_cases hlt : k < s.length
    · obtain ⟨b, off, rfl, hbw, hc⟩ := rd_i hl k hlt
      have Hs := Lib.hid (cntTo_succ s (far m) k hlt)
      have hb := cntTo_bd s (far m) k hk
      generalize s[k] = y at hc Hs
      by_cases hy : y ≤ far m
      · have Hy := Lib.hid (decide_eq_true hy)
        have HS := Lib.hid (show cntTo s (far m) (k + 1) = cntTo s (far m) k + 1 by rw [Hs.out, if_pos hy])
        clear hy
        go_wp2_with fail
        refine (asked_any y m g w Hg.out hm).mono ?_
        rintro e w1 ⟨rfl, rfl⟩
        rw [Hy.out]
        go_wp2
        go_round
        case rel => exact ⟨k + 1, by omega, by go_num, int_eq HS.out.symm⟩
        case measure => simp [intOf]; omega
      · have Hy := Lib.hid (decide_eq_false hy)
        have HS := Lib.hid (show cntTo s (far m) (k + 1) = cntTo s (far m) k by rw [Hs.out, if_neg hy]; omega)
        clear hy
        go_wp2_with fail
        refine (asked_any y m g w Hg.out hm).mono ?_
        rintro e w1 ⟨rfl, rfl⟩
        rw [Hy.out]
        go_wp2
        go_round
        case rel => exact ⟨k + 1, by omega, by go_num, int_eq HS.out.symm⟩
        case measure => simp [intOf]; omega
    · obtain rfl : k = s.length := by omega
      go_wp2
      go_ret
      exact ⟨rfl, rfl⟩

theorem okM_false (s : List Int) (m : Int) (h : okM s m = false) : ptsA s m = 0 ∧ ptsB s m = 0 ∧ ptsE s m = 2 := by
  unfold ptsA ptsB ptsE
  rw [h]; exact ⟨rfl, rfl, rfl⟩

set_option maxHeartbeats 1000000 in
theorem points_any (s : List Int) (m : Int) (A : Option Addr) (c : Nat) (w : World) (hl : Rd w w.heap.size 1 A s.length (iC s)) (hn : s.length ≤ 4611686018427387904) :
    Calls Try.prog 11 #[.slice A s.length c, .int .i64 m] w fun e w' => e = .returned (.tuple #[.int .i64 (ptsA s m), .int .i64 (ptsB s m), .int .i64 (ptsE s m)]) ∧ Below w.heap.size w w' := by
  have hb0 : Below w.heap.size w (w.alloc (.cells #[.int .i64 m] 3)) := (Below.refl _ _).alloc (Nat.le_refl _) _
  have hl0 := (hl.below hb0).more hb0.size
  by_cases hr : rightS s = true
  · have Hr := Lib.hid hr
    by_cases h1 : m < -1000000
    · obtain ⟨e1, e2, e3⟩ := okM_false s m (by unfold okM; rw [hr, decide_eq_false (show ¬ -1000000 ≤ m by omega)]; rfl)
      rw [e1, e2, e3]; clear e1 e2 e3 hr
      go_enter Try.func11, Try.ntmps11
      go_wp2_with fail
      refine (right_any s A c _ hl0 hn).mono ?_
      rintro e _ ⟨rfl, rfl⟩
      rw [Hr.out]
      go_wp2
      go_ret3
      exact ⟨rfl, hb0⟩
    by_cases h2 : 1000000 < m
    · obtain ⟨e1, e2, e3⟩ := okM_false s m (by unfold okM; rw [decide_eq_false (show ¬ m ≤ 1000000 by omega)]; simp)
      rw [e1, e2, e3]; clear e1 e2 e3 hr
      go_enter Try.func11, Try.ntmps11
      go_wp2_with fail
      refine (right_any s A c _ hl0 hn).mono ?_
      rintro e _ ⟨rfl, rfl⟩
      rw [Hr.out]
      go_wp2
      go_ret3
      exact ⟨rfl, hb0⟩
    have hok : okM s m = true := by unfold okM; rw [hr, decide_eq_true (by omega), decide_eq_true (by omega)]; rfl
    have hcb := cntS_bd s (far m)
    have h50 : s.length ≤ 50 := ((rightS_iff s).1 hr).2.1
    by_cases h3 : m < 0
    · rw [show ptsA s m = s.length + -cntS s (far m) by unfold ptsA moreS; rw [if_pos hok, if_pos h3], show ptsB s m = s.length + cntS s (far m) by unfold ptsB moreS; rw [if_pos hok, if_pos h3]; omega, show ptsE s m = 0 by unfold ptsE; rw [if_pos hok]]
      clear hr hok
      go_enter Try.func11, Try.ntmps11
      go_wp2_with fail
      refine (right_any s A c _ hl0 hn).mono ?_
      rintro e _ ⟨rfl, rfl⟩
      rw [Hr.out]
      go_wp2_with fail
      refine (count_any s A c w.heap.size m _ hl0 hn (heap_alloc_new _ _) (by omega)).mono ?_
      rintro e _ ⟨rfl, rfl⟩
      go_wp2
      go_ret3
      exact ⟨rfl, hb0⟩
    · rw [show ptsA s m = s.length + cntS s (far m) by unfold ptsA moreS; rw [if_pos hok, if_neg h3], show ptsB s m = s.length - cntS s (far m) by unfold ptsB moreS; rw [if_pos hok, if_neg h3], show ptsE s m = 0 by unfold ptsE; rw [if_pos hok]]
      clear hr hok
      go_enter Try.func11, Try.ntmps11
      go_wp2_with fail
      refine (right_any s A c _ hl0 hn).mono ?_
      rintro e _ ⟨rfl, rfl⟩
      rw [Hr.out]
      go_wp2_with fail
      refine (count_any s A c w.heap.size m _ hl0 hn (heap_alloc_new _ _) (by omega)).mono ?_
      rintro e _ ⟨rfl, rfl⟩
      go_wp2
      go_ret3
      exact ⟨rfl, hb0⟩
  · have hr' : rightS s = false := by simpa using hr
    obtain ⟨e1, e2, e3⟩ := okM_false s m (by unfold okM; rw [hr']; rfl)
    rw [e1, e2, e3]
    have Hr := Lib.hid hr'
    clear e1 e2 e3 hr hr'
    go_enter Try.func11, Try.ntmps11
    go_wp2_with fail
    refine (right_any s A c _ hl0 hn).mono ?_
    rintro e _ ⟨rfl, rfl⟩
    rw [Hr.out]
    go_wp2
    go_ret3
    exact ⟨rfl, hb0⟩

end Go.Proofs.Ytkdbkokiieolpaa
