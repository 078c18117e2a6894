/- The walk of match.Compare. -/
import Derived.Test.YtgfnggdjjigomaaDoorMatW
namespace Go.Proofs.YtgfnggdjjigomaaDoor
open Go.RowKit

set_option maxHeartbeats 2000000 in
theorem compare_any (a b : List Pt) (A B : Option Addr) (ca cb : Nat) (w : World) (hL : Laid w) (ha : Rd w w.heap.size 2 A a.length (pC a)) (hb : Rd w w.heap.size 2 B b.length (pC b)) (hna : a.length ≤ 1000) (hnb : b.length ≤ 1000) :
    Calls Tryd.prog 30 #[.slice A a.length ca, .slice B b.length cb] w fun e w' => e = .returned (.tuple #[fV (cmpV a b), .int .i64 (cmpE a b)]) ∧ Below w.heap.size w w' := by
  have hW0 : Below w.heap.size w (w.alloc (.cells #[.int .i64 0, .int .i64 0] 40)) := (Below.refl _ _).alloc (Nat.le_refl _) _
  have ha0 := (ha.below hW0).more hW0.size
  have hb0 := (hb.below hW0).more hW0.size
  have hL0 := hL.below hW0 hL.lt
  have hblk : (w.alloc (.cells #[.int .i64 0, .int .i64 0] 40)).heap[w.heap.size]? = _ := blk_new _ rfl
  have hs0 : (w.alloc (.cells #[.int .i64 0, .int .i64 0] 40)).heap.size = w.heap.size + 1 := by simp
  clear ha hb hL
  by_cases h1 : rightM a = true
  · by_cases h2 : rightM b = true
    · have eV : cmpV a b = fr (gAB a b) 10000 := by unfold cmpV; rw [h1, h2]; rfl
      have eE : cmpE a b = 0 := by unfold cmpE; rw [h1, h2]; rfl
      rw [eV, eE]
      have hbd := gAB_bd a b h1 h2
      have H1 := Lib.hid h1
      have H2 := Lib.hid h2
      have Hs0 := Lib.hid hs0
      have HL := Lib.hid hL0
      have Hblk := Lib.hid hblk
      clear eV eE h1 h2 hs0 hL0 hblk
      go_enter Tryd.func30, Tryd.ntmps30
      go_wp2_with fail
      refine (rightM_any a A ca _ ha0 (by omega)).mono ?_
      rintro e w1 ⟨rfl, hb1⟩
      rw [H1.out]
      have s1 := hb1.size
      have hlt := HL.out.lt
      go_wp2_with fail
      refine (rightM_any b B cb _ ((hb0.below hb1).more s1) (by omega)).mono ?_
      rintro e w2 ⟨rfl, hb2⟩
      rw [H2.out]
      have hb12 := hb1.trans (hb2.mono s1)
      have s2 := hb12.size
      go_wp2_with fail
      refine (against_any a b A B ca cb _ (HL.out.below hb12 hlt) ((ha0.below hb12).more s2) ((hb0.below hb12).more s2) H1.out H2.out).mono ?_
      rintro e w3 ⟨rfl, hb3⟩
      have hb13 := hb12.trans (hb3.mono s2)
      have s3 := hb13.size
      go_wp2_with fail
      refine (make_pos (gAB a b) 10000 _ (by omega) (by omega)).mono ?_
      rintro e w4 ⟨rfl, hb4⟩
      have hb14 := hb13.trans (hb4.mono s3)
      have hk : w4.heap[w.heap.size]? = _ := blk_below Hblk.out hb14 (by rw [Hs0.out]; omega)
      have hc0 := blk_cell hk 0
      have hc1 := blk_cell hk 1
      have hf0 := blk_free hk 0
      have hf1 := blk_free hk 1
      have hB := hW0.trans (hb14.mono hW0.size)
      clear hk hb1 hb2 hb3 hb4 hb12 hb13 hb14
      obtain ⟨f1, f2, hf⟩ : ∃ f1 f2, fr (gAB a b) 10000 = (f1, f2) := ⟨_, _, rfl⟩
      rw [hf]
      have Hf := Lib.hid hf
      clear hf
      go_wp2
      exact bodyPost_ret (v := .tuple #[.agg #[.int .i64 f1, .int .i64 f2], .int .i64 0]) (by simp [results, Tryd.results30, go_sem, hc0, hc1]) rfl ⟨by rw [Hf.out]; rfl, (hB.setCell (Nat.le_refl _) _).setCell (Nat.le_refl _) _⟩
    · have h2' : rightM b = false := by simpa using h2
      have eV : cmpV a b = zeroF := by unfold cmpV; rw [h1, h2']; rfl
      have eE : cmpE a b = 2 := by unfold cmpE; rw [h1, h2']; rfl
      rw [eV, eE]
      have H1 := Lib.hid h1
      have H2 := Lib.hid h2'
      have Hs0 := Lib.hid hs0
      have Hblk := Lib.hid hblk
      clear eV eE h1 h2 h2' hs0 hL0 hblk
      go_enter Tryd.func30, Tryd.ntmps30
      go_wp2_with fail
      refine (rightM_any a A ca _ ha0 (by omega)).mono ?_
      rintro e w1 ⟨rfl, hb1⟩
      rw [H1.out]
      have s1 := hb1.size
      go_wp2_with fail
      refine (rightM_any b B cb _ ((hb0.below hb1).more s1) (by omega)).mono ?_
      rintro e w2 ⟨rfl, hb2⟩
      rw [H2.out]
      have hb12 := hb1.trans (hb2.mono s1)
      have hk : w2.heap[w.heap.size]? = _ := blk_below Hblk.out hb12 (by rw [Hs0.out]; omega)
      have hc0 := blk_cell hk 0
      have hc1 := blk_cell hk 1
      have hf0 := blk_free hk 0
      have hf1 := blk_free hk 1
      have hB := hW0.trans (hb12.mono hW0.size)
      clear hk hb1 hb2 hb12
      go_wp2
      exact bodyPost_ret (v := .tuple #[.agg #[.int .i64 0, .int .i64 0], .int .i64 2]) (by simp [results, Tryd.results30, go_sem, hc0, hc1]) rfl ⟨rfl, (hB.setCell (Nat.le_refl _) _).setCell (Nat.le_refl _) _⟩
  · have h1' : rightM a = false := by simpa using h1
    have eV : cmpV a b = zeroF := by unfold cmpV; rw [h1']; rfl
    have eE : cmpE a b = 2 := by unfold cmpE; rw [h1']; rfl
    rw [eV, eE]
    have H1 := Lib.hid h1'
    have Hs0 := Lib.hid hs0
    have Hblk := Lib.hid hblk
    clear eV eE h1 h1' hs0 hL0 hblk
    go_enter Tryd.func30, Tryd.ntmps30
    go_wp2_with fail
    refine (rightM_any a A ca _ ha0 (by omega)).mono ?_
    rintro e w1 ⟨rfl, hb1⟩
    rw [H1.out]
    have hk : w1.heap[w.heap.size]? = _ := blk_below Hblk.out hb1 (by rw [Hs0.out]; omega)
    have hc0 := blk_cell hk 0
    have hc1 := blk_cell hk 1
    have hf0 := blk_free hk 0
    have hf1 := blk_free hk 1
    have hB := hW0.trans (hb1.mono hW0.size)
    clear hk hb1
    go_wp2
    exact bodyPost_ret (v := .tuple #[.agg #[.int .i64 0, .int .i64 0], .int .i64 2]) (by simp [results, Tryd.results30, go_sem, hc0, hc1]) rfl ⟨rfl, (hB.setCell (Nat.le_refl _) _).setCell (Nat.le_refl _) _⟩

end Go.Proofs.YtgfnggdjjigomaaDoor
