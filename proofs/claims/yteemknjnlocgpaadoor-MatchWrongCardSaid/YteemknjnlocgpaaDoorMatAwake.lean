/- The walk of the examples of the chapter on matchpoints. -/
import Derived.Test.YteemknjnlocgpaaDoorMatHelpW
namespace Go.Proofs.YteemknjnlocgpaaDoor
open Go.RowKit

def exL : List (List Pt) := onesL [420, 450, 420, -50]
def halfL : List Pt := [(420, 50), (-50, 50)]
theorem exL_right : ∀ o ∈ exL, rightM o = true := by
  have : exL.all rightM = true := by decide +kernel
  exact List.all_eq_true.1 this
theorem exL_pts : ptsL exL = [(3, 1), (6, 1), (3, 1), (0, 1)] := by decide +kernel
theorem ex1 : cmpV halfL [(400, 100)] = (1, 1) ∧ cmpE halfL [(400, 100)] = 0 := by decide +kernel
theorem ex2 : cmpV halfL [(420, 100)] = (1, 2) ∧ cmpE halfL [(420, 100)] = 0 := by decide +kernel
theorem ex3 : cmpV [(600, 33), (100, 67)] [(600, 40), (50, 60)] = (333, 250) ∧ cmpE [(600, 33), (100, 67)] [(600, 40), (50, 60)] = 0 := by decide +kernel
/-- A block of parts, known whole, reads as them. -/
theorem rd_parts {w : World} {g t n : Nat} {cs : Array Value} {l : List Pt} (h : w.heap[g]? = some (.cells cs t (0, 0))) (hc : cs.toList = pC l) (hn : n = l.length) : Rd w w.heap.size 2 (some ⟨g, 0, none⟩) n (pC l) := by
  subst hn
  exact rd_of_blk h (by rw [hc, List.take_of_length_le (by rw [pC_len]; exact Nat.le_refl _)]) (pC_len l)

/-- A row of the call's own with elements starts at the head of a block. -/
theorem own_at' {w : World} {base n : Nat} {e sz : Nat} {v : Value} {xs : List Value} (h : w.ownsRow base e sz v n xs) (hn : 0 < n) : ∃ g c, v = .slice (some ⟨g, 0, none⟩) n c := by
  rcases h.2 with ⟨_, h0⟩ | ⟨g, cap, cur, rfl, _⟩
  · omega
  · exact ⟨g, cap, rfl⟩
set_option maxHeartbeats 4000000 in
set_option maxRecDepth 100000 in
theorem awake_any (w : World) (hL : Laid w) : Calls Tryd.prog 10 #[] w fun e w' => e = .returned (.bool true) ∧ Below w.heap.size w w' := by
  have h0 := hL.lt
  go_enter Tryd.func10, Tryd.ntmps10
  go_wp2_with fail
  have hW0 : Below w.heap.size w (w.alloc (.cells #[.int .i64 420, .int .i64 450, .int .i64 420, .int .i64 (-50)] 3)) := (Below.refl _ _).alloc (Nat.le_refl _) _
  refine (ones_any [420, 450, 420, -50] (some ⟨w.heap.size, 0, none⟩) 4 _ (rd_of_blk (sz := 1) (n := 4) (heap_alloc_new _ _) (by rfl) (by rfl)) (by decide)).mono ?_
  rintro e w1 ⟨v1, xs1, rfl, ho1, hol1, hb1⟩
  obtain ⟨A1, c1, rfl⟩ := own_form ho1
  have hr1 : RdL w1 w1.heap.size A1 exL := rdl_of_own (L := exL) ho1 hol1
  have hB1 := hW0.trans (hb1.mono hW0.size)
  have s1 := hB1.size
  have hL1 := hL.below hB1 h0
  clear hW0 hb1 ho1 hol1
  go_wp2_with fail
  refine (points_any exL A1 c1 w1 hL1 hr1 (by decide) exL_right).mono ?_
  rintro e w2 ⟨v2, rfl, ho2, hb2⟩
  have hL2 := hL1.below hb2 hL1.lt
  have hB2 := hB1.trans (hb2.mono s1)
  have s2 := hB2.size
  obtain ⟨g2, c2, rfl⟩ := own_at' ho2 (by decide)
  rw [exL_pts] at ho2
  have Ho2 := Lib.hid ho2
  clear hb2 hr1 hL1 hB1 s1 ho2
  go_wp2_with fail
  refine (one_any 400 _).mono ?_
  rintro e _ ⟨rfl, rfl⟩
  go_wp2_with fail
  have hbA : Below w2.heap.size w2 ((w2.alloc (.cells #[.int .i64 420, .int .i64 50, .int .i64 (-50), .int .i64 50] 44)).alloc (.cells #[.int .i64 400, .int .i64 100] 44)) := ((Below.refl _ _).alloc (Nat.le_refl _) _).alloc (by simp) _
  refine (compare_any halfL [(400, 100)] (some ⟨w2.heap.size, 0, none⟩) (some ⟨w2.heap.size + 1, 0, none⟩) 2 1 _ (hL2.below hbA hL2.lt) (rd_parts (blk_alloc (blk_new (.cells #[.int .i64 420, .int .i64 50, .int .i64 (-50), .int .i64 50] 44) rfl) _) (by rfl) rfl) (rd_parts (blk_new (.cells #[.int .i64 400, .int .i64 100] 44) (by simp)) (by rfl) rfl) (by decide) (by decide)).mono ?_
  rintro e w3 ⟨rfl, hb3⟩
  rw [ex1.1, ex1.2, show fV (1, 1) = .agg #[.int .i64 1, .int .i64 1] from rfl]
  have hB3 : Below w2.heap.size w2 w3 := hbA.trans (hb3.mono hbA.size)
  have s3 : w2.heap.size + 2 ≤ w3.heap.size := by have := hb3.size; simp at this; omega
  have hh3 : w3.heap[w2.heap.size]? = some (.cells #[.int .i64 420, .int .i64 50, .int .i64 (-50), .int .i64 50] 44) := blk_below (blk_alloc (blk_new (.cells #[.int .i64 420, .int .i64 50, .int .i64 (-50), .int .i64 50] 44) rfl) _) hb3 (by simp; omega)
  have hL3 := hL2.below hB3 hL2.lt
  have Hh3 := Lib.hid hh3
  clear hb3 hbA hh3
  go_wp2_with fail
  refine (one_any 420 _).mono ?_
  rintro e _ ⟨rfl, rfl⟩
  go_wp2_with fail
  have hbB : Below w3.heap.size w3 ((w3.alloc (.cells #[.int .i64 1, .int .i64 1] 46)).alloc (.cells #[.int .i64 420, .int .i64 100] 44)) := ((Below.refl _ _).alloc (Nat.le_refl _) _).alloc (by simp) _
  refine (compare_any halfL [(420, 100)] (some ⟨w2.heap.size, 0, none⟩) (some ⟨w3.heap.size + 1, 0, none⟩) 2 1 _ (hL3.below hbB hL3.lt) (rd_parts (blk_below Hh3.out hbB (by omega)) (by rfl) rfl) (rd_parts (blk_new (.cells #[.int .i64 420, .int .i64 100] 44) (by simp)) (by rfl) rfl) (by decide) (by decide)).mono ?_
  rintro e w4 ⟨rfl, hb4⟩
  rw [ex2.1, ex2.2, show fV (1, 2) = .agg #[.int .i64 1, .int .i64 2] from rfl]
  have hB4 : Below w3.heap.size w3 w4 := hbB.trans (hb4.mono hbB.size)
  have s4 : w3.heap.size + 2 ≤ w4.heap.size := by have := hb4.size; simp at this; omega
  have hf1 : w4.heap[w3.heap.size]? = some (.cells #[.int .i64 1, .int .i64 1] 46) := blk_below (blk_alloc (blk_new _ rfl) _) hb4 (by simp; omega)
  have hL4 := hL3.below hB4 hL3.lt
  have Hf1 := Lib.hid hf1
  clear hb4 hbB hf1
  go_wp2_with fail
  have hbC : Below w4.heap.size w4 (((w4.alloc (.cells #[.int .i64 1, .int .i64 2] 46)).alloc (.cells #[.int .i64 600, .int .i64 33, .int .i64 100, .int .i64 67] 44)).alloc (.cells #[.int .i64 600, .int .i64 40, .int .i64 50, .int .i64 60] 44)) := (((Below.refl _ _).alloc (Nat.le_refl _) _).alloc (by simp) _).alloc (by simp; omega) _
  refine (compare_any [(600, 33), (100, 67)] [(600, 40), (50, 60)] (some ⟨w4.heap.size + 1, 0, none⟩) (some ⟨w4.heap.size + 1 + 1, 0, none⟩) 2 2 _ (hL4.below hbC hL4.lt) (rd_parts (blk_alloc (blk_new (.cells #[.int .i64 600, .int .i64 33, .int .i64 100, .int .i64 67] 44) (by simp)) _) (by rfl) rfl) (rd_parts (blk_new (.cells #[.int .i64 600, .int .i64 40, .int .i64 50, .int .i64 60] 44) (by simp)) (by rfl) rfl) (by decide) (by decide)).mono ?_
  rintro e w5 ⟨rfl, hb5⟩
  rw [ex3.1, ex3.2, show fV (333, 250) = .agg #[.int .i64 333, .int .i64 250] from rfl]
  have hB5 : Below w4.heap.size w4 w5 := hbC.trans (hb5.mono hbC.size)
  have s5 : w4.heap.size + 3 ≤ w5.heap.size := by have := hb5.size; simp at this; omega
  have hf2 : w5.heap[w4.heap.size]? = some (.cells #[.int .i64 1, .int .i64 2] 46) := blk_below (blk_alloc (blk_alloc (blk_new _ rfl) _) _) hb5 (by simp; omega)
  have hf1 : w5.heap[w3.heap.size]? = some (.cells #[.int .i64 1, .int .i64 1] 46) := blk_below Hf1.out hB5 (by omega)
  have ho5 := own_below Ho2.out (hB3.trans ((hB4.trans (hB5.mono (by omega))).mono (by omega))) (Nat.le_refl _)
  have hg2 := (ho5.lt g2 rfl).2
  have hBall := hB2.trans ((hB3.trans ((hB4.trans (hB5.mono (by omega))).mono (by omega))).mono s2)
  have CF := Lib.hid (fun (W : World) (hW : Below (w5.heap.size + 1) (w5.alloc (.cells #[.int .i64 333, .int .i64 250] 46)) W) (b o : Nat) (hb : b < w5.heap.size + 1) => hW.cell (p := ⟨b, o, none⟩) hb)
  have D : ∀ (b o : Nat), b < w5.heap.size → (w5.alloc (.cells #[.int .i64 333, .int .i64 250] 46)).cell? ⟨b, o, none⟩ = w5.cell? ⟨b, o, none⟩ := fun b o hb => (((Below.refl _ _).alloc (Nat.le_refl _) _ : Below w5.heap.size w5 (w5.alloc (.cells #[.int .i64 333, .int .i64 250] 46)))).cell (p := ⟨b, o, none⟩) hb
  have E00 := Lib.hid ((D g2 0 hg2).trans (ho5.cellAt 0 (by decide)))
  have E01 := Lib.hid ((D g2 1 hg2).trans (ho5.cellAt 1 (by decide)))
  have E10 := Lib.hid ((D g2 2 hg2).trans (ho5.cellAt 2 (by decide)))
  have E11 := Lib.hid ((D g2 3 hg2).trans (ho5.cellAt 3 (by decide)))
  have E20 := Lib.hid ((D g2 4 hg2).trans (ho5.cellAt 4 (by decide)))
  have E21 := Lib.hid ((D g2 5 hg2).trans (ho5.cellAt 5 (by decide)))
  have E30 := Lib.hid ((D g2 6 hg2).trans (ho5.cellAt 6 (by decide)))
  have E31 := Lib.hid ((D g2 7 hg2).trans (ho5.cellAt 7 (by decide)))
  have E40 := Lib.hid ((D w3.heap.size 0 (by omega)).trans (blk_cell hf1 0))
  have E41 := Lib.hid ((D w3.heap.size 1 (by omega)).trans (blk_cell hf1 1))
  have E50 := Lib.hid ((D w4.heap.size 0 (by omega)).trans (blk_cell hf2 0))
  have E51 := Lib.hid ((D w4.heap.size 1 (by omega)).trans (blk_cell hf2 1))
  have E60 := Lib.hid (blk_cell (blk_new (w := w5) (.cells #[.int .i64 333, .int .i64 250] 46) rfl) 0)
  have E61 := Lib.hid (blk_cell (blk_new (w := w5) (.cells #[.int .i64 333, .int .i64 250] 46) rfl) 1)
  have hb60 : Below (w5.heap.size + 1) (w5.alloc (.cells #[.int .i64 333, .int .i64 250] 46)) (w5.alloc (.cells #[.int .i64 333, .int .i64 250] 46)) := Below.refl _ _
  have z6 : w5.heap.size + 1 ≤ (w5.alloc (.cells #[.int .i64 333, .int .i64 250] 46)).heap.size := by simp
  have hBall6 := hBall.alloc hBall.size (.cells #[.int .i64 333, .int .i64 250] 46)
  have hBs := hBall.size
  clear hB3 hB4 hB5 D hf1 hf2 ho5 hL3 hL4 hL2 hB2 hb5 hbC hBall
  have q0 : (w5.alloc (.cells #[.int .i64 333, .int .i64 250] 46)).cell? ⟨g2, 0, none⟩ = some (.int .i64 3) := (CF.out _ hb60 g2 0 (by omega)).trans E00.out
  have q1 : (w5.alloc (.cells #[.int .i64 333, .int .i64 250] 46)).cell? ⟨g2, 1, none⟩ = some (.int .i64 1) := (CF.out _ hb60 g2 1 (by omega)).trans E01.out
  go_wp2_with fail
  refine (is_eq 3 1 _).mono ?_
  rintro e v0 ⟨rfl, hc0⟩
  have hb61 := hb60.trans (hc0.mono (by have := hb60.size; omega))
  clear q0 q1
  have q0 : v0.cell? ⟨g2, 2, none⟩ = some (.int .i64 6) := (CF.out _ hb61 g2 2 (by omega)).trans E10.out
  have q1 : v0.cell? ⟨g2, 3, none⟩ = some (.int .i64 1) := (CF.out _ hb61 g2 3 (by omega)).trans E11.out
  go_wp2_with fail
  refine (is_eq 6 1 _).mono ?_
  rintro e v1 ⟨rfl, hc1⟩
  have hb62 := hb61.trans (hc1.mono (by have := hb61.size; omega))
  clear q0 q1
  have q0 : v1.cell? ⟨g2, 4, none⟩ = some (.int .i64 3) := (CF.out _ hb62 g2 4 (by omega)).trans E20.out
  have q1 : v1.cell? ⟨g2, 5, none⟩ = some (.int .i64 1) := (CF.out _ hb62 g2 5 (by omega)).trans E21.out
  go_wp2_with fail
  refine (is_eq 3 1 _).mono ?_
  rintro e v2 ⟨rfl, hc2⟩
  have hb63 := hb62.trans (hc2.mono (by have := hb62.size; omega))
  clear q0 q1
  have q0 : v2.cell? ⟨g2, 6, none⟩ = some (.int .i64 0) := (CF.out _ hb63 g2 6 (by omega)).trans E30.out
  have q1 : v2.cell? ⟨g2, 7, none⟩ = some (.int .i64 1) := (CF.out _ hb63 g2 7 (by omega)).trans E31.out
  go_wp2_with fail
  refine (is_eq 0 1 _).mono ?_
  rintro e v3 ⟨rfl, hc3⟩
  have hb64 := hb63.trans (hc3.mono (by have := hb63.size; omega))
  clear q0 q1
  have q0 : v3.cell? ⟨w3.heap.size, 0, none⟩ = some (.int .i64 1) := (CF.out _ hb64 w3.heap.size 0 (by omega)).trans E40.out
  have q1 : v3.cell? ⟨w3.heap.size, 1, none⟩ = some (.int .i64 1) := (CF.out _ hb64 w3.heap.size 1 (by omega)).trans E41.out
  go_wp2_with fail
  refine (is_eq 1 1 _).mono ?_
  rintro e v4 ⟨rfl, hc4⟩
  have hb65 := hb64.trans (hc4.mono (by have := hb64.size; omega))
  clear q0 q1
  have q0 : v4.cell? ⟨w4.heap.size, 0, none⟩ = some (.int .i64 1) := (CF.out _ hb65 w4.heap.size 0 (by omega)).trans E50.out
  have q1 : v4.cell? ⟨w4.heap.size, 1, none⟩ = some (.int .i64 2) := (CF.out _ hb65 w4.heap.size 1 (by omega)).trans E51.out
  go_wp2_with fail
  refine (is_eq 1 2 _).mono ?_
  rintro e v5 ⟨rfl, hc5⟩
  have hb66 := hb65.trans (hc5.mono (by have := hb65.size; omega))
  clear q0 q1
  have q0 : v5.cell? ⟨w5.heap.size, 0, none⟩ = some (.int .i64 333) := (CF.out _ hb66 w5.heap.size 0 (by omega)).trans E60.out
  have q1 : v5.cell? ⟨w5.heap.size, 1, none⟩ = some (.int .i64 250) := (CF.out _ hb66 w5.heap.size 1 (by omega)).trans E61.out
  go_wp2_with fail
  refine (is_eq 333 250 _).mono ?_
  rintro e v6 ⟨rfl, hc6⟩
  have hb67 := hb66.trans (hc6.mono (by have := hb66.size; omega))
  clear q0 q1
  go_wp2_with fail
  refine (sumN_any 4 _ (by omega)).mono ?_
  rintro e _ ⟨rfl, rfl⟩
  go_wp2_with fail
  refine (topN_any 4 _ (by omega)).mono ?_
  rintro e _ ⟨rfl, rfl⟩
  go_wp2
  go_ret
  exact ⟨rfl, hBall6.trans (hb67.mono (by omega))⟩

end Go.Proofs.YteemknjnlocgpaaDoor
