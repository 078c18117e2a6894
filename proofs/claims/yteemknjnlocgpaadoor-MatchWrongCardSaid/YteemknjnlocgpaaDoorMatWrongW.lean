/- The walk of the statement MatchWrong. -/
import Derived.Test.YteemknjnlocgpaaDoorMatSumLaw
import Derived.Test.YteemknjnlocgpaaDoorMatMadeW
import Derived.Test.YteemknjnlocgpaaDoorMatAwake
import Derived.Test.YteemknjnlocgpaaDoorAppendAgain
namespace Go.Proofs.YteemknjnlocgpaaDoor
open Go.RowKit

/-- The results that are not right. -/
def badL (m0 M1 m1 M2 : Int) : List (List Pt) := [[], [(5, 99)], [(5, m0), (5, 100)], [(M1, 100)], [(m1, 100)], [(0, M2)], [(0, 20), (0, 20), (0, 20), (0, 20), (0, 20)]]
theorem badL_not (m0 M1 m1 M2 : Int) (h0 : m0 ≤ 0) (h1 : 10001 ≤ M1) (h2 : m1 ≤ -10001) (h3 : 101 ≤ M2) : ∀ o ∈ badL m0 M1 m1 M2, rightM o = false ∧ o.length ≤ 5 := by
  intro o ho
  have f : ∀ (l : List Pt) (p : Pt), p ∈ l → ¬ ((1 ≤ p.2 ∧ p.2 ≤ 100) ∧ -10000 ≤ p.1 ∧ p.1 ≤ 10000) → rightM l = false := fun l p hp h => Bool.eq_false_iff.2 fun hr => h ((okPt_iff p).1 (((rightM_iff l).1 hr).2.2.1 p hp))
  unfold badL at ho
  simp only [List.mem_cons, List.not_mem_nil, or_false] at ho
  rcases ho with rfl | rfl | rfl | rfl | rfl | rfl | rfl
  · exact ⟨by decide, by decide⟩
  · exact ⟨by decide, by decide⟩
  · exact ⟨f _ (5, m0) (by simp) (by dsimp only; omega), by simp⟩
  · exact ⟨f _ (M1, 100) (by simp) (by dsimp only; omega), by simp⟩
  · exact ⟨f _ (m1, 100) (by simp) (by dsimp only; omega), by simp⟩
  · exact ⟨f _ (0, M2) (by simp) (by dsimp only; omega), by simp⟩
  · exact ⟨by decide, by decide⟩

theorem cmp_bad (a l : List Pt) (h : rightM l = false) : (cmpV a l = (0, 0) ∧ cmpE a l = 2) ∧ cmpV l a = (0, 0) ∧ cmpE l a = 2 := by
  unfold cmpV cmpE zeroF
  rw [h]
  simp
/-- A row of slices reads as results. -/
def RowOf (W : World) (xs : List Value) (L : List (List Pt)) : Prop :=
  xs.length = L.length ∧ ∀ k (h : k < L.length), ∃ Ak ck, xs[k]? = some (.slice Ak (L[k]).length ck) ∧ (Ak = none → ck = 0) ∧ Rd W W.heap.size 2 Ak (L[k]).length (pC L[k])
theorem RowOf.go {W W' : World} {xs : List Value} {L : List (List Pt)} (h : RowOf W xs L) (hb : Below W.heap.size W W') : RowOf W' xs L :=
  ⟨h.1, fun k hk => by obtain ⟨Ak, ck, h1, h2, h3⟩ := h.2 k hk; exact ⟨Ak, ck, h1, h2, h3.go hb⟩⟩
theorem RowOf.snoc {W : World} {xs : List Value} {L : List (List Pt)} {A : Option Addr} {c : Nat} {r : List Pt} (h : RowOf W xs L) (hA : A = none → c = 0) (hr : Rd W W.heap.size 2 A r.length (pC r)) : RowOf W (xs ++ [.slice A r.length c]) (L ++ [r]) :=
  ⟨by rw [List.length_append, List.length_append, h.1]; rfl, fun k hk => by
    rw [List.length_append] at hk
    by_cases hlt : k < L.length
    · obtain ⟨Ak, ck, h1, h2, h3⟩ := h.2 k hlt
      rw [List.getElem_append_left hlt, List.getElem?_append_left (by rw [h.1]; exact hlt)]
      exact ⟨Ak, ck, h1, h2, h3⟩
    · obtain rfl : k = L.length := by simp at hk; omega
      rw [List.getElem_append_right (Nat.le_refl _), List.getElem?_append_right (by rw [h.1]; exact Nat.le_refl _), h.1]
      simp only [Nat.sub_self, List.getElem_cons_zero, List.getElem?_cons_zero]
      exact ⟨A, c, rfl, hA, hr⟩⟩
theorem RowOf.nil_ {W : World} : RowOf W [] [] := ⟨rfl, fun k hk => by simp at hk⟩
theorem RowOf.rdl {W : World} {base e n c : Nat} {A : Option Addr} {xs : List Value} {L : List (List Pt)} (h : RowOf W xs L) (ho : W.ownsRow base e 1 (.slice A n c) n xs) (hn : n = L.length) : RdL W W.heap.size A L := fun k hk => by
  have hr := Rd.of_own ho
  obtain ⟨b, off, e1, e2, e3⟩ := hr.pos (by omega)
  obtain ⟨Aj, cj, h1, h2, h3⟩ := h.2 k hk
  exact ⟨b, off, Aj, cj, e1, e2, (e3 k (by rw [h.1]; exact hk)).trans h1, h2, h3⟩
theorem RowOf.blk {W : World} {g t : Nat} {cs : Array Value} {xs : List Value} {L : List (List Pt)} (h : RowOf W xs L) (hg : W.heap[g]? = some (.cells cs t (0, 0))) (hc : cs.toList = xs) : RdL W W.heap.size (some ⟨g, 0, none⟩) L := fun k hk => by
  obtain ⟨Aj, cj, h1, h2, h3⟩ := h.2 k hk
  refine ⟨g, 0, Aj, cj, rfl, blk_lt hg, ?_, h2, h3⟩
  rw [Nat.zero_add, blk_cell hg k, ← h1, ← hc]
  simp

theorem rep_row {W : World} {A : Option Addr} {c : Nat} {a : List Pt} (hA : A = none → c = 0) (hr : Rd W W.heap.size 2 A a.length (pC a)) (j : Nat) : RowOf W (List.replicate j (.slice A a.length c)) (List.replicate j a) :=
  ⟨by simp, fun k hk => by
    rw [List.length_replicate] at hk
    rw [List.getElem_replicate, List.getElem?_replicate, if_pos hk]
    exact ⟨A, c, rfl, hA, hr⟩⟩
theorem grown_cell {W W' : World} {g pg o : Nat} {v : Value} (h : W.grownBy W' (some g)) (hlt : pg < W.heap.size) (hne : pg ≠ g) (hc : W.cell? ⟨pg, o, none⟩ = some v) : W'.cell? ⟨pg, o, none⟩ = some v := by
  obtain ⟨-, -, -, -, h5⟩ := h
  have e : W'.heap[(⟨pg, o, none⟩ : Addr).block]? = W.heap[(⟨pg, o, none⟩ : Addr).block]? := h5 pg hlt (fun h => hne (Option.some.inj h))
  unfold World.cell? at hc ⊢
  rw [e]
  exact hc
theorem rep_right (a : List Pt) (ha : rightM a = true) (k : Nat) : ∀ o ∈ List.replicate k a, rightM o = true := fun o ho => by rw [List.eq_of_mem_replicate ho]; exact ha
theorem rep_pts (a : List Pt) (ha : rightM a = true) : (ptsL (List.replicate 24 a))[0]? = some (23, 1) := by
  have hg : gAll a (List.replicate 24 a) = 240000 := by
    unfold gAll
    rw [List.map_replicate, gAB_self a ha]
    decide
  show ((List.replicate 24 a).map fun r => ptsM r (List.replicate 24 a))[0]? = _
  rw [List.map_replicate]
  show some (ptsM a (List.replicate 24 a)) = _
  unfold ptsM
  rw [hg]
  decide
theorem err_many (a : List Pt) (ha : rightM a = true) : ptsErr (List.replicate 24 a ++ [a]) = 5 := by
  have h : okAll (List.replicate 24 a ++ [a]) = true := List.all_eq_true.2 fun o ho => by
    rcases List.mem_append.1 ho with h | h
    · exact rep_right a ha 24 o h
    · rw [List.mem_singleton.1 h]; exact ha
  unfold ptsErr
  rw [if_pos h, if_pos (by simp)]
theorem err_bad (L : List (List Pt)) (l : List Pt) (hl : l ∈ L) (h : rightM l = false) : ptsErr L = 2 := by
  have h2 : ¬ okAll L = true := fun hk => by
    have := List.all_eq_true.1 hk l hl
    rw [h] at this; cases this
  unfold ptsErr
  rw [if_neg h2]

set_option maxHeartbeats 4000000 in
set_option maxRecDepth 100000 in
theorem matchWrong_walk (s : Sm) (n : Int) (hn : -9223372036854775808 ≤ n ∧ n ≤ 9223372036854775807) (A : Option Addr) (c : Nat) (w : World) (hL : Laid w) (hs : SmOk s) (hr : Rd w w.heap.size 1 A s.2.2.length (i16C s.2.2)) (hc : s.2.2.length ≤ c) :
    Calls Tryd.prog 6 #[smV s A c, .int .i64 n] w fun e w' => e = .returned (.bool true) ∧ Below w.heap.size w w' := by
  obtain ⟨i0, hi, hz0, hz1, hz2⟩ := info_parts info_res
  obtain ⟨xp, xw, xo⟩ := s
  unfold smV
  have h0 := hL.lt
  have HL := Lib.hid hL
  have HM := Lib.hid (fun (W : World) (hW : Below w.heap.size w W) => made_any xp xw xo A c W hs (hr.go hW) hc)
  have har := made_right (xp, xw, xo)
  have hal := made_len (xp, xw, xo)
  generalize madeL (xp, xw, xo) = a at HM har hal
  obtain ⟨m0, hm0⟩ : ∃ m : Int, min n 0 = m := ⟨_, rfl⟩
  obtain ⟨M1, hM1⟩ : ∃ m : Int, max n 10001 = m := ⟨_, rfl⟩
  obtain ⟨m1, hm1⟩ : ∃ m : Int, min n (-10001) = m := ⟨_, rfl⟩
  obtain ⟨M2, hM2⟩ : ∃ m : Int, max n 101 = m := ⟨_, rfl⟩
  have hbad := badL_not m0 M1 m1 M2 (by omega) (by omega) (by omega) (by omega)
  have Hbad := Lib.hid hbad
  clear hL hs hr hc hbad
  show Calls Tryd.prog 6 #[.agg #[.int .i16 xp, .int .u8 xw, .slice A xo.length c], .int .i64 n] w _
  go_enter Tryd.func6, Tryd.ntmps6
  go_wp2_with fail
  refine (HM.out _ (by repeat (first | exact Below.refl _ _ | assumption | refine Below.drew ?_ | refine below_drewN ?_ _ | refine Below.alloc ?_ (by first | omega | (simp; done) | (simp; omega)) _ | refine Below.setCell ?_ (by first | omega | (simp; done) | (simp; omega)) _))).mono ?_
  rintro e w1 ⟨v, rfl, ho1, hb1⟩
  obtain ⟨A1, c1, rfl⟩ := own_form ho1
  have hb1' : Below w.heap.size w w1 := ((Below.refl _ _).alloc (Nat.le_refl _) _).trans (hb1.mono (by simp))
  go_wp2_with fail
  obtain ⟨W2, hW2⟩ : ∃ W2, (((((((w1.alloc (.cells #[.int .i64 5, .int .i64 99] 44)).alloc (.cells #[.int .i64 5, .int .i64 m0, .int .i64 5, .int .i64 100] 44)).alloc (.cells #[.int .i64 M1, .int .i64 100] 44)).alloc (.cells #[.int .i64 m1, .int .i64 100] 44)).alloc (.cells #[.int .i64 0, .int .i64 M2] 44)).alloc (.cells #[.int .i64 0, .int .i64 20, .int .i64 0, .int .i64 20, .int .i64 0, .int .i64 20, .int .i64 0, .int .i64 20, .int .i64 0, .int .i64 20] 44)).alloc (.cells #[.slice none 0 0, .slice (some ⟨w1.heap.size, 0, none⟩) 1 1, .slice (some ⟨w1.heap.size + 1, 0, none⟩) 2 2, .slice (some ⟨w1.heap.size + 1 + 1, 0, none⟩) 1 1, .slice (some ⟨w1.heap.size + 1 + 1 + 1, 0, none⟩) 1 1, .slice (some ⟨w1.heap.size + 1 + 1 + 1 + 1, 0, none⟩) 1 1, .slice (some ⟨w1.heap.size + 1 + 1 + 1 + 1 + 1, 0, none⟩) 5 5] 24)) = W2 := ⟨_, rfl⟩
  have n0 : W2.heap[w1.heap.size]? = some (.cells #[.int .i64 5, .int .i64 99] 44) := by rw [← hW2]; exact (blk_alloc (blk_alloc (blk_alloc (blk_alloc (blk_alloc (blk_alloc (blk_new _ (by simp)) _) _) _) _) _) _)
  have n1 : W2.heap[w1.heap.size + 1]? = some (.cells #[.int .i64 5, .int .i64 m0, .int .i64 5, .int .i64 100] 44) := by rw [← hW2]; exact (blk_alloc (blk_alloc (blk_alloc (blk_alloc (blk_alloc (blk_new _ (by simp)) _) _) _) _) _)
  have n2 : W2.heap[w1.heap.size + 1 + 1]? = some (.cells #[.int .i64 M1, .int .i64 100] 44) := by rw [← hW2]; exact (blk_alloc (blk_alloc (blk_alloc (blk_alloc (blk_new _ (by simp)) _) _) _) _)
  have n3 : W2.heap[w1.heap.size + 1 + 1 + 1]? = some (.cells #[.int .i64 m1, .int .i64 100] 44) := by rw [← hW2]; exact (blk_alloc (blk_alloc (blk_alloc (blk_new _ (by simp)) _) _) _)
  have n4 : W2.heap[w1.heap.size + 1 + 1 + 1 + 1]? = some (.cells #[.int .i64 0, .int .i64 M2] 44) := by rw [← hW2]; exact (blk_alloc (blk_alloc (blk_new _ (by simp)) _) _)
  have n5 : W2.heap[w1.heap.size + 1 + 1 + 1 + 1 + 1]? = some (.cells #[.int .i64 0, .int .i64 20, .int .i64 0, .int .i64 20, .int .i64 0, .int .i64 20, .int .i64 0, .int .i64 20, .int .i64 0, .int .i64 20] 44) := by rw [← hW2]; exact (blk_alloc (blk_new _ (by simp)) _)
  have n6 : W2.heap[w1.heap.size + 1 + 1 + 1 + 1 + 1 + 1]? = some (.cells #[.slice none 0 0, .slice (some ⟨w1.heap.size, 0, none⟩) 1 1, .slice (some ⟨w1.heap.size + 1, 0, none⟩) 2 2, .slice (some ⟨w1.heap.size + 1 + 1, 0, none⟩) 1 1, .slice (some ⟨w1.heap.size + 1 + 1 + 1, 0, none⟩) 1 1, .slice (some ⟨w1.heap.size + 1 + 1 + 1 + 1, 0, none⟩) 1 1, .slice (some ⟨w1.heap.size + 1 + 1 + 1 + 1 + 1, 0, none⟩) 5 5] 24) := by rw [← hW2]; exact (blk_new _ (by simp))
  have hb2 : Below w1.heap.size w1 W2 := by rw [← hW2]; exact (by repeat (first | exact Below.refl _ _ | assumption | refine Below.drew ?_ | refine below_drewN ?_ _ | refine Below.alloc ?_ (by first | omega | (simp; done) | (simp; omega)) _ | refine Below.setCell ?_ (by first | omega | (simp; done) | (simp; omega)) _))
  have s2 : W2.heap.size = w1.heap.size + 7 := by rw [← hW2]; simp
  (try rw [hW2])
  clear hW2
  have hrow : RowOf W2 [.slice none 0 0, .slice (some ⟨w1.heap.size, 0, none⟩) 1 1, .slice (some ⟨w1.heap.size + 1, 0, none⟩) 2 2, .slice (some ⟨w1.heap.size + 1 + 1, 0, none⟩) 1 1, .slice (some ⟨w1.heap.size + 1 + 1 + 1, 0, none⟩) 1 1, .slice (some ⟨w1.heap.size + 1 + 1 + 1 + 1, 0, none⟩) 1 1, .slice (some ⟨w1.heap.size + 1 + 1 + 1 + 1 + 1, 0, none⟩) 5 5] (badL m0 M1 m1 M2) := ⟨rfl, fun k hk => by
    have hk7 : k < 7 := hk
    rcases (show k = 0 ∨ k = 1 ∨ k = 2 ∨ k = 3 ∨ k = 4 ∨ k = 5 ∨ k = 6 by omega) with rfl | rfl | rfl | rfl | rfl | rfl | rfl
    · exact ⟨none, 0, rfl, fun _ => rfl, Rd.nil_⟩
    · exact ⟨some ⟨w1.heap.size, 0, none⟩, 1, rfl, (fun h => by cases h), rd_parts (l := [(5, 99)]) n0 rfl rfl⟩
    · exact ⟨some ⟨w1.heap.size + 1, 0, none⟩, 2, rfl, (fun h => by cases h), rd_parts (l := [(5, m0), (5, 100)]) n1 rfl rfl⟩
    · exact ⟨some ⟨w1.heap.size + 1 + 1, 0, none⟩, 1, rfl, (fun h => by cases h), rd_parts (l := [(M1, 100)]) n2 rfl rfl⟩
    · exact ⟨some ⟨w1.heap.size + 1 + 1 + 1, 0, none⟩, 1, rfl, (fun h => by cases h), rd_parts (l := [(m1, 100)]) n3 rfl rfl⟩
    · exact ⟨some ⟨w1.heap.size + 1 + 1 + 1 + 1, 0, none⟩, 1, rfl, (fun h => by cases h), rd_parts (l := [(0, M2)]) n4 rfl rfl⟩
    · exact ⟨some ⟨w1.heap.size + 1 + 1 + 1 + 1 + 1, 0, none⟩, 5, rfl, (fun h => by cases h), rd_parts (l := [(0, 20), (0, 20), (0, 20), (0, 20), (0, 20)]) n5 rfl rfl⟩⟩
  have HB := Lib.hid (hrow.blk n6 rfl)
  obtain ⟨gb, hgb⟩ : ∃ g, w1.heap.size + 1 + 1 + 1 + 1 + 1 + 1 = g := ⟨_, rfl⟩
  rw [hgb] at HB
  (try rw [hgb])
  obtain ⟨BL, hBL⟩ : ∃ BL, badL m0 M1 m1 M2 = BL := ⟨_, rfl⟩
  have hbl7 : BL.length = 7 := by rw [← hBL]; rfl
  rw [hBL] at HB Hbad
  have Ra := Lib.hid ((Rd.of_own ho1).go hb2)
  have hsrc := Lib.hid (own_src ho1)
  have hB2 : Below w.heap.size w W2 := hb1'.trans (hb2.mono hb1'.size)
  have HL2 := Lib.hid (HL.out.below hB2 h0)
  have h2 := hB2.size
  have Hgb := Lib.hid hgb
  clear n0 n1 n2 n3 n4 n5 n6 hrow hBL hgb hb2 hb1 hb1' ho1 HM HL hm0 hM1 hm1 hM2
  go_loopw [52] (fun i wr => ∃ k : Nat, k ≤ 7 ∧ i = .int .i64 (k : Int) ∧ Below W2.heap.size W2 wr) (fun i _ => 7 - (intOf i).toNat)
  case atStart => exact ⟨0, by omega, rfl, Below.refl _ _⟩
  case round =>
    obtain ⟨k, hk, rfl, hbel⟩ := hrel
    have hsr := hbel.size
    by_cases hlt : k < 7
    · obtain ⟨b, off, Ak, ck, he, hbw, e0, hsk, e3⟩ := HB.out k (by omega)
      obtain ⟨rfl, rfl⟩ : gb = b ∧ 0 = off := by injection he with he; injection he with x1 x2; exact ⟨x1, x2⟩
      rw [Nat.zero_add] at e0
      have d0 := (bcell hbel gb k hbw).trans e0
      obtain ⟨hl1, hl2⟩ := Hbad.out _ (List.getElem_mem (by omega : k < BL.length))
      have Rl := Lib.hid e3
      generalize BL[k]'_ = l at d0 hl1 hl2 Rl
      have Hsk := Lib.hid hsk
      have Hl1 := Lib.hid hl1
      obtain ⟨⟨v1, v2⟩, v3, v4⟩ := cmp_bad a l hl1
      have HC1 := Lib.hid (fun (W : World) (hW : Below W2.heap.size W2 W) => compare_any a l A1 Ak c1 ck W (HL2.out.below hW HL2.out.lt) (Ra.out.go hW) (Rl.out.go hW) (by omega) (by omega))
      have HC2 := Lib.hid (fun (W : World) (hW : Below W2.heap.size W2 W) => compare_any l a Ak A1 ck c1 W (HL2.out.below hW HL2.out.lt) (Rl.out.go hW) (Ra.out.go hW) (by omega) (by omega))
      have HT := Lib.hid (fun (W : World) (hW : Below W2.heap.size W2 W) => turn_bad l Ak ck W (Rl.out.go hW) (by omega) hl1)
      have HR := Lib.hid (fun (W : World) (hW : Below W2.heap.size W2 W) => rightM_any l Ak ck W (Rl.out.go hW) (by omega))
      rw [v1, v2] at HC1
      rw [v3, v4] at HC2
      rw [hl1] at HR
      have HP := Lib.hid (fun (W : World) (hW : Below W2.heap.size W2 W) (g t : Nat) (hg : W.heap[g]? = some (.cells #[.slice A1 a.length c1, .slice Ak l.length ck] t)) =>
        (show Calls Tryd.prog 12 #[.slice (some ⟨g, 0, none⟩) 2 2] W fun e w' => e = .returned (.tuple #[.slice none 0 0, .int .i64 2]) ∧ Below W.heap.size W w' from by
          have hrow := (RowOf.nil_.snoc hsrc.out (Ra.out.go hW)).snoc Hsk.out (Rl.out.go hW)
          have herr := err_bad ([] ++ [a] ++ [l]) l (by simp) Hl1.out
          have h := points_bad ([] ++ [a] ++ [l]) (some ⟨g, 0, none⟩) 2 W (hrow.blk hg rfl) (by simp) (by simp; omega) (by rw [herr]; decide)
          rw [herr] at h
          exact h))
      unfold fV at HC1 HC2
      dsimp only at HC1 HC2
      clear e0 e3 he hl1 v1 v2 v3 v4 hsk
      generalize hna : a.length = na at *
      generalize hnl : l.length = nl at *
      go_wp2_with fail
      refine (HT.out _ hbel).mono ?_
      rintro ee wa ⟨rfl, hba⟩
      have hVa := hbel.trans (hba.mono hsr)
      clear hba
      go_wp2_with fail
      refine (HC1.out _ hVa).mono ?_
      rintro ee wb ⟨rfl, hbb⟩
      have hVb := hVa.trans (hbb.mono hVa.size)
      have sb := hVb.size
      clear hbb
      go_wp2_with fail
      refine (HC2.out _ (hVb.alloc sb _)).mono ?_
      rintro ee wd ⟨rfl, hbd⟩
      have hVd := (hVb.alloc sb _).trans (hbd.mono (by simp; omega))
      have sd := hVd.size
      clear hbd
      go_wp2_with fail
      refine (HP.out _ ((hVd.alloc sd _).alloc (by simp; omega) _) _ _ (blk_new _ (by simp))).mono ?_
      rintro ee we ⟨rfl, hbe⟩
      have hVe := ((hVd.alloc sd _).alloc (by simp; omega) _).trans (hbe.mono (by simp; omega))
      clear hbe
      go_wp2_with fail
      refine (HR.out _ hVe).mono ?_
      rintro ee wf ⟨rfl, hbf⟩
      have hVf := hVe.trans (hbf.mono hVe.size)
      go_wp2
      go_roundw
      case rel => exact ⟨k + 1, by omega, by go_num, hVf⟩
      case measure => simp [intOf]; omega
    · have t0 : decide ((k : Int) < 7) = false := decide_eq_false (by omega)
      obtain rfl : k = 7 := by omega
      obtain ⟨w3, hw3⟩ : ∃ w3 : World, w3 = wr := ⟨_, rfl⟩
      rw [← hw3] at hbel hsr ⊢
      clear hw3
      have Ra3 := Lib.hid (Ra.out.go hbel)
      have HL3 := Lib.hid (HL2.out.below hbel HL2.out.lt)
      have hB3 : Below w.heap.size w w3 := hB2.trans (hbel.mono h2)
      have h3 := hB3.size
      clear hbel HB Hbad Ra HL2 hB2 h2
      go_wp2_with fail
      go_loopw [16, 102] (fun v i wr => ∃ (j : Nat) (xs : List Value), j ≤ 24 ∧ i = .int .i64 (j : Int) ∧ wr.ownsRow w3.heap.size 24 1 v j xs ∧ Hid (xs = List.replicate j (Value.slice A1 a.length c1)) ∧ Below w3.heap.size w3 wr) (fun _ i _ => 24 - (intOf i).toNat)
      case atStart => exact ⟨0, [], by omega, rfl, own_nil, rfl, Below.refl _ _⟩
      case round =>
        obtain ⟨j, xs, hj, rfl, hown, hrow, hbel⟩ := hrel
        have hsr := hbel.size
        by_cases hlt : j < 24
        · have Ra4 := Lib.hid (Ra3.out.go hbel)
          go_wp2_with (at_builtin; refine wpList_append_own_at _ rfl _ _ 22 rfl w3.heap.size 24 i0 (.slice none 0 0) 1 24 Tryd.underlying22 hi hz0 hz1 hz2 rfl (by decide) _ _ _ rfl (hown.alloc _) _ 1 1 [.slice A1 a.length c1] rfl rfl ?c1 ?c2 ?c3 ?c4 ?c5 ?_)
          case c1 => exact cell_one_at _ _ _ _ (by simp)
          case c2 => simp [Value.oneCell']
          case c3 => unfold maxLen; omega
          case c4 => omega
          case c5 => simp; omega
          intro v2 w4 hown2 hgrow _ hat
          have hb4 := (hbel.alloc hsr _).grown hgrow (by simp; omega) (fun g hg => (hown.lt g hg).1)
          have Hrow2 := Lib.hid (show xs ++ [Value.slice A1 a.length c1] = List.replicate (j + 1) (Value.slice A1 a.length c1) by rw [List.replicate_succ', hrow.out])
          go_wp2
          go_roundw
          case rel =>
            refine ⟨_, _, _, _, _, _, _, _, ⟨j + 1, _, by omega, ?e1, hown2, Hrow2.out, hb4⟩, rfl⟩
            go_num
          case measure => simp [intOf]; omega
        · have t0 : decide ((j : Int) < 24) = false := decide_eq_false (by omega)
          obtain rfl : j = 24 := by omega
          obtain ⟨g, cap, rfl⟩ := own_at' hown (by decide)
          obtain ⟨w4, hw4⟩ : ∃ w4 : World, w4 = wr := ⟨_, rfl⟩
          rw [← hw4] at hbel hsr hown ⊢
          clear hw4
          have hxs : xs = List.replicate 24 (Value.slice A1 a.length c1) := hrow.out
          subst hxs
          have Ra4 := Ra3.out.go hbel
          have HL4 := HL3.out.below hbel HL3.out.lt
          have hB4 : Below w.heap.size w w4 := hB3.trans (hbel.mono h3)
          have h4 := hB4.size
          have h34 := hbel.size
          have HP1 := Lib.hid (show Calls Tryd.prog 12 #[.slice (some ⟨g, 0, none⟩) 24 cap] w4 fun e w' => ∃ v, e = .returned (.tuple #[v, .int .i64 0]) ∧ w'.ownsRow w4.heap.size 46 2 v 24 (pC (ptsL (List.replicate 24 a))) ∧ Below w4.heap.size w4 w' from by
            have h := points_any (List.replicate 24 a) (some ⟨g, 0, none⟩) cap w4 HL4 ((rep_row hsrc.out Ra4 24).rdl hown (by simp)) (by simp) (rep_right a har 24)
            rw [List.length_replicate] at h
            exact h)
          have hgl := (hown.lt g rfl).2
          clear hrow
          go_wp2_with fail
          refine HP1.out.mono ?_
          rintro e w5 ⟨v, rfl, ho5, hb5⟩
          obtain ⟨pg, cp, rfl⟩ := own_at' ho5 (by decide)
          have hrp : Rd w5 w5.heap.size 2 (some ⟨pg, 0, none⟩) (ptsL (List.replicate 24 a)).length (pC (ptsL (List.replicate 24 a))) := by rw [ptsL_len, List.length_replicate]; exact Rd.of_own ho5
          obtain ⟨b', o', he, hpg, p0, p1⟩ := rd_p hrp 0 (by rw [ptsL_len, List.length_replicate]; decide)
          obtain ⟨rfl, rfl⟩ : pg = b' ∧ 0 = o' := by injection he with he; injection he with x1 x2; exact ⟨x1, x2⟩
          have hpt := rep_pts a har
          rw [List.getElem?_eq_getElem (by rw [ptsL_len, List.length_replicate]; decide)] at hpt
          rw [Option.some.inj hpt] at p0 p1
          have p0 : w5.cell? ⟨pg, 0, none⟩ = some (.int .i64 23) := p0
          have p1 : w5.cell? ⟨pg, 1, none⟩ = some (.int .i64 1) := p1
          have hown5 := own_below hown hb5 (Nat.le_refl _)
          have hpgg : pg ≠ g := by have := (ho5.lt pg rfl).1; omega
          have H35 : Below w3.heap.size w3 w5 := hbel.trans (hb5.mono h34)
          have h35 := H35.size
          clear HP1 ho5 hrp he hpt hown hb5 HL4 hB4 Ra4 hbel
          go_wp2_with (at_builtin; refine wpList_append_again rfl _ _ 22 rfl w3.heap.size 24 i0 (.slice none 0 0) 1 24 Tryd.underlying22 hi hz0 hz1 hz2 rfl (by decide) g 24 cap _ rfl (hown5.alloc _) _ 1 1 [.slice A1 a.length c1] rfl rfl ?c1 ?c2 ?c3 ?c4 ?c5 ?_)
          case c1 => exact cell_one_at _ _ _ _ (by simp)
          case c2 => simp [Value.oneCell']
          case c3 => unfold maxLen; omega
          case c4 => omega
          case c5 => simp; omega
          intro v6 w6 hown6 hmany6 hgr6
          have hgw : w3.heap.size ≤ g := (hown5.lt g rfl).1
          have hb6 : Below w3.heap.size w5 w6 := ((Below.refl _ _).alloc h35 _).grown hgr6 (by simp; omega) (fun g' hg => by cases hg; exact hgw)
          have H36 := H35.trans hb6
          have h36 := H36.size
          have h56 : w5.heap.size ≤ w6.heap.size := hb6.size
          have p0 : w6.cell? ⟨pg, 0, none⟩ = some (.int .i64 23) := grown_cell hgr6 (by simp; omega) hpgg (keepC p0 _)
          have p1 : w6.cell? ⟨pg, 1, none⟩ = some (.int .i64 1) := grown_cell hgr6 (by simp; omega) hpgg (keepC p1 _)
          obtain ⟨A6, c6, rfl⟩ := own_form hown6
          have Ra6 : Rd w6 w6.heap.size 2 A1 a.length (pC a) := (Ra3.out.below H36).more h36
          have HP6 := Lib.hid (show Calls Tryd.prog 12 #[.slice A6 (24 + 1) c6] w6 fun e w' => e = .returned (.tuple #[.slice none 0 0, .int .i64 5]) ∧ Below w6.heap.size w6 w' from by
            have herr := err_many a har
            have h := points_bad (List.replicate 24 a ++ [a]) A6 c6 w6 (((rep_row hsrc.out Ra6 24).snoc hsrc.out Ra6).rdl hown6 (by simp)) (by simp) (fun o ho => by
              rcases List.mem_append.1 ho with h | h
              · rw [List.eq_of_mem_replicate h]; omega
              · rw [List.mem_singleton.1 h]; omega) (by rw [herr]; decide)
            rw [herr, List.length_append, List.length_replicate] at h
            exact h)
          clear hown6 hown5 hgr6 Ra6 hb6 H35 h35
          go_wp2_with fail
          refine HP6.out.mono ?_
          rintro e w7 ⟨rfl, hb7⟩
          have H37 := H36.trans (hb7.mono h36)
          have h37 := H37.size
          have h67 := hb7.size
          have p0 := keepB hb7 (by show pg < _; omega) p0
          have p1 := keepB hb7 (by show pg < _; omega) p1
          have hmany7 := own_below hmany6 hb7 (Nat.le_refl _)
          clear HP6 hmany6 hb7 H36 h36
          go_wp2_with (at_builtin; refine wpList_append_again rfl _ _ 22 rfl w3.heap.size 24 i0 (.slice none 0 0) 1 24 Tryd.underlying22 hi hz0 hz1 hz2 rfl (by decide) g 24 cap _ rfl (hmany7.alloc _) _ 2 2 [.slice A1 a.length c1, .slice none 0 0] rfl rfl ?c1 ?c2 ?c3 ?c4 ?c5 ?_)
          case c1 => exact cells_new_at _ #[.slice A1 a.length c1, .slice none 0 0] _ _ (by simp)
          case c2 => simp [Value.oneCell']
          case c3 => unfold maxLen; omega
          case c4 => omega
          case c5 => simp; omega
          intro v8 w8 hown8 hmany8 hgr8
          have hb8 : Below w3.heap.size w7 w8 := ((Below.refl _ _).alloc h37 _).grown hgr8 (by simp; omega) (fun g' hg => by cases hg; exact hgw)
          have H38 := H37.trans hb8
          have h38 := H38.size
          have h78 : w7.heap.size ≤ w8.heap.size := hb8.size
          have p0 : w8.cell? ⟨pg, 0, none⟩ = some (.int .i64 23) := grown_cell hgr8 (by simp; omega) hpgg (keepC p0 _)
          have p1 : w8.cell? ⟨pg, 1, none⟩ = some (.int .i64 1) := grown_cell hgr8 (by simp; omega) hpgg (keepC p1 _)
          obtain ⟨A8, c8, rfl⟩ := own_form hown8
          have Ra8 : Rd w8 w8.heap.size 2 A1 a.length (pC a) := (Ra3.out.below H38).more h38
          have HP8 := Lib.hid (show Calls Tryd.prog 12 #[.slice A8 (24 + 2) c8] w8 fun e w' => e = .returned (.tuple #[.slice none 0 0, .int .i64 2]) ∧ Below w8.heap.size w8 w' from by
            have herr := err_bad (List.replicate 24 a ++ [a] ++ [[]]) [] (by simp) (by decide)
            have hrow8 := ((rep_row hsrc.out Ra8 24).snoc hsrc.out Ra8).snoc (A := none) (c := 0) (r := []) (fun _ => rfl) Rd.nil_
            have hown9 : w8.ownsRow w3.heap.size 24 1 (.slice A8 (24 + 2) c8) (24 + 2) (List.replicate 24 (Value.slice A1 a.length c1) ++ [.slice A1 a.length c1] ++ [.slice none 0 0]) := by rw [List.append_assoc]; exact hown8
            have h := points_bad (List.replicate 24 a ++ [a] ++ [[]]) A8 c8 w8 (hrow8.rdl hown9 (by simp)) (by simp) (fun o ho => by
              rcases List.mem_append.1 ho with h | h
              · rcases List.mem_append.1 h with h | h
                · rw [List.eq_of_mem_replicate h]; omega
                · rw [List.mem_singleton.1 h]; omega
              · rw [List.mem_singleton.1 h]; decide) (by rw [herr]; decide)
            rw [herr, List.length_append, List.length_append, List.length_replicate] at h
            exact h)
          clear hown8 hmany8 hmany7 hgr8 Ra8 hb8 H37 h37
          go_wp2_with fail
          refine HP8.out.mono ?_
          rintro e w9 ⟨rfl, hb9⟩
          have H39 := H38.trans (hb9.mono h38)
          have h39 := H39.size
          have h89 := hb9.size
          have p0 := keepB hb9 (by show pg < _; omega) p0
          have p1 := keepB hb9 (by show pg < _; omega) p1
          have hB9 : Below w.heap.size w w9 := hB3.trans (H39.mono h3)
          have HL9 := Lib.hid (HL3.out.below H39 HL3.out.lt)
          have Ra9 := Lib.hid ((Ra3.out.below H39).more h39)
          have HRa := Lib.hid (fun (W : World) (hW : Below w9.heap.size w9 W) => rightM_any a A1 c1 W (Ra9.out.go hW) (by omega))
          rw [har] at HRa
          have HW := Lib.hid (fun W => whole_any 23 W)
          unfold fV at HW
          dsimp only at HW
          have hd : Below w9.heap.size w9 w9.drew := (Below.refl _ _).drew
          have lpg : pg < w9.heap.size := by omega
          have HAw := Lib.hid (fun (W : World) (hW : Below w9.heap.size w9 W) => awake_any W (HL9.out.below hW HL9.out.lt))
          have h9 := hB9.size
          clear HP8 H38 h38 H39 hb9 HL3 Ra3 HL9 Ra9 hB3
          go_upto_region 20 with fail
          go_region_held3 (fun w' => w'.cell? ⟨pg, 0, none⟩ = some (.int .i64 23) ∧ w'.cell? ⟨pg, 1, none⟩ = some (.int .i64 1)) ((first | exact ⟨p0, p1⟩ | exact ⟨keepB hbo lpg p0, keepB hbo lpg p1⟩ | exact ⟨keepB hbn lpg p0, keepB hbn lpg p1⟩ | exact ⟨keepB hbm lpg p0, keepB hbm lpg p1⟩))
            ((first
              | (go_at_call 29; (with_reducible refine (HW.out _).mono ?_); rintro ee wm ⟨rfl, hbm0⟩; have hbm := hd.trans (hbm0.mono hd.size))
              | (go_at_call 23; (with_reducible refine (HRa.out _ hbm).mono ?_); rintro ee wn ⟨rfl, hbn0⟩; have hbn := hbm.trans (hbn0.mono hbm.size))
              | (go_at_call 10; (with_reducible refine (HAw.out _ hbn).mono ?_); rintro ee wo ⟨rfl, hbo0⟩; have hbo := hbn.trans (hbo0.mono hbn.size))))
          all_goals go_wp2
          all_goals go_ret
          all_goals exact ⟨rfl, hB9.trans (hbo.mono h9)⟩

end Go.Proofs.YteemknjnlocgpaaDoor
