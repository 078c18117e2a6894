/- The walk of the statement ImpParts. -/
import Derived.Test.YtkkemdjeobnpfaaDoorImpTeamsW
import Derived.Test.YtkkemdjeobnpfaaDoorAppend
import Derived.Deep.DeepCutAuto
namespace Go.Proofs.YtkkemdjeobnpfaaDoor
open Go.RowKit

theorem okAll_app (l m : List (Int × Int)) (h : okAll l) (h' : okAll m) : okAll (l ++ m) := fun b hb => by
  rcases List.mem_append.1 hb with h1 | h1
  · exact h b h1
  · exact h' b h1
theorem won_app (l m : List (Int × Int)) (h : okAll l) (h' : okAll m) (hn : l.length + m.length ≤ 128) : wonV (l ++ m) = wonV l + wonV m ∧ lostV (l ++ m) = lostV l + lostV m := by
  have h1 := matchOk l h (by omega)
  have h2 := matchOk m h' (by omega)
  have h3 := matchOk (l ++ m) (okAll_app l m h h') (by simpa using hn)
  rw [h3.won, h3.lost, h1.won, h1.lost, h2.won, h2.lost, List.map_append, List.map_append, List.sum_append, List.sum_append]
  exact ⟨rfl, rfl⟩
theorem bCells_app (l m : List (Int × Int)) : bCells (l ++ m) = bCells l ++ bCells m := by simp [bCells]
theorem bCells_one (l : List (Int × Int)) : ∀ u ∈ bCells l, u.oneCell' = true := by
  intro u hu
  obtain ⟨b, _, hb⟩ := List.mem_flatMap.1 hu
  simp at hb
  rcases hb with rfl | rfl <;> rfl
/-- made at a part of what came in. -/
theorem made_part (l : List Int) (n k : Nat) (hk : k ≤ l.length) (hn : n = k) (A : Option Addr) (c : Nat) (w : World) (hl : Rd w w.heap.size 1 A l.length (u32C l)) (hu : U32s l) (hc : l.length ≤ c) (hm : c ≤ 9223372036854775807) :
    Calls Tryd.prog 19 #[.slice A n c] w fun e w' => ∃ v, e = .returned v ∧ w'.ownsRow w.heap.size 29 2 v (madeL (l.take k)).length (bCells (madeL (l.take k))) ∧ Below w.heap.size w w' := by
  subst hn
  have e : (l.take n).length = n := by rw [List.length_take]; omega
  have h := hl.pre hk
  have h' : Rd w w.heap.size 1 A (l.take n).length (u32C (l.take n)) := by
    rw [e]; unfold u32C; rw [List.map_take]; simpa [u32C] using h
  have := made_any (l.take n) A c w h' (fun x hx => hu x (List.mem_of_mem_take hx)) (by omega) hm
  rwa [e] at this

set_option maxHeartbeats 2000000 in
set_option maxRecDepth 100000 in
theorem impParts_walk (l m : List Int) (A A' : Option Addr) (c c' : Nat) (w : World) (hg : Laid w)
    (hl : Rd w w.heap.size 1 A l.length (u32C l)) (hu : U32s l) (hc : l.length ≤ c) (hm : c ≤ 9223372036854775807)
    (hl' : Rd w w.heap.size 1 A' m.length (u32C m)) (hu' : U32s m) (hc' : m.length ≤ c') (hm' : c' ≤ 9223372036854775807) :
    Calls Tryd.prog 9 #[.slice A l.length c, .slice A' m.length c'] w fun e w' => e = .returned (.bool true) ∧ Below w.heap.size w w' := by
  obtain ⟨n1, hn1⟩ : ∃ n1 : Nat, n1 = min l.length 64 := ⟨_, rfl⟩
  obtain ⟨n2, hn2⟩ : ∃ n2 : Nat, n2 = min m.length 64 := ⟨_, rfl⟩
  have b1 : n1 ≤ l.length ∧ n1 ≤ 64 := by omega
  have b2 : n2 ≤ m.length ∧ n2 ≤ 64 := by omega
  have e1 : (if (64 : Int) < (l.length : Int) then 64 else (l.length : Int)) = (n1 : Int) := by split <;> omega
  have e2 : (if (64 : Int) < (m.length : Int) then 64 else (m.length : Int)) = (n2 : Int) := by split <;> omega
  obtain ⟨i0, hi, hz0, hz1, hz2⟩ := info_parts info_board
  have c1 : n1 ≤ c := by omega
  have c2 : n2 ≤ c' := by omega
  have i1 : (n1 : Int) ≤ (c : Int) := by omega
  have i2 : (n2 : Int) ≤ (c' : Int) := by omega
  have i3 : (0 : Int) ≤ (n1 : Int) := by omega
  have i4 : (0 : Int) ≤ (n2 : Int) := by omega
  clear hn1 hn2
  go_enter Tryd.func9, Tryd.ntmps9
  go_upto_region 1 with fail
  go_cut [5, 6] (fun v1 v2 w2 => ∃ w1 : World, w1.ownsRow w.heap.size 29 2 v1 (madeL (l.take n1)).length (bCells (madeL (l.take n1))) ∧ Below w.heap.size w w1 ∧
      w2.ownsRow w1.heap.size 29 2 v2 (madeL (m.take n2)).length (bCells (madeL (m.take n2))) ∧ Below w1.heap.size w1 w2)
  case first =>
    go_region_held3 (fun _ => True) (trivial)
      (first | (go_at_call 19; (with_reducible refine (made_part l _ n1 b1.1 rfl A c _ ?_ hu hc hm).mono ?_); exact hl.drew; rintro e w1 ⟨v1, rfl, hown1, hb1⟩) | (go_at_call 19; (with_reducible refine (made_part m _ n2 b2.1 rfl A' c' _ ?_ hu' hc' hm').mono ?_); exact (hl'.drew.below hb1).more hb1.size; rintro e w2 ⟨v2, rfl, hown2, hb2⟩))
    all_goals (go_wp2_with fail; go_meet; exact ⟨_, hown1, (below_drewN (Below.refl _ _) 1).trans hb1, hown2, hb2⟩)
  case rest =>
  obtain ⟨w1, hown1, hb1', hown2, hb2⟩ := hcut
  obtain ⟨P1, k1, rfl⟩ := own_form hown1
  obtain ⟨P2, k2, rfl⟩ := own_form hown2
  have s1 := hb1'.size
  have s2 := hb2.size
  have hr1 := ((Rd.of_own hown1).below hb2).more s2
  have hr2 := Rd.of_own hown2
  have hz1' := own_src hown1
  have hz2' := own_src hown2
  have hlW := (hg.below hb1' hg.lt).below hb2 (Nat.lt_of_lt_of_le hg.lt s1)
  have hbW : Below w.heap.size w wc := hb1'.trans (hb2.mono s1)
  have ok1 := madeL_ok (l.take n1) (fun x hx => hu x (List.mem_of_mem_take hx))
  have ok2 := madeL_ok (m.take n2) (fun x hx => hu' x (List.mem_of_mem_take hx))
  have q1 : (madeL (l.take n1)).length ≤ 64 := by rw [madeL_len, List.length_take]; omega
  have q2 : (madeL (m.take n2)).length ≤ 64 := by rw [madeL_len, List.length_take]; omega
  clear hown1 hown2 hb2 e1 e2 hb1' s1 s2
  generalize madeL (l.take n1) = p at *
  generalize madeL (m.take n2) = q at *
  have M1 := matchOk p ok1 (by omega)
  have M2 := matchOk q ok2 (by omega)
  have M3 := matchOk (p ++ q) (okAll_app p q ok1 ok2) (by rw [List.length_append]; omega)
  have E1 := Lib.hid M1.err
  have E2 := Lib.hid M2.err
  have E3 := Lib.hid M3.err
  obtain ⟨x1, x2⟩ := won_app p q ok1 ok2 (by omega)
  have X1 := Lib.hid x1
  have X2 := Lib.hid x2
  have g1 : 0 ≤ wonV p ∧ wonV p ≤ 10000 ∧ 0 ≤ lostV p ∧ lostV p ≤ 10000 := by
    have := upto_bd p p.length (Nat.le_refl _)
    have y1 := M1.won; have y2 := M1.lost
    rw [← wonAll] at y1; rw [← lostAll] at y2
    omega
  have g2 : 0 ≤ wonV q ∧ wonV q ≤ 10000 ∧ 0 ≤ lostV q ∧ lostV q ≤ 10000 := by
    have := upto_bd q q.length (Nat.le_refl _)
    have y1 := M2.won; have y2 := M2.lost
    rw [← wonAll] at y1; rw [← lostAll] at y2
    omega
  clear x1 x2 M1 M2 M3
  go_wp2_with fail
  refine (match_any p P1 k1 _ hlW hr1 (by omega)).mono ?_
  rintro e w3 ⟨rfl, hb3⟩
  rw [E1.out]
  have s3 := hb3.size
  have hl3 := hlW.below hb3 hlW.lt
  go_wp2_with fail
  refine (match_any q P2 k2 _ hl3 ((hr2.below hb3).more s3) (by omega)).mono ?_
  rintro e w4 ⟨rfl, hb4⟩
  rw [E2.out]
  have s4 := hb4.size
  have hl4 := hl3.below hb4 hl3.lt
  have hr14 := (((hr1.below hb3).more s3).below hb4).more s4
  have hr24 := (((hr2.below hb3).more s3).below hb4).more s4
  clear hr1 hr2
  go_wp2_with (at_builtin; refine wpList_append_src rfl _ _ 34 rfl w4.heap.size 29 i0 (.agg #[.int .i64 0, .int .i64 0]) 2 16 Tryd.underlying34 hi hz0 hz1 hz2 rfl (by decide) _ 0 [] rfl (own_empty _ _ _ _ rfl) P1 p.length k1 w4.heap.size (bCells p) rfl (hr14.alloc (Nat.le_refl _) _) hz1' (bCells_one p) ?x3 ?x4 ?x5 ?_)
  case x3 => unfold maxLen; omega
  case x4 => omega
  case x5 => simp
  intro v5 w5 ho5 hgrow5 hat5
  have hb5 : Below w4.heap.size w4 w5 := ((Below.refl _ _).alloc (Nat.le_refl _) _).grown hgrow5 (by simp) (fun g hg => by simp [Value.ownBlock] at hg; omega)
  have hr25 := hr24.below hb5
  go_wp2_with (at_builtin; refine wpList_append_src rfl _ _ 34 rfl w4.heap.size 29 i0 (.agg #[.int .i64 0, .int .i64 0]) 2 16 Tryd.underlying34 hi hz0 hz1 hz2 rfl (by decide) _ _ _ rfl ho5 P2 q.length k2 w4.heap.size (bCells q) rfl hr25 hz2' (bCells_one q) ?y3 ?y4 ?y5 ?_)
  case y3 => unfold maxLen; omega
  case y4 => omega
  case y5 => exact hb5.size
  intro v6 w6 ho6 hgrow6 hat6
  have hb6 : Below w4.heap.size w4 w6 := hb5.grown hgrow6 hb5.size (fun g hg => (ho5.lt g hg).1)
  obtain ⟨P3, k3, rfl⟩ := own_form ho6
  have hr6 := Rd.of_own ho6
  rw [← bCells_app] at hr6
  have hl6 := hl4.below hb6 hl4.lt
  go_wp2_with fail
  refine (match_n (p ++ q) _ (by simp) P3 k3 _ hl6 (by simpa using hr6) (by simp; omega)).mono ?_
  rintro e w7 ⟨rfl, hb7⟩
  rw [E3.out, X1.out, X2.out]
  have hl7 := hl6.below hb7 hl6.lt
  have Z1 : wonV [] = 0 := by decide
  have Z2 : lostV [] = 0 := by decide
  have Z3 : matchE [] = 0 := by decide
  go_wp2_with fail
  refine (match_any [] none 0 _ hl7 Rd.nil_ (by simp)).mono ?_
  rintro e w8 ⟨rfl, hb8⟩
  rw [Z1, Z2, Z3]
  have hl8 := hl7.below hb8 hl7.lt
  go_wp2_with fail
  refine (awake_any _ hl8).mono ?_
  rintro e w9 ⟨rfl, hb9⟩
  go_wp2
  go_ret
  have t1 := hbW.trans (hb3.mono hbW.size)
  have t2 := t1.trans (hb4.mono t1.size)
  have t3 := t2.trans (hb6.mono t2.size)
  have t4 := t3.trans (hb7.mono t3.size)
  have t5 := t4.trans (hb8.mono t4.size)
  exact ⟨rfl, t5.trans (hb9.mono t5.size)⟩

end Go.Proofs.YtkkemdjeobnpfaaDoor
