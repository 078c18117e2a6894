/- The walk of the helper matches, and of the statement ImpMatches. -/
import Derived.Test.YtkkemdjeobnpfaaDoorImpPartsW
import Derived.Deep.AppendLies
import Derived.Deep.CutBlock
import Derived.Deep.DeepMust
namespace Go.Proofs.YtkkemdjeobnpfaaDoor
open Go.RowKit

theorem blk_drew {w : World} {g : Nat} {x : Option Obj} (h : w.heap[g]? = x) : w.drew.heap[g]? = x := h
theorem own_cut {W W' : World} {base e2 sz2 n2 g n cap : Nat} {v1 v2 : Value} {xs2 : List Value} (hg : W.grownBy W' v1.ownBlock) (hat : v1.ownBlock = some g ∨ g = W.heap.size) (h2 : W.ownsRow base e2 sz2 v2 n2 xs2) (hap : apart2 v1 v2) :
    W'.ownsRow base e2 sz2 v2 n2 xs2 ∧ apart2 (.slice (some ⟨g, 0, none⟩) n cap) v2 :=
  own_two h2 hg hap (hat.elim (fun h => .inl h.symm) (fun h => .inr (by rw [h]; rfl)))

set_option maxHeartbeats 4000000 in
set_option maxRecDepth 100000 in
theorem matches_any (L : List (Int × Int)) (A : Option Addr) (c : Nat) (w : World) (hg : Laid w) (hl : Rd w w.heap.size 2 A L.length (bCells L)) (hA : A = none → c = 0) (hm : L.length ≤ 1000) :
    Calls Tryd.prog 18 #[.slice A L.length c] w fun e w' => e = .returned (.bool true) ∧ Below w.heap.size w w' := by
  obtain ⟨i0, hi, hz0, hz1, hz2⟩ := info_parts info_board
  obtain ⟨i1, hj, hy0, hy1, hy2⟩ := info_parts info_int
  have hm1 : (L.length : Int) ≤ 1000 := by omega
  have Hl := Lib.hid hl
  clear hl
  go_enter Tryd.func18, Tryd.ntmps18
  go_wp2_with (at_builtin; refine wpList_append_src rfl _ _ 34 rfl w.heap.size 29 i0 (.agg #[.int .i64 0, .int .i64 0]) 2 16 Tryd.underlying34 hi hz0 hz1 hz2 rfl (by decide) _ 0 [] rfl (own_empty _ _ _ _ rfl) A L.length c w.heap.size (bCells L) rfl (Hl.out.alloc (Nat.le_refl _) _) hA (bCells_one L) ?x3 ?x4 ?x5 ?_)
  case x3 => unfold maxLen; omega
  case x4 => omega
  case x5 => simp
  intro v1 w1 ho1 hgrow1 _
  have hb1 : Below w.heap.size w w1 := ((Below.refl _ _).alloc (Nat.le_refl _) _).grown hgrow1 (by simp) (fun g hg => by simp [Value.ownBlock] at hg; omega)
  have hs1 := hb1.size
  go_wp2_with (at_builtin; refine wpList_append_own_at _ rfl _ _ 34 rfl w.heap.size 29 i0 (.agg #[.int .i64 0, .int .i64 0]) 2 16 Tryd.underlying34 hi hz0 hz1 hz2 rfl (by decide) _ _ _ rfl (ho1.alloc _) _ 1 1 [.int .i64 7, .int .i64 0] rfl rfl ?y1 ?y2 ?y3 ?y4 ?y5 ?_)
  case y1 => exact cells_new_at _ _ _ _ (by simp)
  case y2 => simp [Value.oneCell']
  case y3 => unfold maxLen; omega
  case y4 => omega
  case y5 => simp; omega
  intro v2 w2 ho2 hgrow2 _ _
  have hb2 : Below w.heap.size w w2 := (hb1.alloc hs1 _).grown hgrow2 (by simp; omega) (fun g hg => (ho1.lt g hg).1)
  have hs2 := hb2.size
  go_wp2
  go_loopw [4, 5, 29] (fun a1 a2 i wr => ∃ (k : Nat) (xs ys : List Value), k ≤ L.length ∧ i = .int .i64 (k : Int) ∧ Hid (xs = (L.take k).map fun b => Value.int .i64 b.1) ∧ Hid (ys = (L.take k).map fun b => Value.int .i64 b.2) ∧
      wr.ownsRow w2.heap.size 3 1 a1 k xs ∧ wr.ownsRow w2.heap.size 3 1 a2 k ys ∧ apart2 a1 a2 ∧ Below w2.heap.size w2 wr) (fun _ _ i _ => L.length - (intOf i).toNat)
  case atStart => exact ⟨0, [], [], by omega, rfl, rfl, rfl, own_nil, own_nil, apart2.nil_, Below.refl _ _⟩
  case round =>
    obtain ⟨k, xs, ys, hk, rfl, hxs, hys, hq1, hq2, hap, hbel⟩ := hrel
    by_cases hlt : k < L.length
    · obtain ⟨b, off, rfl, hbw, hc1, hc2⟩ := rd_board Hl.out k hlt
      have hd1 := (bcell hbel b (off + k * 2) (by omega)).trans ((bcell hb2 b (off + k * 2) hbw).trans hc1)
      have hd2 := (bcell hbel b (off + k * 2 + 1) (by omega)).trans ((bcell hb2 b (off + k * 2 + 1) hbw).trans hc2)
      have hsr := hbel.size
      have Hs1 := Lib.hid (show (L.take (k + 1)).map (fun b => Value.int .i64 b.1) = (L.take k).map (fun b => Value.int .i64 b.1) ++ [.int .i64 L[k].1] by rw [List.take_succ_eq_append_getElem hlt, List.map_append]; rfl)
      have Hs2 := Lib.hid (show (L.take (k + 1)).map (fun b => Value.int .i64 b.2) = (L.take k).map (fun b => Value.int .i64 b.2) ++ [.int .i64 L[k].2] by rw [List.take_succ_eq_append_getElem hlt, List.map_append]; rfl)
      clear hc1 hc2
      generalize L[k].1 = x at *
      generalize L[k].2 = y at *
      go_upto_block 1 with fail
      go_cut [4, 5] (fun a1' a2' wx => wx.ownsRow w2.heap.size 3 1 a1' (k + 1) (xs ++ [.int .i64 x]) ∧ wx.ownsRow w2.heap.size 3 1 a2' (k + 1) (ys ++ [.int .i64 y]) ∧ apart2 a1' a2' ∧ Below w2.heap.size w2 wx)
      case first =>
        go_wp2_with fail
        have hblk : (wr.alloc (.cells #[.int .i64 x, .int .i64 y] 29)).heap[wr.heap.size]? = _ := blk_new _ rfl
        have hne1 := hq1.lt
        have hne2 := hq2.lt
        go_region_held3 (fun w' => w'.cell? ⟨wr.heap.size, 0, none⟩ = some (.int .i64 x) ∧ w'.cell? ⟨wr.heap.size, 1, none⟩ = some (.int .i64 y)) (first | exact ⟨blk_cell hkc 0, blk_cell hkc 1⟩ | exact ⟨blk_cell hkb 0, blk_cell hkb 1⟩ | go_keep)
          (first | (refine step_append_lies _ (by rfl) _ _ _ (by rfl) w2.heap.size 3 i1 (.int .i64 0) 1 8 Tryd.underlying36 hj hy0 hy1 hy2 rfl (by omega) _ k xs (by rfl) ?_ _ 1 1 [.int .i64 x] (by rfl) (by rfl) ?_ (by simp [Value.oneCell']) (by omega) (by unfold maxLen; omega) (by omega) ?_ _ (by rfl) ?_; (focus (repeat (first | (with_reducible refine World.ownsRow.drew ?_) | (with_reducible refine World.ownsRow.alloc ?_ _) | exact hq1))); (refine World.news_of_block (cs := #[.int .i64 x]) (t := 3) (fr := (0, 0)) ?_; (focus (repeat (first | (with_reducible refine blk_drew ?_) | ((with_reducible refine blk_new _ ?_); (simp; done)) | (with_reducible refine blk_alloc ?_ _))))); (first | omega | (simp <;> omega)); intro g1 cap1 wa hn1 hgr1 hat1 hlt1; have hgr1' : World.grownBy _ wa u4.ownBlock := hgr1; have hat1' : u4.ownBlock = some g1 ∨ _ := hat1; have hkb : wa.heap[wr.heap.size]? = (some (Obj.cells #[.int .i64 x, .int .i64 y] 29)) := ?_; rotate_left; (focus ((refine (hgr1'.block wr.heap.size ?_ ?_).trans ?_); (first | omega | (simp <;> omega)); (intro e; have hee := hne1 _ e.symm; omega); (focus (repeat (first | (with_reducible refine blk_drew ?_) | ((with_reducible refine blk_new _ ?_); (simp; done)) | (with_reducible refine blk_alloc ?_ _)))))); have hq2' := own_cut (n := k + 1) (cap := cap1) hgr1' hat1' (v2 := u5) (xs2 := ys) (base := w2.heap.size) (e2 := 3) (sz2 := 1) (n2 := k) ?_ hap; rotate_left; (focus (repeat (first | (with_reducible refine World.ownsRow.drew ?_) | (with_reducible refine World.ownsRow.alloc ?_ _) | exact hq2))); clear hgr1 hat1; have hba : Below w2.heap.size w2 wa := Below.grown (a := w2) ?_ hgr1' ?_ (fun g hg => (hne1 g hg).1); rotate_left; (focus (repeat (first | (with_reducible refine Below.drew ?_) | ((with_reducible refine Below.alloc ?_ ?_ _); rotate_left; (first | omega | (simp <;> omega))) | exact hbel))); (first | omega | (simp <;> omega)); have hsa := hba.size; have hlk := blk_lt hkb) | (refine step_append_lies _ (by rfl) _ _ _ (by rfl) w2.heap.size 3 i1 (.int .i64 0) 1 8 Tryd.underlying36 hj hy0 hy1 hy2 rfl (by omega) _ k ys (by rfl) ?_ _ 1 1 [.int .i64 y] (by rfl) (by rfl) ?_ (by simp [Value.oneCell']) (by omega) (by unfold maxLen; omega) (by omega) ?_ _ (by rfl) ?_; (focus (repeat (first | (with_reducible refine World.ownsRow.drew ?_) | (with_reducible refine World.ownsRow.alloc ?_ _) | exact hq2'.1))); (refine World.news_of_block (cs := #[.int .i64 y]) (t := 3) (fr := (0, 0)) ?_; (first | (focus ((with_reducible refine blk_new _ ?_); (simp; done))) | (focus ((refine (hgr1'.block _ ?_ ?_).trans ?_); (first | omega | (simp <;> omega)); (intro e; have hee := hne1 _ e.symm; (first | omega | (simp <;> omega))); (focus (repeat (first | (with_reducible refine blk_drew ?_) | ((with_reducible refine blk_new _ ?_); (simp; done)) | (with_reducible refine blk_alloc ?_ _)))))))); (first | omega | (simp <;> omega)); intro g2 cap2 wb hn2 hgr2 hat2 hlt2; have hgr2' : World.grownBy _ wb u5.ownBlock := hgr2; have hat2' : u5.ownBlock = some g2 ∨ _ := hat2; have hq1' := own_cut (n := k + 1) (cap := cap2) hgr2' hat2' (v2 := .slice (some ⟨g1, 0, none⟩) (k + 1) cap1) (base := w2.heap.size) (e2 := 3) (sz2 := 1) (n2 := k + 1) (xs2 := xs ++ [.int .i64 x]) ?_ (apart2.symm_ hq2'.2); rotate_left; (focus (repeat (first | (with_reducible refine World.ownsRow.drew ?_) | (with_reducible refine World.ownsRow.alloc ?_ _) | exact hn1))); clear hgr2 hat2; have hbb : Below w2.heap.size w2 wb := Below.grown (a := w2) ?_ hgr2' ?_ (fun g hg => (hne2 g hg).1); rotate_left; (focus (repeat (first | (with_reducible refine Below.drew ?_) | ((with_reducible refine Below.alloc ?_ ?_ _); rotate_left; (first | omega | (simp <;> omega))) | exact hba))); (first | omega | (simp <;> omega)); have hkc : wb.heap[wr.heap.size]? = (some (Obj.cells #[.int .i64 x, .int .i64 y] 29)) := ?_; rotate_left; (focus ((refine (hgr2'.block wr.heap.size ?_ ?_).trans ?_); (first | omega | (simp <;> omega)); (intro e; have hee := hne2 _ e.symm; omega); (focus (repeat (first | exact hkb | (with_reducible refine blk_drew ?_) | ((with_reducible refine blk_new _ ?_); (simp; done)) | (with_reducible refine blk_alloc ?_ _))))))))
        all_goals (go_wp2_with fail; go_meet; exact ⟨hq1'.1, hn2, hq1'.2.symm_, hbb⟩)
      case rest =>
        obtain ⟨hc1, hc2, hc3, hc4⟩ := hcut
        go_wp2
        go_roundw
        case rel =>
          refine ⟨k + 1, _, _, by omega, by go_num, ?_, ?_, hc1, hc2, hc3, hc4⟩
          · rw [Hs1.out, hxs.out]; exact rfl
          · rw [Hs2.out, hys.out]; exact rfl
        case measure => simp [intOf]; omega
    · obtain rfl : k = L.length := by omega
      rw [List.take_length] at hxs hys
      obtain ⟨P1, k1, rfl⟩ := own_form hq1
      obtain ⟨P2, k2, rfl⟩ := own_form hq2
      obtain ⟨ho2a, hor⟩ := ho2
      rcases hor with ⟨_, h0⟩ | ⟨g, cap, cur, rfl, hgb, hblk, hncap, hcapm, hcs, htk⟩
      · omega
      have hsr := hbel.size
      have hin : Rd wr wr.heap.size 2 (some ⟨g, 0, none⟩) (L.length + 1) (bCells (L ++ [(7, 0)])) := by
        have h1 := rd_of_blk (xs := bCells (L ++ [(7, 0)])) (n := L.length + 1) (sz := 2) hblk (by rw [htk, bCells_snoc]) (by rw [bCells_len]; simp)
        exact (h1.below hbel).more hsr
      have hinp : Rd wr wr.heap.size 2 (some ⟨g, 0, none⟩) L.length (bCells L) := by
        have h1 := hin.pre (k := L.length) (by omega)
        rw [bCells_snoc, List.take_left' (by rw [bCells_len])] at h1
        exact h1
      have hp1 := Rd.of_own hq1
      have hp2 := Rd.of_own hq2
      rw [hxs.out] at hp1
      rw [hys.out] at hp2
      have hbW : Below w.heap.size w wr := hb2.trans (hbel.mono hs2)
      have hlr := hg.below hbW hg.lt
      have hn1 : (L.length : Int) ≤ (cap : Int) := by omega
      have hn2 : (0 : Int) ≤ (L.length : Int) := by omega
      unfold maxLen at hcapm
      have Hrun := Lib.hid (show (runV L).length ≤ 1000 from by unfold runV; split <;> simp [runL]; omega)
      clear hq1 hq2 hap hxs hys hblk hcs htk ho2a ho1 hgrow1 hgrow2 hb1 hb2
      go_wp2_with fail
      refine (match_any L (some ⟨g, 0, none⟩) cap _ hlr hinp (by omega)).mono ?_
      rintro e w4 ⟨rfl, hb4⟩
      have hs4 := hb4.size
      have hl4 := hlr.below hb4 hlr.lt
      go_wp2_with fail
      refine (matchref_any L P1 P2 k1 k2 _ (by omega) ((hp1.below hb4).more hs4) ((hp2.below hb4).more hs4)).mono ?_
      rintro e w5 ⟨rfl, hb5⟩
      have hs5 := hb5.size
      have hl5 := hl4.below hb5 hl4.lt
      go_wp2_with fail
      refine (running_any L (some ⟨g, 0, none⟩) cap _ hl5 ((((hinp.below hb4).more hs4).below hb5).more hs5) (by omega)).mono ?_
      rintro e w6 ⟨v6, rfl, ho6, hb6⟩
      obtain ⟨R6, c6, rfl⟩ := own_form ho6
      have hr6 := Rd.of_own ho6
      have hs6 := hb6.size
      have hl6 := hl5.below hb6 hl5.lt
      go_wp2_with fail
      refine (runref_any L P1 P2 k1 k2 _ (by omega) ((((((hp1.below hb4).more hs4).below hb5).more hs5).below hb6).more hs6) ((((((hp2.below hb4).more hs4).below hb5).more hs5).below hb6).more hs6)).mono ?_
      rintro e w7 ⟨v7, rfl, ho7, hb7⟩
      obtain ⟨R7, c7, rfl⟩ := own_form ho7
      have hr7 := Rd.of_own ho7
      have hs7 := hb7.size
      have hl7 := hl6.below hb7 hl6.lt
      have hr67 := (hr6.below hb7).more hs7
      have hin7 := (((((((hin.below hb4).more hs4).below hb5).more hs5).below hb6).more hs6).below hb7).more hs7
      have hb17 : Below w.heap.size w w7 := by
        have t1 := hbW.trans (hb4.mono hbW.size)
        have t2 := t1.trans (hb5.mono t1.size)
        have t3 := t2.trans (hb6.mono t2.size)
        exact t3.trans (hb7.mono t3.size)
      have hl07 : Rd w7 w7.heap.size 2 A L.length (bCells L) := (Hl.out.below hb17).more hb17.size
      obtain ⟨g', o', e', _, hcc⟩ := hin7.pos (by omega)
      obtain ⟨rfl, rfl⟩ : g = g' ∧ 0 = o' := by injection e' with e'; injection e' with e1 e2; exact ⟨e1, e2⟩
      have z0 : w7.cell? ⟨g, L.length * 2, none⟩ = some (.int .i64 7) := by
        have := hcc (L.length * 2) (by rw [bCells_len]; simp)
        rw [Nat.zero_add, (bCells_get (L ++ [(7, 0)]) L.length (by simp)).1] at this
        simpa using this
      have z1 : w7.cell? ⟨g, L.length * 2 + 1, none⟩ = some (.int .i64 0) := by
        have := hcc (L.length * 2 + 1) (by rw [bCells_len, List.length_append]; simp; omega)
        rw [Nat.zero_add, (bCells_get (L ++ [(7, 0)]) L.length (by simp)).2] at this
        simpa using this
      have hi1 : (L.length : Int) < (L.length : Int) + 1 := by omega
      have Hin7 := Lib.hid hin7
      have Hr67 := Lib.hid hr67
      have Hr7 := Lib.hid hr7
      have Hl07 := Lib.hid hl07
      clear hcc hin hinp hp1 hp2 hr6 hr7 hr67 hin7 hl07 ho6 ho7 hlr hl4 hl5 hl6 hbel hbW hb4 hb5 hb6 hb7 hs4 hs5 hs6 hs7
      go_wp2
      go_loopw [110] (fun i wr => ∃ k : Nat, k ≤ (runV L).length ∧ i = .int .i64 (k : Int) ∧ Below w7.heap.size w7 wr) (fun i _ => (runV L).length - (intOf i).toNat)
      case atStart => exact ⟨0, by omega, rfl, Below.refl _ _⟩
      case round =>
        obtain ⟨k, hk, rfl, hbl⟩ := hrel
        have hrl := Hrun.out
        by_cases hlt : k < (runV L).length
        · obtain ⟨b1, o1, rfl, hw1, hd1⟩ := rd_int Hr67.out k hlt
          obtain ⟨b2, o2, rfl, hw2, hd2⟩ := rd_int Hr7.out k hlt
          have hx1 := (bcell hbl b1 (o1 + k) hw1).trans hd1
          have hx2 := (bcell hbl b2 (o2 + k) hw2).trans hd2
          have j1 : (k : Int) < ((runV L).length : Int) := by omega
          have j2 : (0 : Int) ≤ (k : Int) := by omega
          clear hd1 hd2 z0 z1
          generalize (runV L)[k] = x at hx1 hx2
          go_wp2
          go_quiet (fail)
          go_wp2
          go_roundw
          case rel => exact ⟨k + 1, by omega, by go_num, (by repeat (first | exact Below.refl _ _ | assumption | refine Below.drew ?_ | refine below_drewN ?_ _ | refine Below.alloc ?_ (by first | omega | (simp; done) | (simp; omega)) _ | refine Below.setCell ?_ (by first | omega | (simp; done) | (simp; omega)) _))⟩
          case measure => simp [intOf]; omega
        · obtain rfl : k = (runV L).length := by omega
          have hs8 := hbl.size
          obtain ⟨w8, rfl⟩ : ∃ w8 : World, w8 = wr := ⟨_, rfl⟩
          go_wp2
          go_loopw [125] (fun i wr => ∃ k : Nat, k ≤ L.length ∧ i = .int .i64 (k : Int) ∧ Below w7.heap.size w7 wr) (fun i _ => L.length - (intOf i).toNat)
          case atStart => exact ⟨0, by omega, rfl, hbl⟩
          case round =>
            obtain ⟨k, hk, rfl, hbm⟩ := hrel
            have hsm := hbm.size
            by_cases hlt : k < L.length
            · obtain ⟨b, off, rfl, hbw, hc1, hc2⟩ := rd_board Hl07.out k hlt
              obtain ⟨b', o', e', hbw', hc3⟩ := Hin7.out.pos (by omega)
              obtain ⟨rfl, rfl⟩ : g = b' ∧ 0 = o' := by injection e' with e'; injection e' with e1 e2; exact ⟨e1, e2⟩
              have hd1 := (bcell hbm b (off + k * 2) hbw).trans hc1
              have hd2 := (bcell hbm b (off + k * 2 + 1) hbw).trans hc2
              have hd3 : wr.cell? ⟨g, k * 2, none⟩ = some (.int .i64 L[k].1) := by
                have h1 := hc3 (k * 2) (by rw [bCells_len, List.length_append]; simp; omega)
                rw [Nat.zero_add, (bCells_get (L ++ [(7, 0)]) k (by simp; omega)).1, List.getElem_append_left hlt] at h1
                exact (bcell hbm g (k * 2) hbw').trans h1
              have hd4 : wr.cell? ⟨g, k * 2 + 1, none⟩ = some (.int .i64 L[k].2) := by
                have h1 := hc3 (k * 2 + 1) (by rw [bCells_len, List.length_append]; simp; omega)
                rw [Nat.zero_add, (bCells_get (L ++ [(7, 0)]) k (by simp; omega)).2, List.getElem_append_left hlt] at h1
                exact (bcell hbm g (k * 2 + 1) hbw').trans h1
              have j1 : (k : Int) < (L.length : Int) := by omega
              have j3 : (k : Int) < (L.length : Int) + 1 := by omega
              have j2 : (0 : Int) ≤ (k : Int) := by omega
              clear hc1 hc2 hc3 z0 z1 e'
              generalize L[k].1 = x at *
              generalize L[k].2 = y at *
              have hgr : g < wr.heap.size := by omega
              have hd3' := (Below.cell ((Below.refl _ wr).alloc (Nat.le_refl _) (.cells #[.int .i64 x, .int .i64 y] 29)) (p := ⟨g, k * 2, none⟩) hgr).trans hd3
              have hd4' := (Below.cell ((Below.refl _ wr).alloc (Nat.le_refl _) (.cells #[.int .i64 x, .int .i64 y] 29)) (p := ⟨g, k * 2 + 1, none⟩) hgr).trans hd4
              clear hd3 hd4
              go_wp2
              go_quiet (fail)
              go_wp2
              go_roundw
              case rel => exact ⟨k + 1, by omega, by go_num, (by repeat (first | exact Below.refl _ _ | assumption | refine Below.drew ?_ | refine below_drewN ?_ _ | refine Below.alloc ?_ (by first | omega | (simp; done) | (simp; omega)) _ | refine Below.setCell ?_ (by first | omega | (simp; done) | (simp; omega)) _))⟩
              case measure => simp [intOf]; omega
            · obtain rfl : k = L.length := by omega
              go_wp2
              go_ret
              exact ⟨rfl, hb17.trans (hbm.mono hb17.size)⟩

end Go.Proofs.YtkkemdjeobnpfaaDoor
