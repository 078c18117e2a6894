/- The walk of the statement ImpWrong. -/
import Derived.Test.YtkkemdjeobnpfaaDoorImpPartsW
import Derived.Test.YtkkemdjeobnpfaaDoorZeros
namespace Go.Proofs.YtkkemdjeobnpfaaDoor
open Go.RowKit

/-! ### Plain laws: a board changed -/
theorem bCells_set1 (L : List (Int × Int)) (v : Int) : ∀ (i : Nat) (h : i < L.length), (bCells L).set (i * 2 + 1) (.int .i64 v) = bCells (L.set i (L[i].1, v)) := by
  induction L with
  | nil => intro i h; simp at h
  | cons b L ih =>
    intro i h
    have e : ∀ M : List (Int × Int), ∀ c : Int × Int, bCells (c :: M) = .int .i64 c.1 :: .int .i64 c.2 :: bCells M := fun _ _ => rfl
    cases i with
    | zero => simp [e]
    | succ i =>
      have := ih i (by simpa using h)
      rw [e, show (i + 1) * 2 + 1 = (i * 2 + 1) + 1 + 1 by omega, List.set_cons_succ, List.set_cons_succ, this]
      simp [e]
theorem bCells_set0 (L : List (Int × Int)) (v : Int) : ∀ (i : Nat) (h : i < L.length), (bCells L).set (i * 2) (.int .i64 v) = bCells (L.set i (v, L[i].2)) := by
  induction L with
  | nil => intro i h; simp at h
  | cons b L ih =>
    intro i h
    have e : ∀ M : List (Int × Int), ∀ c : Int × Int, bCells (c :: M) = .int .i64 c.1 :: .int .i64 c.2 :: bCells M := fun _ _ => rfl
    cases i with
    | zero => simp [e]
    | succ i =>
      have := ih i (by simpa using h)
      rw [e, show (i + 1) * 2 = (i * 2) + 1 + 1 by omega, List.set_cons_succ, List.set_cons_succ, this]
      simp [e]
/-- A block that holds boards reads as them. -/
theorem rd_of_blk {w : World} {g t n : Nat} {cur : Array Value} {fr : Nat × Nat} {xs : List Value} {sz : Nat} (h : w.heap[g]? = some (.cells cur t fr)) (hx : cur.toList.take (n * sz) = xs) (hl : xs.length = n * sz) : Rd w w.heap.size sz (some ⟨g, 0, none⟩) n xs := by
  refine ⟨hl, fun _ => ⟨g, 0, rfl, blk_lt h, fun j hj => ?_⟩⟩
  rw [Nat.zero_add, blk_cell h j, ← hx, List.getElem?_take, if_pos (by omega)]
  simp
theorem take_set_ (cur : Array Value) (m k : Nat) (v : Value) : (cur.setIfInBounds k v).toList.take m = (cur.toList.take m).set k v := by
  rw [Array.toList_setIfInBounds, List.take_set]

/-! ### Too many boards -/
set_option maxHeartbeats 400000 in
theorem total_many (n : Nat) (A : Option Addr) (c : Nat) (F : Value) (w : World) (hn : 128 < n) (hm : n ≤ 4611686018427387904) :
    Calls Tryd.prog 25 #[.slice A n c, .agg #[.int .i64 0, .int .i64 0], F] w fun e w' => e = .returned (.tuple #[.agg #[.int .i64 0, .int .i64 0], .int .i64 5]) ∧ Below w.heap.size w w' := by
  go_enter Tryd.func25, Tryd.ntmps25
  go_wp2
  exact bodyPost_ret (v := .tuple #[.agg #[.int .i64 0, .int .i64 0], .int .i64 5]) (by simp [results, Tryd.results25, go_sem]) rfl ⟨rfl, (by repeat (first | exact Below.refl _ _ | assumption | refine Below.drew ?_ | refine below_drewN ?_ _ | refine Below.alloc ?_ (by first | omega | (simp; done) | (simp; omega)) _ | refine Below.setCell ?_ (by first | omega | (simp; done) | (simp; omega)) _))⟩
set_option maxHeartbeats 400000 in
theorem match_many (n : Nat) (A : Option Addr) (c : Nat) (w : World) (hn : 128 < n) (hm : n ≤ 4611686018427387904) :
    Calls Tryd.prog 20 #[.slice A n c] w fun e w' => e = .returned (.tuple #[.int .i64 0, .int .i64 0, .int .i64 5]) ∧ Below w.heap.size w w' := by
  go_enter Tryd.func20, Tryd.ntmps20
  go_wp2_with fail
  refine (total_many n A c _ w hn hm).mono ?_
  rintro e w1 ⟨rfl, hb⟩
  go_wp2
  go_quiet (fail)
  go_wp2
  go_ret3
  have hsz := hb.size
  exact ⟨rfl, (by repeat (first | exact Below.refl _ _ | assumption | refine Below.drew ?_ | refine below_drewN ?_ _ | refine Below.alloc ?_ (by first | omega | (simp; done) | (simp; omega)) _ | refine Below.setCell ?_ (by first | omega | (simp; done) | (simp; omega)) _))⟩
set_option maxHeartbeats 400000 in
theorem running_many (n : Nat) (A : Option Addr) (c : Nat) (w : World) (hn : 128 < n) (hm : n ≤ 4611686018427387904) :
    Calls Tryd.prog 21 #[.slice A n c] w fun e w' => e = .returned (.tuple #[.slice none 0 0, .int .i64 5]) ∧ Below w.heap.size w w' := by
  go_enter Tryd.func21, Tryd.ntmps21
  go_wp2
  go_ret2
  exact ⟨rfl, (by repeat (first | exact Below.refl _ _ | assumption | refine Below.drew ?_ | refine below_drewN ?_ _ | refine Below.alloc ?_ (by first | omega | (simp; done) | (simp; omega)) _ | refine Below.setCell ?_ (by first | omega | (simp; done) | (simp; omega)) _))⟩

theorem running_n (l : List (Int × Int)) (n : Nat) (hn : n = l.length) (A : Option Addr) (c : Nat) (w : World) (hg : Laid w) (hl : Rd w w.heap.size 2 A l.length (bCells l)) (hm : l.length ≤ 4611686018427387904) :
    Calls Tryd.prog 21 #[.slice A n c] w fun e w' => ∃ v, e = .returned (.tuple #[v, .int .i64 (matchE l)]) ∧ w'.ownsRow w.heap.size 3 1 v (runV l).length ((runV l).map (Value.int .i64)) ∧ Below w.heap.size w w' := by
  subst hn; exact running_any l A c w hg hl hm

theorem leastV_bad (n : Int) (h : n < 0 ∨ 24 < n) : leastV n = 0 ∧ leastE n = 2 := by
  unfold leastV leastE
  rw [if_pos (by omega), if_pos (by omega)]
  exact ⟨rfl, rfl⟩
structure WrongM (L : List (Int × Int)) : Prop where
  err : matchE L = 190
  won : wonV L = 0
  lost : lostV L = 0
  run : runV L = []
theorem wrongM (L : List (Int × Int)) (hn : L.length ≤ 128) (i : Nat) (hi : i < L.length) (hb : ¬ okB L[i]) : WrongM L := by
  have he := matchE_bad (by omega) i hi hb
  exact ⟨he, by simp [wonV, he], by simp [lostV, he], by simp [runV, he]⟩

set_option maxHeartbeats 4000000 in
set_option maxRecDepth 100000 in
theorem wrong_high_even (l : List Int) (at_ n : Int) (A : Option Addr) (c : Nat) (w : World) (hg : Laid w) (ha : 0 ≤ at_ ∧ at_ ≤ 255) (hn : -9223372036854775808 ≤ n ∧ n ≤ 9223372036854775807)
    (hl : Rd w w.heap.size 1 A l.length (u32C l)) (hu : U32s l) (hc : l.length ≤ c) (hm : c ≤ 9223372036854775807) (hev : (at_ % 2 == 0) = true) :
    Calls Tryd.prog 10 #[.slice A l.length c, .int .u8 at_, .int .i64 n, .bool false] w fun e w' => e = .returned (.bool true) ∧ Below w.heap.size w w' := by
  obtain ⟨i0, hi, hz0, hz1, hz2⟩ := info_parts info_board
  obtain ⟨n1, hn1⟩ : ∃ n1 : Nat, n1 = min l.length 127 := ⟨_, rfl⟩
  have b1 : n1 ≤ l.length ∧ n1 ≤ 127 := by omega
  have e1 : (if (127 : Int) < (l.length : Int) then 127 else (l.length : Int)) = (n1 : Int) := by split <;> omega
  have c1 : (n1 : Int) ≤ (c : Int) := by omega
  have c2 : (0 : Int) ≤ (n1 : Int) := by omega
  obtain ⟨W, hW0⟩ : ∃ W : Int, (if n < 7601 then 7601 else n) = W := ⟨_, rfl⟩
  have hW : 7601 ≤ W ∧ W ≤ 9223372036854775807 := by rw [← hW0]; split <;> omega
  obtain ⟨m1, hm1⟩ : ∃ m1 : Int, (if n < 25 then 25 else n) = m1 := ⟨_, rfl⟩
  have gm1 : 25 ≤ m1 := by rw [← hm1]; split <;> omega
  obtain ⟨m2, hm2⟩ : ∃ m2 : Int, (if -1 < n then -1 else n) = m2 := ⟨_, rfl⟩
  have gm2 : m2 ≤ -1 := by rw [← hm2]; split <;> omega
  skip
  clear hn1
  have Hl := Lib.hid hl
  clear hl
  go_enter Tryd.func10, Tryd.ntmps10
  go_wp2_with fail
  refine (made_part l _ n1 b1.1 rfl A c _ Hl.out hu hc hm).mono ?_
  rintro e w1 ⟨v, rfl, hown, hb1⟩
  have hok := madeL_ok (l.take n1) (fun x hx => hu x (List.mem_of_mem_take hx))
  have hlen : (madeL (l.take n1)).length ≤ 127 := by rw [madeL_len, List.length_take]; omega
  have hs1 := hb1.size
  clear e1
  generalize madeL (l.take n1) = p at *
  go_wp2_with (at_builtin; refine wpList_append_own_at _ rfl _ _ 34 rfl w.heap.size 29 i0 (.agg #[.int .i64 0, .int .i64 0]) 2 16 Tryd.underlying34 hi hz0 hz1 hz2 rfl (by decide) _ _ _ rfl (hown.alloc _) _ 1 1 [.int .i64 0, .int .i64 0] rfl rfl ?x1 ?x2 ?x3 ?x4 ?x5 ?_)
  case x1 => exact cells_new_at _ _ _ _ (by simp)
  case x2 => simp [Value.oneCell']
  case x3 => unfold maxLen; omega
  case x4 => omega
  case x5 => simp; omega
  intro v2 w2 hown2 hgrow _ _
  have hb2 : Below w.heap.size w w2 := (hb1.alloc hs1 _).grown hgrow (by simp; omega) (fun g hg => (hown.lt g hg).1)
  obtain ⟨hx2, hor⟩ := hown2
  rcases hor with ⟨_, h0⟩ | ⟨g, cap, cur, rfl, hgb, hblk, hncap, hcapm, hcs, htk⟩
  · omega
  obtain ⟨i, hidx⟩ : ∃ i : Nat, at_ % ((p.length : Int) + 1) = (i : Int) := ⟨(at_ % ((p.length : Int) + 1)).toNat, by have := Int.emod_nonneg at_ (show (p.length : Int) + 1 ≠ 0 by omega); omega⟩
  have hil : i < p.length + 1 := by have := Int.emod_lt_of_pos at_ (show 0 < (p.length : Int) + 1 by omega); omega
  have hil' : (i : Int) < (p.length : Int) + 1 := by omega
  have hi0 : (0 : Int) ≤ (i : Int) := by omega
  unfold maxLen at hcapm
  have hcsz : (p.length + 1) * 2 ≤ cur.size := by rw [hcs]; omega
  obtain ⟨y0, k0⟩ : ∃ y, w2.cell? ⟨g, i * 2, none⟩ = some y := ⟨_, (blk_cell hblk _).trans (Array.getElem?_eq_getElem (show i * 2 < cur.size by omega))⟩
  obtain ⟨y1, k1⟩ : ∃ y, w2.cell? ⟨g, i * 2 + 1, none⟩ = some y := ⟨_, (blk_cell hblk _).trans (Array.getElem?_eq_getElem (show i * 2 + 1 < cur.size by omega))⟩
  have kf : ∀ j, w2.frozen? ⟨g, j, none⟩ = false := blk_free hblk
  have Hblk := Lib.hid hblk
  have Htk := Lib.hid htk
  have Hcs := Lib.hid hcs
  clear hblk htk hcs hown hgrow
  obtain ⟨L, hLlen, hLi, hLc⟩ : ∃ (L : List (Int × Int)), L.length = p.length + 1 ∧ (∀ h : i < L.length, L[i] = (W, 0)) ∧
      bCells L = (((bCells (p ++ [(0, 0)])).set (i * 2 + 1) (.int .i64 W)).set (i * 2) (.int .i64 W)).set (i * 2 + 1) (.int .i64 0) := by
    refine ⟨_, ?_, ?_, (by rw [bCells_set1 _ _ i (by simpa using hil), bCells_set0 _ _ i (by simpa using hil), bCells_set1 _ _ i (by simpa using hil)])⟩
    · simp
    · intro h; simp
  have hL128 : L.length ≤ 128 := by omega
  have M := wrongM L hL128 i (by omega) (by rw [hLi (by omega)]; unfold okB okScore; omega)
  have hB3 := blk_set (blk_set (blk_set Hblk.out (i * 2 + 1) (.int .i64 W)) (i * 2) (.int .i64 W)) (i * 2 + 1) (.int .i64 0)
  have hr3 := rd_of_blk (xs := bCells L) (n := p.length + 1) (sz := 2) hB3 (by
    rw [take_set_, take_set_, take_set_, Htk.out, hLc]; rw [bCells_snoc]) (by rw [bCells_len, hLlen])
  have hb3 := ((hb2.setCell (p := ⟨g, i * 2 + 1, none⟩) hgb (.int .i64 W)).setCell (p := ⟨g, i * 2, none⟩) hgb (.int .i64 W)).setCell (p := ⟨g, i * 2 + 1, none⟩) hgb (.int .i64 0)
  have hE : Hid (swingE W 0 = 190 ∧ swingV W 0 = 0) := ⟨swing_bad (b := (W, 0)) (by unfold okB okScore; omega), if_neg (by unfold okScore; omega)⟩
  have M1 := Lib.hid M.err; have M2 := Lib.hid M.won; have M3 := Lib.hid M.lost; have M4 := Lib.hid M.run
  have HLl := Lib.hid hLlen
  have HLi := Lib.hid hLi
  clear M hLlen hLi hLc
  go_wp2_with fail
  generalize (((w2.setCell ⟨g, i * 2 + 1, none⟩ (.int .i64 W)).setCell ⟨g, i * 2, none⟩ (.int .i64 W)).setCell ⟨g, i * 2 + 1, none⟩ (.int .i64 0)) = w3 at *
  have hl3 := hg.below hb3 hg.lt
  have hs3 := hb3.size
  have z0 : w3.cell? ⟨g, i * 2, none⟩ = some (.int .i64 W) := by
    obtain ⟨b', o', e', _, hcc⟩ := hr3.pos (by omega)
    obtain ⟨rfl, rfl⟩ : g = b' ∧ 0 = o' := by injection e' with e'; injection e' with e1 e2; exact ⟨e1, e2⟩
    have := hcc (i * 2) (by rw [bCells_len, HLl.out]; omega)
    rw [Nat.zero_add, (bCells_get L i (by rw [HLl.out]; exact hil)).1, HLi.out (by rw [HLl.out]; exact hil)] at this
    exact this
  have z1 : w3.cell? ⟨g, i * 2 + 1, none⟩ = some (.int .i64 0) := by
    obtain ⟨b', o', e', _, hcc⟩ := hr3.pos (by omega)
    obtain ⟨rfl, rfl⟩ : g = b' ∧ 0 = o' := by injection e' with e'; injection e' with e1 e2; exact ⟨e1, e2⟩
    have := hcc (i * 2 + 1) (by rw [bCells_len, HLl.out]; omega)
    rw [Nat.zero_add, (bCells_get L i (by rw [HLl.out]; exact hil)).2, HLi.out (by rw [HLl.out]; exact hil)] at this
    exact this
  have hgw := blk_lt hB3
  have HB3 := Lib.hid hB3
  clear k0 k1 kf Hblk Htk Hcs hB3
  refine (match_n L (p.length + 1) HLl.out.symm (some ⟨g, 0, none⟩) cap w3 hl3 (by rw [HLl.out]; exact hr3) (by omega)).mono ?_
  rintro e w4 ⟨rfl, hb4⟩
  rw [M1.out, M2.out, M3.out]
  have hs4 := hb4.size
  have hl4 := hl3.below hb4 hl3.lt
  have hr4 := (hr3.below hb4).more hs4
  have y0 := (bcell hb4 g (i * 2) hgw).trans z0
  have y1 := (bcell hb4 g (i * 2 + 1) hgw).trans z1
  go_wp2_with fail
  refine (running_n L (p.length + 1) HLl.out.symm (some ⟨g, 0, none⟩) cap w4 hl4 (by rw [HLl.out]; exact hr4) (by omega)).mono ?_
  rintro e w5 ⟨v5, rfl, hown5, hb5⟩
  rw [M1.out]
  rw [M4.out] at hown5
  obtain ⟨A5, c5, rfl⟩ := own_form hown5
  have hs5 := hb5.size
  have hl5 := hl4.below hb5 hl4.lt
  have hr5 := (hr4.below hb5).more hs5
  have x0 := (bcell hb5 g (i * 2) (by omega)).trans y0
  have x1 := (bcell hb5 g (i * 2 + 1) (by omega)).trans y1
  clear hown5 y0 y1 z0 z1 hr3 hr4
  go_wp2_with fail
  refine (swing_any W 0 _ hl5).mono ?_
  rintro e w6 ⟨rfl, hb6⟩
  rw [hE.out.1, hE.out.2]
  have hs6 := hb6.size
  have hl6 := hl5.below hb6 hl5.lt
  have hr6 := (hr5.below hb6).more hs6
  clear x0 x1 hr5
  go_wp2_with (at_builtin; refine wpList_append_zeros rfl _ _ 34 3 rfl w6.heap.size 29 i0 (.agg #[.int .i64 0, .int .i64 0]) .i64 Tryd.underlying34 Tryd.underlying3 hi hz0 (by rw [hz1]; rfl) ⟨w6.heap.size, 0, none⟩ 128 rfl rfl (by decide) (by rw [hz1]; decide) (by decide) (by rw [hz2]; decide) ?u1 ?_)
  case u1 => simp
  intro v7 w7 ho7 hb7
  have hb7' : Below w6.heap.size w6 w7 := ((Below.refl _ _).alloc (Nat.le_refl _) _).trans (hb7.mono (by simp))
  have hr7 := hr6.below hb7'
  go_wp2_with (at_builtin; refine wpList_append_src rfl _ _ 34 rfl w6.heap.size 29 i0 (.agg #[.int .i64 0, .int .i64 0]) 2 16 Tryd.underlying34 hi hz0 hz1 hz2 rfl (by decide) _ _ _ rfl ho7 (some ⟨g, 0, none⟩) (p.length + 1) cap w6.heap.size (bCells L) rfl hr7 (fun h => by cases h) (bCells_one L) ?u2 ?u3 ?u4 ?_)
  case u2 => unfold maxLen; omega
  case u3 => omega
  case u4 => exact hb7'.size
  intro v8 w8 ho8 hgrow8 _
  have hb8 : Below w6.heap.size w6 w8 := hb7'.grown hgrow8 hb7'.size (fun g hg => (ho7.lt g hg).1)
  obtain ⟨A8, c8, rfl⟩ := own_form ho8
  have hl8 := hl6.below hb8 hl6.lt
  clear ho7 ho8 hgrow8 hr7 hr6
  go_wp2_with fail
  refine (match_many _ A8 c8 _ (by omega) (by omega)).mono ?_
  rintro e w9 ⟨rfl, hb9⟩
  have hl9 := hl8.below hb9 hl8.lt
  go_wp2_with fail
  refine (running_many _ A8 c8 _ (by omega) (by omega)).mono ?_
  rintro e wa ⟨rfl, hba⟩
  have hla := hl9.below hba hl9.lt
  have L1 := leastV_bad m1 (by omega)
  have L2 := leastV_bad m2 (by omega)
  have HL1 := Lib.hid L1
  have HL2 := Lib.hid L2
  clear L1 L2
  go_wp2_with fail
  refine (least_any m1 _ hla).mono ?_
  rintro e _ ⟨rfl, rfl⟩
  rw [HL1.out.1, HL1.out.2]
  go_wp2_with fail
  refine (least_any m2 _ hla).mono ?_
  rintro e _ ⟨rfl, rfl⟩
  rw [HL2.out.1, HL2.out.2]
  go_wp2_with fail
  refine (awake_any _ hla).mono ?_
  rintro e wb ⟨rfl, hbb⟩
  go_wp2
  go_ret
  have t1 := hb3.trans (hb4.mono hb3.size)
  have t2 := t1.trans (hb5.mono t1.size)
  have t3 := t2.trans (hb6.mono t2.size)
  have t4 := t3.trans (hb8.mono t3.size)
  have t5 := t4.trans (hb9.mono t4.size)
  have t6 := t5.trans (hba.mono t5.size)
  exact ⟨rfl, t6.trans (hbb.mono t6.size)⟩

set_option maxHeartbeats 4000000 in
set_option maxRecDepth 100000 in
theorem wrong_high_odd (l : List Int) (at_ n : Int) (A : Option Addr) (c : Nat) (w : World) (hg : Laid w) (ha : 0 ≤ at_ ∧ at_ ≤ 255) (hn : -9223372036854775808 ≤ n ∧ n ≤ 9223372036854775807)
    (hl : Rd w w.heap.size 1 A l.length (u32C l)) (hu : U32s l) (hc : l.length ≤ c) (hm : c ≤ 9223372036854775807) (hev : (at_ % 2 == 0) = false) :
    Calls Tryd.prog 10 #[.slice A l.length c, .int .u8 at_, .int .i64 n, .bool false] w fun e w' => e = .returned (.bool true) ∧ Below w.heap.size w w' := by
  obtain ⟨i0, hi, hz0, hz1, hz2⟩ := info_parts info_board
  obtain ⟨n1, hn1⟩ : ∃ n1 : Nat, n1 = min l.length 127 := ⟨_, rfl⟩
  have b1 : n1 ≤ l.length ∧ n1 ≤ 127 := by omega
  have e1 : (if (127 : Int) < (l.length : Int) then 127 else (l.length : Int)) = (n1 : Int) := by split <;> omega
  have c1 : (n1 : Int) ≤ (c : Int) := by omega
  have c2 : (0 : Int) ≤ (n1 : Int) := by omega
  obtain ⟨W, hW0⟩ : ∃ W : Int, (if n < 7601 then 7601 else n) = W := ⟨_, rfl⟩
  have hW : 7601 ≤ W ∧ W ≤ 9223372036854775807 := by rw [← hW0]; split <;> omega
  obtain ⟨m1, hm1⟩ : ∃ m1 : Int, (if n < 25 then 25 else n) = m1 := ⟨_, rfl⟩
  have gm1 : 25 ≤ m1 := by rw [← hm1]; split <;> omega
  obtain ⟨m2, hm2⟩ : ∃ m2 : Int, (if -1 < n then -1 else n) = m2 := ⟨_, rfl⟩
  have gm2 : m2 ≤ -1 := by rw [← hm2]; split <;> omega
  skip
  clear hn1
  have Hl := Lib.hid hl
  clear hl
  go_enter Tryd.func10, Tryd.ntmps10
  go_wp2_with fail
  refine (made_part l _ n1 b1.1 rfl A c _ Hl.out hu hc hm).mono ?_
  rintro e w1 ⟨v, rfl, hown, hb1⟩
  have hok := madeL_ok (l.take n1) (fun x hx => hu x (List.mem_of_mem_take hx))
  have hlen : (madeL (l.take n1)).length ≤ 127 := by rw [madeL_len, List.length_take]; omega
  have hs1 := hb1.size
  clear e1
  generalize madeL (l.take n1) = p at *
  go_wp2_with (at_builtin; refine wpList_append_own_at _ rfl _ _ 34 rfl w.heap.size 29 i0 (.agg #[.int .i64 0, .int .i64 0]) 2 16 Tryd.underlying34 hi hz0 hz1 hz2 rfl (by decide) _ _ _ rfl (hown.alloc _) _ 1 1 [.int .i64 0, .int .i64 0] rfl rfl ?x1 ?x2 ?x3 ?x4 ?x5 ?_)
  case x1 => exact cells_new_at _ _ _ _ (by simp)
  case x2 => simp [Value.oneCell']
  case x3 => unfold maxLen; omega
  case x4 => omega
  case x5 => simp; omega
  intro v2 w2 hown2 hgrow _ _
  have hb2 : Below w.heap.size w w2 := (hb1.alloc hs1 _).grown hgrow (by simp; omega) (fun g hg => (hown.lt g hg).1)
  obtain ⟨hx2, hor⟩ := hown2
  rcases hor with ⟨_, h0⟩ | ⟨g, cap, cur, rfl, hgb, hblk, hncap, hcapm, hcs, htk⟩
  · omega
  obtain ⟨i, hidx⟩ : ∃ i : Nat, at_ % ((p.length : Int) + 1) = (i : Int) := ⟨(at_ % ((p.length : Int) + 1)).toNat, by have := Int.emod_nonneg at_ (show (p.length : Int) + 1 ≠ 0 by omega); omega⟩
  have hil : i < p.length + 1 := by have := Int.emod_lt_of_pos at_ (show 0 < (p.length : Int) + 1 by omega); omega
  have hil' : (i : Int) < (p.length : Int) + 1 := by omega
  have hi0 : (0 : Int) ≤ (i : Int) := by omega
  unfold maxLen at hcapm
  have hcsz : (p.length + 1) * 2 ≤ cur.size := by rw [hcs]; omega
  obtain ⟨y0, k0⟩ : ∃ y, w2.cell? ⟨g, i * 2, none⟩ = some y := ⟨_, (blk_cell hblk _).trans (Array.getElem?_eq_getElem (show i * 2 < cur.size by omega))⟩
  obtain ⟨y1, k1⟩ : ∃ y, w2.cell? ⟨g, i * 2 + 1, none⟩ = some y := ⟨_, (blk_cell hblk _).trans (Array.getElem?_eq_getElem (show i * 2 + 1 < cur.size by omega))⟩
  have kf : ∀ j, w2.frozen? ⟨g, j, none⟩ = false := blk_free hblk
  have Hblk := Lib.hid hblk
  have Htk := Lib.hid htk
  have Hcs := Lib.hid hcs
  clear hblk htk hcs hown hgrow
  obtain ⟨X, hX⟩ : ∃ X : Int, ((p ++ [(0, 0)])[i]'(by simpa using hil)).1 = X := ⟨_, rfl⟩
  obtain ⟨L, hLlen, hLi, hLc⟩ : ∃ (L : List (Int × Int)), L.length = p.length + 1 ∧ (∀ h : i < L.length, L[i] = (X, W)) ∧
      bCells L = (bCells (p ++ [(0, 0)])).set (i * 2 + 1) (.int .i64 W) := by
    refine ⟨(p ++ [(0, 0)]).set i (X, W), by simp, ?_, ?_⟩
    · intro h; rw [List.getElem_set_self]
    · rw [bCells_set1 _ _ i (by simpa using hil), hX]
  clear hX
  have hL128 : L.length ≤ 128 := by omega
  have M := wrongM L hL128 i (by omega) (by rw [hLi (by omega)]; unfold okB okScore; omega)
  have hB3 := blk_set Hblk.out (i * 2 + 1) (.int .i64 W)
  have hr3 := rd_of_blk (xs := bCells L) (n := p.length + 1) (sz := 2) hB3 (by
    rw [take_set_, Htk.out, hLc]; rw [bCells_snoc]) (by rw [bCells_len, hLlen])
  have hb3 := hb2.setCell (p := ⟨g, i * 2 + 1, none⟩) hgb (.int .i64 W)
  have hE : Hid (swingE X W = 190 ∧ swingV X W = 0) := ⟨swing_bad (b := (X, W)) (by unfold okB okScore; omega), if_neg (by unfold okScore; omega)⟩
  have M1 := Lib.hid M.err; have M2 := Lib.hid M.won; have M3 := Lib.hid M.lost; have M4 := Lib.hid M.run
  have HLl := Lib.hid hLlen
  have HLi := Lib.hid hLi
  clear M hLlen hLi hLc
  go_wp2_with fail
  generalize (w2.setCell ⟨g, i * 2 + 1, none⟩ (.int .i64 W)) = w3 at *
  have hl3 := hg.below hb3 hg.lt
  have hs3 := hb3.size
  have z0 : w3.cell? ⟨g, i * 2, none⟩ = some (.int .i64 X) := by
    obtain ⟨b', o', e', _, hcc⟩ := hr3.pos (by omega)
    obtain ⟨rfl, rfl⟩ : g = b' ∧ 0 = o' := by injection e' with e'; injection e' with e1 e2; exact ⟨e1, e2⟩
    have := hcc (i * 2) (by rw [bCells_len, HLl.out]; omega)
    rw [Nat.zero_add, (bCells_get L i (by rw [HLl.out]; exact hil)).1, HLi.out (by rw [HLl.out]; exact hil)] at this
    exact this
  have z1 : w3.cell? ⟨g, i * 2 + 1, none⟩ = some (.int .i64 W) := by
    obtain ⟨b', o', e', _, hcc⟩ := hr3.pos (by omega)
    obtain ⟨rfl, rfl⟩ : g = b' ∧ 0 = o' := by injection e' with e'; injection e' with e1 e2; exact ⟨e1, e2⟩
    have := hcc (i * 2 + 1) (by rw [bCells_len, HLl.out]; omega)
    rw [Nat.zero_add, (bCells_get L i (by rw [HLl.out]; exact hil)).2, HLi.out (by rw [HLl.out]; exact hil)] at this
    exact this
  have hgw := blk_lt hB3
  have HB3 := Lib.hid hB3
  clear k0 k1 kf Hblk Htk Hcs hB3
  refine (match_n L (p.length + 1) HLl.out.symm (some ⟨g, 0, none⟩) cap w3 hl3 (by rw [HLl.out]; exact hr3) (by omega)).mono ?_
  rintro e w4 ⟨rfl, hb4⟩
  rw [M1.out, M2.out, M3.out]
  have hs4 := hb4.size
  have hl4 := hl3.below hb4 hl3.lt
  have hr4 := (hr3.below hb4).more hs4
  have y0 := (bcell hb4 g (i * 2) hgw).trans z0
  have y1 := (bcell hb4 g (i * 2 + 1) hgw).trans z1
  go_wp2_with fail
  refine (running_n L (p.length + 1) HLl.out.symm (some ⟨g, 0, none⟩) cap w4 hl4 (by rw [HLl.out]; exact hr4) (by omega)).mono ?_
  rintro e w5 ⟨v5, rfl, hown5, hb5⟩
  rw [M1.out]
  rw [M4.out] at hown5
  obtain ⟨A5, c5, rfl⟩ := own_form hown5
  have hs5 := hb5.size
  have hl5 := hl4.below hb5 hl4.lt
  have hr5 := (hr4.below hb5).more hs5
  have x0 := (bcell hb5 g (i * 2) (by omega)).trans y0
  have x1 := (bcell hb5 g (i * 2 + 1) (by omega)).trans y1
  clear hown5 y0 y1 z0 z1 hr3 hr4
  go_wp2_with fail
  refine (swing_any X W _ hl5).mono ?_
  rintro e w6 ⟨rfl, hb6⟩
  rw [hE.out.1, hE.out.2]
  have hs6 := hb6.size
  have hl6 := hl5.below hb6 hl5.lt
  have hr6 := (hr5.below hb6).more hs6
  clear x0 x1 hr5
  go_wp2_with (at_builtin; refine wpList_append_zeros rfl _ _ 34 3 rfl w6.heap.size 29 i0 (.agg #[.int .i64 0, .int .i64 0]) .i64 Tryd.underlying34 Tryd.underlying3 hi hz0 (by rw [hz1]; rfl) ⟨w6.heap.size, 0, none⟩ 128 rfl rfl (by decide) (by rw [hz1]; decide) (by decide) (by rw [hz2]; decide) ?u1 ?_)
  case u1 => simp
  intro v7 w7 ho7 hb7
  have hb7' : Below w6.heap.size w6 w7 := ((Below.refl _ _).alloc (Nat.le_refl _) _).trans (hb7.mono (by simp))
  have hr7 := hr6.below hb7'
  go_wp2_with (at_builtin; refine wpList_append_src rfl _ _ 34 rfl w6.heap.size 29 i0 (.agg #[.int .i64 0, .int .i64 0]) 2 16 Tryd.underlying34 hi hz0 hz1 hz2 rfl (by decide) _ _ _ rfl ho7 (some ⟨g, 0, none⟩) (p.length + 1) cap w6.heap.size (bCells L) rfl hr7 (fun h => by cases h) (bCells_one L) ?u2 ?u3 ?u4 ?_)
  case u2 => unfold maxLen; omega
  case u3 => omega
  case u4 => exact hb7'.size
  intro v8 w8 ho8 hgrow8 _
  have hb8 : Below w6.heap.size w6 w8 := hb7'.grown hgrow8 hb7'.size (fun g hg => (ho7.lt g hg).1)
  obtain ⟨A8, c8, rfl⟩ := own_form ho8
  have hl8 := hl6.below hb8 hl6.lt
  clear ho7 ho8 hgrow8 hr7 hr6
  go_wp2_with fail
  refine (match_many _ A8 c8 _ (by omega) (by omega)).mono ?_
  rintro e w9 ⟨rfl, hb9⟩
  have hl9 := hl8.below hb9 hl8.lt
  go_wp2_with fail
  refine (running_many _ A8 c8 _ (by omega) (by omega)).mono ?_
  rintro e wa ⟨rfl, hba⟩
  have hla := hl9.below hba hl9.lt
  have L1 := leastV_bad m1 (by omega)
  have L2 := leastV_bad m2 (by omega)
  have HL1 := Lib.hid L1
  have HL2 := Lib.hid L2
  clear L1 L2
  go_wp2_with fail
  refine (least_any m1 _ hla).mono ?_
  rintro e _ ⟨rfl, rfl⟩
  rw [HL1.out.1, HL1.out.2]
  go_wp2_with fail
  refine (least_any m2 _ hla).mono ?_
  rintro e _ ⟨rfl, rfl⟩
  rw [HL2.out.1, HL2.out.2]
  go_wp2_with fail
  refine (awake_any _ hla).mono ?_
  rintro e wb ⟨rfl, hbb⟩
  go_wp2
  go_ret
  have t1 := hb3.trans (hb4.mono hb3.size)
  have t2 := t1.trans (hb5.mono t1.size)
  have t3 := t2.trans (hb6.mono t2.size)
  have t4 := t3.trans (hb8.mono t3.size)
  have t5 := t4.trans (hb9.mono t4.size)
  have t6 := t5.trans (hba.mono t5.size)
  exact ⟨rfl, t6.trans (hbb.mono t6.size)⟩

set_option maxHeartbeats 4000000 in
set_option maxRecDepth 100000 in
theorem wrong_low_even (l : List Int) (at_ n : Int) (A : Option Addr) (c : Nat) (w : World) (hg : Laid w) (ha : 0 ≤ at_ ∧ at_ ≤ 255) (hn : -9223372036854775808 ≤ n ∧ n ≤ 9223372036854775807)
    (hl : Rd w w.heap.size 1 A l.length (u32C l)) (hu : U32s l) (hc : l.length ≤ c) (hm : c ≤ 9223372036854775807) (hev : (at_ % 2 == 0) = true) :
    Calls Tryd.prog 10 #[.slice A l.length c, .int .u8 at_, .int .i64 n, .bool true] w fun e w' => e = .returned (.bool true) ∧ Below w.heap.size w w' := by
  obtain ⟨i0, hi, hz0, hz1, hz2⟩ := info_parts info_board
  obtain ⟨n1, hn1⟩ : ∃ n1 : Nat, n1 = min l.length 127 := ⟨_, rfl⟩
  have b1 : n1 ≤ l.length ∧ n1 ≤ 127 := by omega
  have e1 : (if (127 : Int) < (l.length : Int) then 127 else (l.length : Int)) = (n1 : Int) := by split <;> omega
  have c1 : (n1 : Int) ≤ (c : Int) := by omega
  have c2 : (0 : Int) ≤ (n1 : Int) := by omega
  obtain ⟨W, hW0⟩ : ∃ W : Int, (if -7601 < n then -7601 else n) = W := ⟨_, rfl⟩
  have hW : -9223372036854775808 ≤ W ∧ W ≤ -7601 := by rw [← hW0]; split <;> omega
  obtain ⟨m1, hm1⟩ : ∃ m1 : Int, (if n < 25 then 25 else n) = m1 := ⟨_, rfl⟩
  have gm1 : 25 ≤ m1 := by rw [← hm1]; split <;> omega
  obtain ⟨m2, hm2⟩ : ∃ m2 : Int, (if -1 < n then -1 else n) = m2 := ⟨_, rfl⟩
  have gm2 : m2 ≤ -1 := by rw [← hm2]; split <;> omega
  obtain ⟨m0, hm0⟩ : ∃ m0 : Int, (if n < 7601 then 7601 else n) = m0 := ⟨_, rfl⟩
  clear hn1
  have Hl := Lib.hid hl
  clear hl
  go_enter Tryd.func10, Tryd.ntmps10
  go_wp2_with fail
  refine (made_part l _ n1 b1.1 rfl A c _ Hl.out hu hc hm).mono ?_
  rintro e w1 ⟨v, rfl, hown, hb1⟩
  have hok := madeL_ok (l.take n1) (fun x hx => hu x (List.mem_of_mem_take hx))
  have hlen : (madeL (l.take n1)).length ≤ 127 := by rw [madeL_len, List.length_take]; omega
  have hs1 := hb1.size
  clear e1
  generalize madeL (l.take n1) = p at *
  go_wp2_with (at_builtin; refine wpList_append_own_at _ rfl _ _ 34 rfl w.heap.size 29 i0 (.agg #[.int .i64 0, .int .i64 0]) 2 16 Tryd.underlying34 hi hz0 hz1 hz2 rfl (by decide) _ _ _ rfl (hown.alloc _) _ 1 1 [.int .i64 0, .int .i64 0] rfl rfl ?x1 ?x2 ?x3 ?x4 ?x5 ?_)
  case x1 => exact cells_new_at _ _ _ _ (by simp)
  case x2 => simp [Value.oneCell']
  case x3 => unfold maxLen; omega
  case x4 => omega
  case x5 => simp; omega
  intro v2 w2 hown2 hgrow _ _
  have hb2 : Below w.heap.size w w2 := (hb1.alloc hs1 _).grown hgrow (by simp; omega) (fun g hg => (hown.lt g hg).1)
  obtain ⟨hx2, hor⟩ := hown2
  rcases hor with ⟨_, h0⟩ | ⟨g, cap, cur, rfl, hgb, hblk, hncap, hcapm, hcs, htk⟩
  · omega
  obtain ⟨i, hidx⟩ : ∃ i : Nat, at_ % ((p.length : Int) + 1) = (i : Int) := ⟨(at_ % ((p.length : Int) + 1)).toNat, by have := Int.emod_nonneg at_ (show (p.length : Int) + 1 ≠ 0 by omega); omega⟩
  have hil : i < p.length + 1 := by have := Int.emod_lt_of_pos at_ (show 0 < (p.length : Int) + 1 by omega); omega
  have hil' : (i : Int) < (p.length : Int) + 1 := by omega
  have hi0 : (0 : Int) ≤ (i : Int) := by omega
  unfold maxLen at hcapm
  have hcsz : (p.length + 1) * 2 ≤ cur.size := by rw [hcs]; omega
  obtain ⟨y0, k0⟩ : ∃ y, w2.cell? ⟨g, i * 2, none⟩ = some y := ⟨_, (blk_cell hblk _).trans (Array.getElem?_eq_getElem (show i * 2 < cur.size by omega))⟩
  obtain ⟨y1, k1⟩ : ∃ y, w2.cell? ⟨g, i * 2 + 1, none⟩ = some y := ⟨_, (blk_cell hblk _).trans (Array.getElem?_eq_getElem (show i * 2 + 1 < cur.size by omega))⟩
  have kf : ∀ j, w2.frozen? ⟨g, j, none⟩ = false := blk_free hblk
  have Hblk := Lib.hid hblk
  have Htk := Lib.hid htk
  have Hcs := Lib.hid hcs
  clear hblk htk hcs hown hgrow
  obtain ⟨L, hLlen, hLi, hLc⟩ : ∃ (L : List (Int × Int)), L.length = p.length + 1 ∧ (∀ h : i < L.length, L[i] = (W, 0)) ∧
      bCells L = (((bCells (p ++ [(0, 0)])).set (i * 2 + 1) (.int .i64 W)).set (i * 2) (.int .i64 W)).set (i * 2 + 1) (.int .i64 0) := by
    refine ⟨_, ?_, ?_, (by rw [bCells_set1 _ _ i (by simpa using hil), bCells_set0 _ _ i (by simpa using hil), bCells_set1 _ _ i (by simpa using hil)])⟩
    · simp
    · intro h; simp
  have hL128 : L.length ≤ 128 := by omega
  have M := wrongM L hL128 i (by omega) (by rw [hLi (by omega)]; unfold okB okScore; omega)
  have hB3 := blk_set (blk_set (blk_set Hblk.out (i * 2 + 1) (.int .i64 W)) (i * 2) (.int .i64 W)) (i * 2 + 1) (.int .i64 0)
  have hr3 := rd_of_blk (xs := bCells L) (n := p.length + 1) (sz := 2) hB3 (by
    rw [take_set_, take_set_, take_set_, Htk.out, hLc]; rw [bCells_snoc]) (by rw [bCells_len, hLlen])
  have hb3 := ((hb2.setCell (p := ⟨g, i * 2 + 1, none⟩) hgb (.int .i64 W)).setCell (p := ⟨g, i * 2, none⟩) hgb (.int .i64 W)).setCell (p := ⟨g, i * 2 + 1, none⟩) hgb (.int .i64 0)
  have hE : Hid (swingE W 0 = 190 ∧ swingV W 0 = 0) := ⟨swing_bad (b := (W, 0)) (by unfold okB okScore; omega), if_neg (by unfold okScore; omega)⟩
  have M1 := Lib.hid M.err; have M2 := Lib.hid M.won; have M3 := Lib.hid M.lost; have M4 := Lib.hid M.run
  have HLl := Lib.hid hLlen
  have HLi := Lib.hid hLi
  clear M hLlen hLi hLc
  go_wp2_with fail
  generalize (((w2.setCell ⟨g, i * 2 + 1, none⟩ (.int .i64 W)).setCell ⟨g, i * 2, none⟩ (.int .i64 W)).setCell ⟨g, i * 2 + 1, none⟩ (.int .i64 0)) = w3 at *
  have hl3 := hg.below hb3 hg.lt
  have hs3 := hb3.size
  have z0 : w3.cell? ⟨g, i * 2, none⟩ = some (.int .i64 W) := by
    obtain ⟨b', o', e', _, hcc⟩ := hr3.pos (by omega)
    obtain ⟨rfl, rfl⟩ : g = b' ∧ 0 = o' := by injection e' with e'; injection e' with e1 e2; exact ⟨e1, e2⟩
    have := hcc (i * 2) (by rw [bCells_len, HLl.out]; omega)
    rw [Nat.zero_add, (bCells_get L i (by rw [HLl.out]; exact hil)).1, HLi.out (by rw [HLl.out]; exact hil)] at this
    exact this
  have z1 : w3.cell? ⟨g, i * 2 + 1, none⟩ = some (.int .i64 0) := by
    obtain ⟨b', o', e', _, hcc⟩ := hr3.pos (by omega)
    obtain ⟨rfl, rfl⟩ : g = b' ∧ 0 = o' := by injection e' with e'; injection e' with e1 e2; exact ⟨e1, e2⟩
    have := hcc (i * 2 + 1) (by rw [bCells_len, HLl.out]; omega)
    rw [Nat.zero_add, (bCells_get L i (by rw [HLl.out]; exact hil)).2, HLi.out (by rw [HLl.out]; exact hil)] at this
    exact this
  have hgw := blk_lt hB3
  have HB3 := Lib.hid hB3
  clear k0 k1 kf Hblk Htk Hcs hB3
  refine (match_n L (p.length + 1) HLl.out.symm (some ⟨g, 0, none⟩) cap w3 hl3 (by rw [HLl.out]; exact hr3) (by omega)).mono ?_
  rintro e w4 ⟨rfl, hb4⟩
  rw [M1.out, M2.out, M3.out]
  have hs4 := hb4.size
  have hl4 := hl3.below hb4 hl3.lt
  have hr4 := (hr3.below hb4).more hs4
  have y0 := (bcell hb4 g (i * 2) hgw).trans z0
  have y1 := (bcell hb4 g (i * 2 + 1) hgw).trans z1
  go_wp2_with fail
  refine (running_n L (p.length + 1) HLl.out.symm (some ⟨g, 0, none⟩) cap w4 hl4 (by rw [HLl.out]; exact hr4) (by omega)).mono ?_
  rintro e w5 ⟨v5, rfl, hown5, hb5⟩
  rw [M1.out]
  rw [M4.out] at hown5
  obtain ⟨A5, c5, rfl⟩ := own_form hown5
  have hs5 := hb5.size
  have hl5 := hl4.below hb5 hl4.lt
  have hr5 := (hr4.below hb5).more hs5
  have x0 := (bcell hb5 g (i * 2) (by omega)).trans y0
  have x1 := (bcell hb5 g (i * 2 + 1) (by omega)).trans y1
  clear hown5 y0 y1 z0 z1 hr3 hr4
  go_wp2_with fail
  refine (swing_any W 0 _ hl5).mono ?_
  rintro e w6 ⟨rfl, hb6⟩
  rw [hE.out.1, hE.out.2]
  have hs6 := hb6.size
  have hl6 := hl5.below hb6 hl5.lt
  have hr6 := (hr5.below hb6).more hs6
  clear x0 x1 hr5
  go_wp2_with (at_builtin; refine wpList_append_zeros rfl _ _ 34 3 rfl w6.heap.size 29 i0 (.agg #[.int .i64 0, .int .i64 0]) .i64 Tryd.underlying34 Tryd.underlying3 hi hz0 (by rw [hz1]; rfl) ⟨w6.heap.size, 0, none⟩ 128 rfl rfl (by decide) (by rw [hz1]; decide) (by decide) (by rw [hz2]; decide) ?u1 ?_)
  case u1 => simp
  intro v7 w7 ho7 hb7
  have hb7' : Below w6.heap.size w6 w7 := ((Below.refl _ _).alloc (Nat.le_refl _) _).trans (hb7.mono (by simp))
  have hr7 := hr6.below hb7'
  go_wp2_with (at_builtin; refine wpList_append_src rfl _ _ 34 rfl w6.heap.size 29 i0 (.agg #[.int .i64 0, .int .i64 0]) 2 16 Tryd.underlying34 hi hz0 hz1 hz2 rfl (by decide) _ _ _ rfl ho7 (some ⟨g, 0, none⟩) (p.length + 1) cap w6.heap.size (bCells L) rfl hr7 (fun h => by cases h) (bCells_one L) ?u2 ?u3 ?u4 ?_)
  case u2 => unfold maxLen; omega
  case u3 => omega
  case u4 => exact hb7'.size
  intro v8 w8 ho8 hgrow8 _
  have hb8 : Below w6.heap.size w6 w8 := hb7'.grown hgrow8 hb7'.size (fun g hg => (ho7.lt g hg).1)
  obtain ⟨A8, c8, rfl⟩ := own_form ho8
  have hl8 := hl6.below hb8 hl6.lt
  clear ho7 ho8 hgrow8 hr7 hr6
  go_wp2_with fail
  refine (match_many _ A8 c8 _ (by omega) (by omega)).mono ?_
  rintro e w9 ⟨rfl, hb9⟩
  have hl9 := hl8.below hb9 hl8.lt
  go_wp2_with fail
  refine (running_many _ A8 c8 _ (by omega) (by omega)).mono ?_
  rintro e wa ⟨rfl, hba⟩
  have hla := hl9.below hba hl9.lt
  have L1 := leastV_bad m1 (by omega)
  have L2 := leastV_bad m2 (by omega)
  have HL1 := Lib.hid L1
  have HL2 := Lib.hid L2
  clear L1 L2
  go_wp2_with fail
  refine (least_any m1 _ hla).mono ?_
  rintro e _ ⟨rfl, rfl⟩
  rw [HL1.out.1, HL1.out.2]
  go_wp2_with fail
  refine (least_any m2 _ hla).mono ?_
  rintro e _ ⟨rfl, rfl⟩
  rw [HL2.out.1, HL2.out.2]
  go_wp2_with fail
  refine (awake_any _ hla).mono ?_
  rintro e wb ⟨rfl, hbb⟩
  go_wp2
  go_ret
  have t1 := hb3.trans (hb4.mono hb3.size)
  have t2 := t1.trans (hb5.mono t1.size)
  have t3 := t2.trans (hb6.mono t2.size)
  have t4 := t3.trans (hb8.mono t3.size)
  have t5 := t4.trans (hb9.mono t4.size)
  have t6 := t5.trans (hba.mono t5.size)
  exact ⟨rfl, t6.trans (hbb.mono t6.size)⟩

set_option maxHeartbeats 4000000 in
set_option maxRecDepth 100000 in
theorem wrong_low_odd (l : List Int) (at_ n : Int) (A : Option Addr) (c : Nat) (w : World) (hg : Laid w) (ha : 0 ≤ at_ ∧ at_ ≤ 255) (hn : -9223372036854775808 ≤ n ∧ n ≤ 9223372036854775807)
    (hl : Rd w w.heap.size 1 A l.length (u32C l)) (hu : U32s l) (hc : l.length ≤ c) (hm : c ≤ 9223372036854775807) (hev : (at_ % 2 == 0) = false) :
    Calls Tryd.prog 10 #[.slice A l.length c, .int .u8 at_, .int .i64 n, .bool true] w fun e w' => e = .returned (.bool true) ∧ Below w.heap.size w w' := by
  obtain ⟨i0, hi, hz0, hz1, hz2⟩ := info_parts info_board
  obtain ⟨n1, hn1⟩ : ∃ n1 : Nat, n1 = min l.length 127 := ⟨_, rfl⟩
  have b1 : n1 ≤ l.length ∧ n1 ≤ 127 := by omega
  have e1 : (if (127 : Int) < (l.length : Int) then 127 else (l.length : Int)) = (n1 : Int) := by split <;> omega
  have c1 : (n1 : Int) ≤ (c : Int) := by omega
  have c2 : (0 : Int) ≤ (n1 : Int) := by omega
  obtain ⟨W, hW0⟩ : ∃ W : Int, (if -7601 < n then -7601 else n) = W := ⟨_, rfl⟩
  have hW : -9223372036854775808 ≤ W ∧ W ≤ -7601 := by rw [← hW0]; split <;> omega
  obtain ⟨m1, hm1⟩ : ∃ m1 : Int, (if n < 25 then 25 else n) = m1 := ⟨_, rfl⟩
  have gm1 : 25 ≤ m1 := by rw [← hm1]; split <;> omega
  obtain ⟨m2, hm2⟩ : ∃ m2 : Int, (if -1 < n then -1 else n) = m2 := ⟨_, rfl⟩
  have gm2 : m2 ≤ -1 := by rw [← hm2]; split <;> omega
  obtain ⟨m0, hm0⟩ : ∃ m0 : Int, (if n < 7601 then 7601 else n) = m0 := ⟨_, rfl⟩
  clear hn1
  have Hl := Lib.hid hl
  clear hl
  go_enter Tryd.func10, Tryd.ntmps10
  go_wp2_with fail
  refine (made_part l _ n1 b1.1 rfl A c _ Hl.out hu hc hm).mono ?_
  rintro e w1 ⟨v, rfl, hown, hb1⟩
  have hok := madeL_ok (l.take n1) (fun x hx => hu x (List.mem_of_mem_take hx))
  have hlen : (madeL (l.take n1)).length ≤ 127 := by rw [madeL_len, List.length_take]; omega
  have hs1 := hb1.size
  clear e1
  generalize madeL (l.take n1) = p at *
  go_wp2_with (at_builtin; refine wpList_append_own_at _ rfl _ _ 34 rfl w.heap.size 29 i0 (.agg #[.int .i64 0, .int .i64 0]) 2 16 Tryd.underlying34 hi hz0 hz1 hz2 rfl (by decide) _ _ _ rfl (hown.alloc _) _ 1 1 [.int .i64 0, .int .i64 0] rfl rfl ?x1 ?x2 ?x3 ?x4 ?x5 ?_)
  case x1 => exact cells_new_at _ _ _ _ (by simp)
  case x2 => simp [Value.oneCell']
  case x3 => unfold maxLen; omega
  case x4 => omega
  case x5 => simp; omega
  intro v2 w2 hown2 hgrow _ _
  have hb2 : Below w.heap.size w w2 := (hb1.alloc hs1 _).grown hgrow (by simp; omega) (fun g hg => (hown.lt g hg).1)
  obtain ⟨hx2, hor⟩ := hown2
  rcases hor with ⟨_, h0⟩ | ⟨g, cap, cur, rfl, hgb, hblk, hncap, hcapm, hcs, htk⟩
  · omega
  obtain ⟨i, hidx⟩ : ∃ i : Nat, at_ % ((p.length : Int) + 1) = (i : Int) := ⟨(at_ % ((p.length : Int) + 1)).toNat, by have := Int.emod_nonneg at_ (show (p.length : Int) + 1 ≠ 0 by omega); omega⟩
  have hil : i < p.length + 1 := by have := Int.emod_lt_of_pos at_ (show 0 < (p.length : Int) + 1 by omega); omega
  have hil' : (i : Int) < (p.length : Int) + 1 := by omega
  have hi0 : (0 : Int) ≤ (i : Int) := by omega
  unfold maxLen at hcapm
  have hcsz : (p.length + 1) * 2 ≤ cur.size := by rw [hcs]; omega
  obtain ⟨y0, k0⟩ : ∃ y, w2.cell? ⟨g, i * 2, none⟩ = some y := ⟨_, (blk_cell hblk _).trans (Array.getElem?_eq_getElem (show i * 2 < cur.size by omega))⟩
  obtain ⟨y1, k1⟩ : ∃ y, w2.cell? ⟨g, i * 2 + 1, none⟩ = some y := ⟨_, (blk_cell hblk _).trans (Array.getElem?_eq_getElem (show i * 2 + 1 < cur.size by omega))⟩
  have kf : ∀ j, w2.frozen? ⟨g, j, none⟩ = false := blk_free hblk
  have Hblk := Lib.hid hblk
  have Htk := Lib.hid htk
  have Hcs := Lib.hid hcs
  clear hblk htk hcs hown hgrow
  obtain ⟨X, hX⟩ : ∃ X : Int, ((p ++ [(0, 0)])[i]'(by simpa using hil)).1 = X := ⟨_, rfl⟩
  obtain ⟨L, hLlen, hLi, hLc⟩ : ∃ (L : List (Int × Int)), L.length = p.length + 1 ∧ (∀ h : i < L.length, L[i] = (X, W)) ∧
      bCells L = (bCells (p ++ [(0, 0)])).set (i * 2 + 1) (.int .i64 W) := by
    refine ⟨(p ++ [(0, 0)]).set i (X, W), by simp, ?_, ?_⟩
    · intro h; rw [List.getElem_set_self]
    · rw [bCells_set1 _ _ i (by simpa using hil), hX]
  clear hX
  have hL128 : L.length ≤ 128 := by omega
  have M := wrongM L hL128 i (by omega) (by rw [hLi (by omega)]; unfold okB okScore; omega)
  have hB3 := blk_set Hblk.out (i * 2 + 1) (.int .i64 W)
  have hr3 := rd_of_blk (xs := bCells L) (n := p.length + 1) (sz := 2) hB3 (by
    rw [take_set_, Htk.out, hLc]; rw [bCells_snoc]) (by rw [bCells_len, hLlen])
  have hb3 := hb2.setCell (p := ⟨g, i * 2 + 1, none⟩) hgb (.int .i64 W)
  have hE : Hid (swingE X W = 190 ∧ swingV X W = 0) := ⟨swing_bad (b := (X, W)) (by unfold okB okScore; omega), if_neg (by unfold okScore; omega)⟩
  have M1 := Lib.hid M.err; have M2 := Lib.hid M.won; have M3 := Lib.hid M.lost; have M4 := Lib.hid M.run
  have HLl := Lib.hid hLlen
  have HLi := Lib.hid hLi
  clear M hLlen hLi hLc
  go_wp2_with fail
  generalize (w2.setCell ⟨g, i * 2 + 1, none⟩ (.int .i64 W)) = w3 at *
  have hl3 := hg.below hb3 hg.lt
  have hs3 := hb3.size
  have z0 : w3.cell? ⟨g, i * 2, none⟩ = some (.int .i64 X) := by
    obtain ⟨b', o', e', _, hcc⟩ := hr3.pos (by omega)
    obtain ⟨rfl, rfl⟩ : g = b' ∧ 0 = o' := by injection e' with e'; injection e' with e1 e2; exact ⟨e1, e2⟩
    have := hcc (i * 2) (by rw [bCells_len, HLl.out]; omega)
    rw [Nat.zero_add, (bCells_get L i (by rw [HLl.out]; exact hil)).1, HLi.out (by rw [HLl.out]; exact hil)] at this
    exact this
  have z1 : w3.cell? ⟨g, i * 2 + 1, none⟩ = some (.int .i64 W) := by
    obtain ⟨b', o', e', _, hcc⟩ := hr3.pos (by omega)
    obtain ⟨rfl, rfl⟩ : g = b' ∧ 0 = o' := by injection e' with e'; injection e' with e1 e2; exact ⟨e1, e2⟩
    have := hcc (i * 2 + 1) (by rw [bCells_len, HLl.out]; omega)
    rw [Nat.zero_add, (bCells_get L i (by rw [HLl.out]; exact hil)).2, HLi.out (by rw [HLl.out]; exact hil)] at this
    exact this
  have hgw := blk_lt hB3
  have HB3 := Lib.hid hB3
  clear k0 k1 kf Hblk Htk Hcs hB3
  refine (match_n L (p.length + 1) HLl.out.symm (some ⟨g, 0, none⟩) cap w3 hl3 (by rw [HLl.out]; exact hr3) (by omega)).mono ?_
  rintro e w4 ⟨rfl, hb4⟩
  rw [M1.out, M2.out, M3.out]
  have hs4 := hb4.size
  have hl4 := hl3.below hb4 hl3.lt
  have hr4 := (hr3.below hb4).more hs4
  have y0 := (bcell hb4 g (i * 2) hgw).trans z0
  have y1 := (bcell hb4 g (i * 2 + 1) hgw).trans z1
  go_wp2_with fail
  refine (running_n L (p.length + 1) HLl.out.symm (some ⟨g, 0, none⟩) cap w4 hl4 (by rw [HLl.out]; exact hr4) (by omega)).mono ?_
  rintro e w5 ⟨v5, rfl, hown5, hb5⟩
  rw [M1.out]
  rw [M4.out] at hown5
  obtain ⟨A5, c5, rfl⟩ := own_form hown5
  have hs5 := hb5.size
  have hl5 := hl4.below hb5 hl4.lt
  have hr5 := (hr4.below hb5).more hs5
  have x0 := (bcell hb5 g (i * 2) (by omega)).trans y0
  have x1 := (bcell hb5 g (i * 2 + 1) (by omega)).trans y1
  clear hown5 y0 y1 z0 z1 hr3 hr4
  go_wp2_with fail
  refine (swing_any X W _ hl5).mono ?_
  rintro e w6 ⟨rfl, hb6⟩
  rw [hE.out.1, hE.out.2]
  have hs6 := hb6.size
  have hl6 := hl5.below hb6 hl5.lt
  have hr6 := (hr5.below hb6).more hs6
  clear x0 x1 hr5
  go_wp2_with (at_builtin; refine wpList_append_zeros rfl _ _ 34 3 rfl w6.heap.size 29 i0 (.agg #[.int .i64 0, .int .i64 0]) .i64 Tryd.underlying34 Tryd.underlying3 hi hz0 (by rw [hz1]; rfl) ⟨w6.heap.size, 0, none⟩ 128 rfl rfl (by decide) (by rw [hz1]; decide) (by decide) (by rw [hz2]; decide) ?u1 ?_)
  case u1 => simp
  intro v7 w7 ho7 hb7
  have hb7' : Below w6.heap.size w6 w7 := ((Below.refl _ _).alloc (Nat.le_refl _) _).trans (hb7.mono (by simp))
  have hr7 := hr6.below hb7'
  go_wp2_with (at_builtin; refine wpList_append_src rfl _ _ 34 rfl w6.heap.size 29 i0 (.agg #[.int .i64 0, .int .i64 0]) 2 16 Tryd.underlying34 hi hz0 hz1 hz2 rfl (by decide) _ _ _ rfl ho7 (some ⟨g, 0, none⟩) (p.length + 1) cap w6.heap.size (bCells L) rfl hr7 (fun h => by cases h) (bCells_one L) ?u2 ?u3 ?u4 ?_)
  case u2 => unfold maxLen; omega
  case u3 => omega
  case u4 => exact hb7'.size
  intro v8 w8 ho8 hgrow8 _
  have hb8 : Below w6.heap.size w6 w8 := hb7'.grown hgrow8 hb7'.size (fun g hg => (ho7.lt g hg).1)
  obtain ⟨A8, c8, rfl⟩ := own_form ho8
  have hl8 := hl6.below hb8 hl6.lt
  clear ho7 ho8 hgrow8 hr7 hr6
  go_wp2_with fail
  refine (match_many _ A8 c8 _ (by omega) (by omega)).mono ?_
  rintro e w9 ⟨rfl, hb9⟩
  have hl9 := hl8.below hb9 hl8.lt
  go_wp2_with fail
  refine (running_many _ A8 c8 _ (by omega) (by omega)).mono ?_
  rintro e wa ⟨rfl, hba⟩
  have hla := hl9.below hba hl9.lt
  have L1 := leastV_bad m1 (by omega)
  have L2 := leastV_bad m2 (by omega)
  have HL1 := Lib.hid L1
  have HL2 := Lib.hid L2
  clear L1 L2
  go_wp2_with fail
  refine (least_any m1 _ hla).mono ?_
  rintro e _ ⟨rfl, rfl⟩
  rw [HL1.out.1, HL1.out.2]
  go_wp2_with fail
  refine (least_any m2 _ hla).mono ?_
  rintro e _ ⟨rfl, rfl⟩
  rw [HL2.out.1, HL2.out.2]
  go_wp2_with fail
  refine (awake_any _ hla).mono ?_
  rintro e wb ⟨rfl, hbb⟩
  go_wp2
  go_ret
  have t1 := hb3.trans (hb4.mono hb3.size)
  have t2 := t1.trans (hb5.mono t1.size)
  have t3 := t2.trans (hb6.mono t2.size)
  have t4 := t3.trans (hb8.mono t3.size)
  have t5 := t4.trans (hb9.mono t4.size)
  have t6 := t5.trans (hba.mono t5.size)
  exact ⟨rfl, t6.trans (hbb.mono t6.size)⟩

theorem impWrong_walk (l : List Int) (at_ n : Int) (low : Bool) (A : Option Addr) (c : Nat) (w : World) (hg : Laid w) (ha : 0 ≤ at_ ∧ at_ ≤ 255) (hn : -9223372036854775808 ≤ n ∧ n ≤ 9223372036854775807)
    (hl : Rd w w.heap.size 1 A l.length (u32C l)) (hu : U32s l) (hc : l.length ≤ c) (hm : c ≤ 9223372036854775807) :
    Calls Tryd.prog 10 #[.slice A l.length c, .int .u8 at_, .int .i64 n, .bool low] w fun e w' => e = .returned (.bool true) ∧ Below w.heap.size w w' := by
  cases he : (at_ % 2 == 0) <;> cases low
  · exact wrong_high_odd l at_ n A c w hg ha hn hl hu hc hm he
  · exact wrong_low_odd l at_ n A c w hg ha hn hl hu hc hm he
  · exact wrong_high_even l at_ n A c w hg ha hn hl hu hc hm he
  · exact wrong_low_even l at_ n A c w hg ha hn hl hu hc hm he

end Go.Proofs.YtkkemdjeobnpfaaDoor
