/- The walks of par.Value, bidding, Bids and Par. -/
import Derived.Test.YtilekdjjfdehcaaDoorParValuesB
import Derived.Deep.WholeRow
import Derived.Test.YtilekdjjfdehcaaDoorAppend
namespace Go.Proofs.YtilekdjjfdehcaaDoor
open Go.RowKit Go.Shelf

/-- A value stored whole into the variable that was made last. -/
theorem wpList_store_new {P : Program} {ops : Array Oper} {rest : List Oper} {o : Oper} {a : Act} {w : World} {Q : Exit → Act → World → Prop} (hgd : o.guard = none) (ty : TypeId) (x y : Operand) (ho : o.op = .store ty x y)
    (cells : Array Value) (t : TypeId) (old : Array Value) (hx : a.eval x = .pointer (some ⟨w.heap.size, 0, none⟩)) (hy : a.eval y = .agg cells)
    (hi : (P.info? ty).map (·.size) = some cells.size) (hold : old.size = cells.size) (h1 : cells.all (·.oneCell') = true)
    (h : wpList P ops Q rest (a.put o.dst undef) (w.alloc (.cells cells t))) : wpList P ops Q (o :: rest) a (w.alloc (.cells old t)) := by
  refine wpList_store_row hgd ty x y ho w.heap.size cells hx hy t old (heap_alloc_last w _) hi hold h1 ?_
  rw [World.setRow_alloc_new]; exact h

theorem stQ_lC (f : Nat → Nat → Int) (b s : Nat) (h3 : 3 ≤ b) (h37 : b ≤ 37) (hs : s ≤ 1) : stQ f (dnN 35) b s = lC f b s := stQ_all f 35 (by omega) b s (by omega) h37 hs

set_option maxRecDepth 100000 in
set_option maxHeartbeats 1000000 in
theorem pvalue_arg (C : Array Value) (v b s : Nat) (hb : b ≤ 255) (hs : s ≤ 255) (h : b < 3 ∨ 37 < b ∨ 1 < s) (w : World) :
    Calls Tryd.prog 19 #[.agg C, .int .u8 (v : Int), .int .u8 (b : Int), .int .u8 (s : Int)] w fun e w' => e = .returned (.tuple #[.int .i64 0, .int .i64 2]) ∧ Below w.heap.size w w' := by
  have HH := Lib.hid h
  clear h
  go_enter Tryd.func19, Tryd.ntmps19
  by_cases h3 : b < 3
  · have h5 : (b : Int) < 3 := by omega
    go_wp2
    go_ret2
    exact ⟨rfl, (by repeat (first | exact Below.refl _ _ | assumption | refine Below.drew ?_ | refine below_drewN ?_ _ | refine Below.alloc ?_ (by first | omega | (simp; done) | (simp; omega)) _ | refine Below.setCell ?_ (by first | omega | (simp; done) | (simp; omega)) _))⟩
  · have h5 : ¬ (b : Int) < 3 := by omega
    by_cases h4 : 37 < b
    · have h6 : (37 : Int) < (b : Int) := by omega
      go_wp2
      go_ret2
      exact ⟨rfl, (by repeat (first | exact Below.refl _ _ | assumption | refine Below.drew ?_ | refine below_drewN ?_ _ | refine Below.alloc ?_ (by first | omega | (simp; done) | (simp; omega)) _ | refine Below.setCell ?_ (by first | omega | (simp; done) | (simp; omega)) _))⟩
    · have h6 : ¬ (37 : Int) < (b : Int) := by omega
      have h7 : (1 : Int) < (s : Int) := by rcases HH.out with h | h | h <;> omega
      go_wp2
      go_ret2
      exact ⟨rfl, (by repeat (first | exact Below.refl _ _ | assumption | refine Below.drew ?_ | refine below_drewN ?_ _ | refine Below.alloc ?_ (by first | omega | (simp; done) | (simp; omega)) _ | refine Below.setCell ?_ (by first | omega | (simp; done) | (simp; omega)) _))⟩

set_option maxRecDepth 100000 in
set_option maxHeartbeats 1000000 in
theorem pvalue_bad (C : Array Value) (t : Nat → Nat → Int) (hC : TabC C t) (v b s : Nat) (hv : v ≤ 255) (h3 : 3 ≤ b) (h37 : b ≤ 37) (hs : s ≤ 1) (h : rightT t = false ∨ 3 < v) (w : World) :
    Calls Tryd.prog 19 #[.agg C, .int .u8 (v : Int), .int .u8 (b : Int), .int .u8 (s : Int)] w fun e w' => e = .returned (.tuple #[.int .i64 0, .int .i64 2]) ∧ Below w.heap.size w w' := by
  have HV := Lib.hid (fun W => values_bad C t hC v hv h W)
  have HI := Lib.hid hC.info
  have c1 : ¬ (b : Int) < 3 := by omega
  have c2 : ¬ (37 : Int) < (b : Int) := by omega
  have c3 : ¬ (1 : Int) < (s : Int) := by omega
  clear h hC
  go_enter Tryd.func19, Tryd.ntmps19
  go_upto_region 3 with fail
  obtain ⟨W1, hW1⟩ : ∃ W1, w.alloc (.cells C 25) = W1 := ⟨_, rfl⟩
  obtain ⟨g, hg⟩ : ∃ g, w.heap.size = g := ⟨_, rfl⟩
  have HK := Lib.hid (show W1.heap[g]? = some (.cells C 25) by rw [← hW1]; exact blk_new _ hg.symm)
  have hB1 : Below w.heap.size w W1 := by rw [← hW1]; exact (by repeat (first | exact Below.refl _ _ | assumption | refine Below.drew ?_ | refine below_drewN ?_ _ | refine Below.alloc ?_ (by first | omega | (simp; done) | (simp; omega)) _ | refine Below.setCell ?_ (by first | omega | (simp; done) | (simp; omega)) _))
  rw [hW1, hg]
  have HG := Lib.hid hg
  clear hW1 hg
  go_wp2_with (refine wpList_load_row rfl 25 (.tmp 4) rfl g rfl 25 C _ _ HK.out Tryd.underlying25 rfl HI.out ?_)
  refine (HV.out _).mono ?_
  rintro ee w2 ⟨rfl, hb2⟩
  have hB2 := below_via hB1 hb2
  clear hB1 hb2 HK
  go_wp2_with (first | (refine plain_alloc_to rfl 71 rfl besZ bes_zero ?_) | (refine wpList_store_new rfl 71 _ _ rfl besZ _ _ rfl rfl (bes_info besZ besZ_ok.1) rfl besZ_ok.2.1 ?_))
  go_ret2
  exact ⟨rfl, hB2.alloc hB2.size _⟩

set_option maxRecDepth 100000 in
set_option maxHeartbeats 1000000 in
theorem pvalue_ok (C : Array Value) (t : Nat → Nat → Int) (hC : TabC C t) (v b s : Nat) (hv : v ≤ 3) (h3 : 3 ≤ b) (h37 : b ≤ 37) (hs : s ≤ 1) (h : rightT t = true) (w : World) (hLa : LaidS w) :
    Calls Tryd.prog 19 #[.agg C, .int .u8 (v : Int), .int .u8 (b : Int), .int .u8 (s : Int)] w fun e w' => e = .returned (.tuple #[.int .i64 (lC (finG t v) b s).2, .int .i64 0]) ∧ Below w.heap.size w w' := by
  have HV := Lib.hid (fun W hW => values_ok C t hC v hv h W hW)
  have HI := Lib.hid hC.info
  have HL := Lib.hid hLa
  have c1 : ¬ (b : Int) < 3 := by omega
  have c2 : ¬ (37 : Int) < (b : Int) := by omega
  have c3 : ¬ (1 : Int) < (s : Int) := by omega
  obtain ⟨y, hy⟩ : ∃ y, (lC (finG t v) b s).2 = y := ⟨_, rfl⟩
  rw [hy]
  have HE := Lib.hid (show (stQ (finG t v) (dnN 35) b s).2 = y by rw [stQ_lC (finG t v) b s h3 h37 hs, hy])
  clear h hC hLa hy
  go_enter Tryd.func19, Tryd.ntmps19
  go_upto_region 3 with fail
  obtain ⟨W1, hW1⟩ : ∃ W1, w.alloc (.cells C 25) = W1 := ⟨_, rfl⟩
  obtain ⟨g, hg⟩ : ∃ g, w.heap.size = g := ⟨_, rfl⟩
  have HK := Lib.hid (show W1.heap[g]? = some (.cells C 25) by rw [← hW1]; exact blk_new _ hg.symm)
  have hB1 : Below w.heap.size w W1 := by rw [← hW1]; exact (by repeat (first | exact Below.refl _ _ | assumption | refine Below.drew ?_ | refine below_drewN ?_ _ | refine Below.alloc ?_ (by first | omega | (simp; done) | (simp; omega)) _ | refine Below.setCell ?_ (by first | omega | (simp; done) | (simp; omega)) _))
  rw [hW1, hg]
  have HG := Lib.hid hg
  clear hW1 hg
  go_wp2_with (refine wpList_load_row rfl 25 (.tmp 4) rfl g rfl 25 C _ _ HK.out Tryd.underlying25 rfl HI.out ?_)
  refine (HV.out _ (HL.out.go hB1)).mono ?_
  rintro ee w2 ⟨B, rfl, hB, hb2⟩
  have hB2 := below_via hB1 hb2
  have HB := Lib.hid hB
  clear hB1 hb2 HK hB
  go_upto_region 4 with (first | (refine plain_alloc_to rfl 71 rfl besZ bes_zero ?_) | (refine wpList_store_new rfl 71 _ _ rfl B _ _ rfl rfl (bes_info B HB.out.1) (besZ_ok.1.trans HB.out.1.symm) HB.out.2.1 ?_))
  obtain ⟨W3, hW3⟩ : ∃ W3, w2.alloc (.cells B 71) = W3 := ⟨_, rfl⟩
  obtain ⟨m, hm⟩ : ∃ m, w2.heap.size = m := ⟨_, rfl⟩
  have K3 : W3.heap[m]? = some (.cells B 71) := by rw [← hW3]; exact blk_new _ hm.symm
  have hB3 : Below w.heap.size w W3 := by rw [← hW3]; exact hB2.alloc hB2.size _
  rw [hW3, hm]
  have q := (blk_cell K3 (b * 4 + s * 2 + 1)).trans (HB.out.2.2 b s h37 hs).2
  rw [HE.out] at q
  have d1 : (b : Int) < 38 := by omega
  have d2 : (s : Int) < 2 := by omega
  clear hW3 hm K3 hB2
  go_wp2
  go_ret2
  exact ⟨rfl, hB3⟩

theorem secC_eq (f : Nat → Nat → Int) (s : Nat) (hs : s ≤ 1) : chQ (stQ f (dnN 35)) 2 (1 - s) 0 = secC f s :=
  chQ_eq f _ 2 (1 - s) (by omega) (by omega) 0 (fun b h1 h2 => by rw [stQ_lC f b _ (by omega) h2 (by omega)])
theorem firC_eq (f : Nat → Nat → Int) (s : Nat) (hs : s ≤ 1) : chQ (stQ f (dnN 35)) 2 s (secC f s).2 = firC f s :=
  chQ_eq f _ 2 s (by omega) hs _ (fun b h1 h2 => by rw [stQ_lC f b _ (by omega) h2 (by omega)])
theorem bids_first (f : Nat → Nat → Int) (s : Nat) : (bidsL f s).getD 0 0 = (begC f s).1 := by
  unfold bidsL
  by_cases h : (begC f s).1 = 0
  · rw [h]; rfl
  · rw [show chain f 38 (begC f s).1 (begS f s) = (begC f s).1 :: _ from if_neg h]; rfl
/-- The cells of some bids. -/
def bC (l : List Nat) : List Value := l.map fun (b : Nat) => .int .u8 (b : Int)
theorem bC_snoc (l : List Nat) (k : Nat) (hk : k < l.length) : bC (l.take (k + 1)) = bC (l.take k) ++ [.int .u8 ((l.getD k 0 : Nat) : Int)] := by
  unfold bC
  rw [List.take_succ_eq_append_getElem hk, List.map_append, List.getD_eq_getElem?_getD, List.getElem?_eq_getElem hk]
  rfl
theorem info_byte : (Tryd.prog.info? 5).map (fun i => (i.zero, i.size, i.bytes)) = some (some (.int .u8 0), 1, 1) := by kernel_rfl

set_option maxRecDepth 100000 in
set_option maxHeartbeats 1000000 in
theorem bidding_bad (C : Array Value) (t : Nat → Nat → Int) (hC : TabC C t) (v d : Nat) (hv : v ≤ 255) (hd : d ≤ 255) (h : rightT t = false ∨ 3 < v ∨ 3 < d) (w : World) :
    Calls Tryd.prog 22 #[.agg C, .int .u8 (v : Int), .int .u8 (d : Int)] w fun e w' => e = .returned (.tuple #[.slice none 0 0, .int .u8 0, .int .i64 2]) ∧ Below w.heap.size w w' := by
  by_cases h3 : 3 < d
  · have h5 : (3 : Int) < (d : Int) := by omega
    clear h
    go_enter Tryd.func22, Tryd.ntmps22
    go_wp2
    go_ret3
    exact ⟨rfl, (by repeat (first | exact Below.refl _ _ | assumption | refine Below.drew ?_ | refine below_drewN ?_ _ | refine Below.alloc ?_ (by first | omega | (simp; done) | (simp; omega)) _ | refine Below.setCell ?_ (by first | omega | (simp; done) | (simp; omega)) _))⟩
  have HV := Lib.hid (fun W => values_bad C t hC v hv (by rcases h with h | h | h; exact .inl h; exact .inr h; exact absurd h h3) W)
  have HI := Lib.hid hC.info
  have c1 : ¬ (3 : Int) < (d : Int) := by omega
  clear h hC
  go_enter Tryd.func22, Tryd.ntmps22
  go_upto_region 3 with fail
  obtain ⟨W1, hW1⟩ : ∃ W1, w.alloc (.cells C 25) = W1 := ⟨_, rfl⟩
  obtain ⟨g, hg⟩ : ∃ g, w.heap.size = g := ⟨_, rfl⟩
  have HK := Lib.hid (show W1.heap[g]? = some (.cells C 25) by rw [← hW1]; exact blk_new _ hg.symm)
  have hB1 : Below w.heap.size w W1 := by rw [← hW1]; exact (by repeat (first | exact Below.refl _ _ | assumption | refine Below.drew ?_ | refine below_drewN ?_ _ | refine Below.alloc ?_ (by first | omega | (simp; done) | (simp; omega)) _ | refine Below.setCell ?_ (by first | omega | (simp; done) | (simp; omega)) _))
  rw [hW1, hg]
  have HG := Lib.hid hg
  clear hW1 hg
  go_wp2_with (refine wpList_load_row rfl 25 (.tmp 3) rfl g rfl 25 C _ _ HK.out Tryd.underlying25 rfl HI.out ?_)
  refine (HV.out _).mono ?_
  rintro ee w2 ⟨rfl, hb2⟩
  have hB2 := below_via hB1 hb2
  clear hB1 hb2 HK
  go_wp2_with (first | (refine plain_alloc_to rfl 71 rfl besZ bes_zero ?_) | (refine wpList_store_new rfl 71 _ _ rfl besZ _ _ rfl rfl (bes_info besZ besZ_ok.1) rfl besZ_ok.2.1 ?_))
  go_ret3
  exact ⟨rfl, hB2.alloc hB2.size _⟩

theorem blk_grown {w w' : World} {row : Option Nat} {g : Nat} {x : Obj} (h : w.heap[g]? = some x) (hg : w.grownBy w' row) (hne : some g ≠ row) : w'.heap[g]? = some x := (hg.block g (Array.getElem?_eq_some_iff.1 h).1 hne).trans h
theorem own_far {w : World} {base : Nat} {e : TypeId} {sz : Nat} {v : Value} {n : Nat} {xs : List Value} (h : w.ownsRow base e sz v n xs) {p : Addr} (hp : p.block < base) (u : Value) : (w.setCell p u).ownsRow base e sz v n xs := by
  refine ⟨h.1, ?_⟩
  rcases h.2 with h2 | ⟨g, cap, cur, h1, h2, h3, h4⟩
  · exact .inl h2
  · exact .inr ⟨g, cap, cur, h1, h2, blk_far h3 (by omega) u, h4⟩
/-- How long a slice is. -/
def slLen : Value → Nat
  | .slice _ n _ => n
  | _ => 0
/-- What bidding returns. -/
def BidR (f : Nat → Nat → Int) (s : Nat) (w : World) (e : Ending) (w' : World) : Prop :=
  ∃ sv, e = .returned (.tuple #[sv, .int .u8 ((1 - sideAt (begS f s) (bidsL f s).length : Nat) : Int), .int .i64 0]) ∧ w'.ownsRow w.heap.size 5 1 sv (bidsL f s).length (bC (bidsL f s)) ∧ Below w.heap.size w w'

set_option maxRecDepth 100000 in
set_option maxHeartbeats 2000000 in
theorem bidding_ok (C : Array Value) (t : Nat → Nat → Int) (hC : TabC C t) (v d : Nat) (hv : v ≤ 3) (hd : d ≤ 3) (h : rightT t = true) (w : World) (hLa : LaidS w) :
    Calls Tryd.prog 22 #[.agg C, .int .u8 (v : Int), .int .u8 (d : Int)] w (BidR (finG t v) (d % 2) w) := by
  have HV := Lib.hid (fun W hW => values_ok C t hC v hv h W hW)
  have HI := Lib.hid hC.info
  have HL := Lib.hid hLa
  have hok := okQ_st (finG t v) (finG_bd t h v) (dnN 35)
  have c1 : ¬ (3 : Int) < (d : Int) := by omega
  obtain ⟨s, hs⟩ : ∃ s, d % 2 = s := ⟨_, rfl⟩
  rw [hs]
  have hs1 : s ≤ 1 := by omega
  have hds : (d : Int) % 2 = (s : Int) := by omega
  have hbg := beg_spec (finG t v) s hs1
  clear h hC hLa hs
  obtain ⟨i0, hi, hz0, hz1, hz2⟩ := info_parts info_byte
  go_enter Tryd.func22, Tryd.ntmps22
  go_upto_region 3 with fail
  obtain ⟨W1, hW1⟩ : ∃ W1, w.alloc (.cells C 25) = W1 := ⟨_, rfl⟩
  obtain ⟨g, hg⟩ : ∃ g, w.heap.size = g := ⟨_, rfl⟩
  have HK := Lib.hid (show W1.heap[g]? = some (.cells C 25) by rw [← hW1]; exact blk_new _ hg.symm)
  have hB1 : Below w.heap.size w W1 := by rw [← hW1]; exact (by repeat (first | exact Below.refl _ _ | assumption | refine Below.drew ?_ | refine below_drewN ?_ _ | refine Below.alloc ?_ (by first | omega | (simp; done) | (simp; omega)) _ | refine Below.setCell ?_ (by first | omega | (simp; done) | (simp; omega)) _))
  rw [hW1, hg]
  have HG := Lib.hid hg
  clear hW1 hg
  go_wp2_with (refine wpList_load_row rfl 25 (.tmp 3) rfl g rfl 25 C _ _ HK.out Tryd.underlying25 rfl HI.out ?_)
  refine (HV.out _ (HL.out.go hB1)).mono ?_
  rintro ee w2 ⟨B, rfl, hB, hb2⟩
  have hB2 := below_via hB1 hb2
  have HB := Lib.hid hB
  clear hB1 hb2 HK hB
  go_upto_region 7 with (first | (refine plain_alloc_to rfl 71 rfl besZ bes_zero ?_) | (refine wpList_store_new rfl 71 _ _ rfl B _ _ rfl rfl (bes_info B HB.out.1) (besZ_ok.1.trans HB.out.1.symm) HB.out.2.1 ?_))
  rw [hds]
  obtain ⟨W3, hW3⟩ : ∃ W3, w2.alloc (.cells B 71) = W3 := ⟨_, rfl⟩
  obtain ⟨m, hm⟩ : ∃ m, w2.heap.size = m := ⟨_, rfl⟩
  have K3 := Lib.hid (show W3.heap[m]? = some (.cells B 71) by rw [← hW3]; exact blk_new _ hm.symm)
  have hB3 : Below w.heap.size w W3 := by rw [← hW3]; exact hB2.alloc hB2.size _
  have hmw : w.heap.size ≤ m := by rw [← hm]; exact hB2.size
  rw [hW3, hm]
  obtain ⟨r, hr⟩ : ∃ r, r = 1 - s := ⟨_, rfl⟩
  have hr1 : (1 : Int) - (s : Int) = (r : Int) := by omega
  have hrb : r ≤ 1 := by omega
  have HC1 := Lib.hid (fun W hg => choose_any B _ HB.out hok 2 r (by decide) hrb 0 (by decide) m 71 (0, 0) W hg)
  have ES : chQ (stQ (finG t v) (dnN 35)) 2 r 0 = secC (finG t v) s := by rw [hr]; exact secC_eq _ s hs1
  have hsb := okQ_ch hok 2 r 0 (by decide)
  rw [ES] at HC1 hsb
  have HC2 := Lib.hid (fun W hg => choose_any B _ HB.out hok 2 s (by decide) hs1 (secC (finG t v) s).2 hsb.2 m 71 (0, 0) W hg)
  rw [firC_eq (finG t v) s hs1] at HC2
  have HBC := Lib.hid (show begC (finG t v) s = if (firC (finG t v) s).1 = 0 then secC (finG t v) s else firC (finG t v) s from rfl)
  have HBS := Lib.hid (show begS (finG t v) s = if (firC (finG t v) s).1 = 0 then r else s by rw [hr]; rfl)
  generalize secC (finG t v) s = c1 at HC1 HC2 HBC hsb
  generalize firC (finG t v) s = c2 at HC2 HBC HBS
  unfold chV at HC1 HC2
  have Hr := Lib.hid hr
  clear hr hW3 hm hB2 ES
  go_wp2_with fail
  refine (HC1.out _ K3.out).mono ?_
  rintro ee w4 ⟨rfl, hb4⟩
  go_upto_region 8 with fail
  obtain ⟨W5, hW5⟩ : ∃ W5, w4.alloc (.cells #[.int .u8 (c1.1 : Int), .int .i64 c1.2] 68) = W5 := ⟨_, rfl⟩
  obtain ⟨ms, hms⟩ : ∃ ms, w4.heap.size = ms := ⟨_, rfl⟩
  have S5 := Lib.hid (show W5.heap[ms]? = some (.cells #[.int .u8 (c1.1 : Int), .int .i64 c1.2] 68) by rw [← hW5]; exact blk_new _ hms.symm)
  have hb5 : Below W3.heap.size W3 W5 := by rw [← hW5]; exact hb4.alloc hb4.size _
  have K5 := Lib.hid (blk_below K3.out hb5 (blk_lt K3.out))
  have hB5 := below_via hB3 hb5
  have hmm : m < ms := by rw [← hms]; have := blk_lt K3.out; have := hb4.size; omega
  rw [hW5, hms]
  have q1 := blk_cell S5.out 1
  clear hW5 hms hb5 hb4 hB3
  go_wp2_with fail
  refine (HC2.out _ K5.out).mono ?_
  rintro ee w6 ⟨rfl, hb6⟩
  go_upto_region 9 with fail
  obtain ⟨W7, hW7⟩ : ∃ W7, w6.alloc (.cells #[.int .u8 (c2.1 : Int), .int .i64 c2.2] 68) = W7 := ⟨_, rfl⟩
  obtain ⟨mc, hmc⟩ : ∃ mc, w6.heap.size = mc := ⟨_, rfl⟩
  have C7 := Lib.hid (show W7.heap[mc]? = some (.cells #[.int .u8 (c2.1 : Int), .int .i64 c2.2] 68) by rw [← hW7]; exact blk_new _ hmc.symm)
  have hb7 : Below W5.heap.size W5 W7 := by rw [← hW7]; exact hb6.alloc hb6.size _
  have K7 := Lib.hid (blk_below K5.out hb7 (blk_lt K5.out))
  have S7 := Lib.hid (blk_below S5.out hb7 (blk_lt S5.out))
  have hB7 := below_via hB5 hb7
  have hmm2 : ms < mc := by rw [← hmc]; have := blk_lt S5.out; have := hb6.size; omega
  rw [hW7, hmc]
  clear hW7 hmc hb7 hb6 hB5 q1
  have HSp := Lib.hid (bids_spec (finG t v) s hs1)
  have HLe := Lib.hid (bids_len (finG t v) s)
  have HFi := Lib.hid (bids_first (finG t v) s)
  have HQL := Lib.hid (fun b s' h3 h37 hs' => stQ_lC (finG t v) b s' h3 h37 hs')
  by_cases hz : c2.1 = 0
  · have tz : ((c2.1 : Int) == 0) = true := by rw [hz]; rfl
    have HF1 : Hid ((bidsL (finG t v) s).getD 0 0 = c1.1) := Lib.hid (by rw [HFi.out, HBC.out, if_pos hz])
    have HS1 : Hid (begS (finG t v) s = r) := Lib.hid (by rw [HBS.out, if_pos hz])
    have t0 := blk_cell C7.out 0
    have t1 := blk_cell C7.out 1
    have a0 := blk_cell S7.out 0
    have a1 := blk_cell S7.out 1
    have f0 := blk_free C7.out 0
    have f1 := blk_free C7.out 1
    go_upto_region 11 with fail
    obtain ⟨W8, hW8⟩ : ∃ W8, (W7.setCell ⟨mc, 0, none⟩ (.int .u8 (c1.1 : Int))).setCell ⟨mc, 1, none⟩ (.int .i64 c1.2) = W8 := ⟨_, rfl⟩
    have C8 := Lib.hid (show W8.heap[mc]? = some (.cells #[.int .u8 (c1.1 : Int), .int .i64 c1.2] 68 (0, 0)) by rw [← hW8]; exact blk_set (blk_set C7.out 0 _) 1 _)
    have K8 := Lib.hid (show W8.heap[m]? = some (.cells B 71 (0, 0)) by rw [← hW8]; exact blk_far (blk_far K7.out (by show m ≠ mc; omega) _) (by show m ≠ mc; omega) _)
    have hB8 : Below w.heap.size w W8 := by rw [← hW8]; exact (hB7.setCell (p := ⟨mc, 0, none⟩) (by show w.heap.size ≤ mc; omega) _).setCell (p := ⟨mc, 1, none⟩) (by show w.heap.size ≤ mc; omega) _
    rw [hW8]
    clear hW8 t0 t1 a0 a1 f0 f1 tz hz
    obtain ⟨L, hL⟩ : ∃ L, bidsL (finG t v) s = L := ⟨_, rfl⟩
    have HSp2 : Hid (∀ i, i < L.length → 3 ≤ L.getD i 0 ∧ L.getD i 0 ≤ 37 ∧ (lC (finG t v) (L.getD i 0) (1 - sideAt r i)).1 = L.getD (i + 1) 0) := Lib.hid (fun i hi => by
      have h := HSp.out i (by rw [hL]; exact hi)
      rw [HS1.out, hL] at h
      exact ⟨h.1, h.2.1, h.2.2.2.1⟩)
    have HLe2 : L.length ≤ 38 := by rw [← hL]; exact HLe.out
    have hg0 : L.getD 0 0 = c1.1 := by rw [← hL]; exact HF1.out
    have HLd := Lib.hid hL
    have hbw : w.heap.size ≤ W8.heap.size := hB8.size
    have hmc8 : mc < W8.heap.size := blk_lt C8.out
    have HC80 := Lib.hid (show W8.heap[mc]? = some (.cells #[.int .u8 ((L.getD 0 0 : Nat) : Int), .int .i64 c1.2] 68 (0, 0)) by rw [hg0]; exact C8.out)
    have hQ1 : r ≤ 1 := by omega
    have hmmc : m ≠ mc := by omega
    clear hL hg0 hbg
    go_wp2
    go_loopw [14, 11] (fun v14 sd wr => ∃ (k : Nat) (xs : List Value) (z : Int), k ≤ L.length ∧ sd = .int .u8 ((sideAt r k : Nat) : Int) ∧ Hid (xs = bC (L.take k)) ∧ wr.ownsRow W8.heap.size 5 1 v14 k xs ∧ Hid (wr.heap[m]? = some (.cells B 71 (0, 0))) ∧
      Hid (wr.heap[mc]? = some (.cells #[.int .u8 ((L.getD k 0 : Nat) : Int), .int .i64 z] 68 (0, 0))) ∧ Below w.heap.size w wr ∧ W8.heap.size ≤ wr.heap.size) (fun v14 _ _ => L.length - slLen v14)
    case atStart => exact ⟨0, [], c1.2, by omega, rfl, rfl, own_nil, K8.out, HC80.out, hB8, Nat.le_refl _⟩
    case round =>
      obtain ⟨k, xs, z, hk, rfl, hxs, hown, HKm, HKc, hbel, hsr⟩ := hrel
      rename World => wx
      by_cases hlt : k < L.length
      · obtain ⟨h3, h37, hnx⟩ := HSp2.out k hlt
        have Hsn := Lib.hid (bC_snoc L k hlt)
        have hyb := sideAt_le r k hQ1
        have hys := sideAt_succ r k hQ1
        generalize L.getD k 0 = b at h3 h37 hnx Hsn HKc
        obtain ⟨x, hx⟩ : ∃ x, 1 - sideAt r k = x := ⟨_, rfl⟩
        rw [hx] at hnx hys
        have hxb : x ≤ 1 := by omega
        have hx1 : (1 : Int) - ((sideAt r k : Nat) : Int) = (x : Int) := by omega
        have Hys := Lib.hid hys
        have tb : ((b : Int) == 0) = false := beq_eq_false_iff_ne.2 (by omega)
        have tb2 : ((b : Int) != 0) = true := by simp; omega
        have ql0 := (blk_cell HKm.out (b * 4 + x * 2)).trans (HB.out.2.2 b x h37 hxb).1
        have ql1 := (blk_cell HKm.out (b * 4 + x * 2 + 1)).trans (HB.out.2.2 b x h37 hxb).2
        rw [HQL.out b x h3 h37 hxb] at ql0 ql1
        rw [hnx] at ql0
        generalize (lC (finG t v) b x).2 = z2 at ql1
        have hb38 : (b : Int) < 38 := by omega
        have hx2 : (x : Int) < 2 := by omega
        have q0 := blk_cell HKc.out 0
        have lm := blk_lt HKm.out
        have lc := blk_lt HKc.out
        have Hown := Lib.hid hown
        generalize sideAt r k = y at hx1 ⊢
        clear hnx hys hx
        go_wp2_with (at_builtin; refine wpList_append_own _ rfl _ _ 34 rfl W8.heap.size 5 i0 (.int .u8 0) 1 1 Tryd.underlying34 hi hz0 hz1 hz2 rfl (by decide) _ _ _ rfl (hown.alloc _) _ 1 1 [.int .u8 (b : Int)] rfl rfl ?ca1 ?ca2 ?ca3 ?ca4 ?ca5 ?_)
        case ca1 => exact cells_new_at _ #[.int .u8 (b : Int)] _ _ (by simp)
        case ca2 => simp [Value.oneCell']
        case ca3 => unfold maxLen; omega
        case ca4 => omega
        case ca5 => simp; omega
        intro v' w5 hown1 hgrow _
        have hne : ∀ g', g' < W8.heap.size → some g' ≠ Value.ownBlock u14 := fun g' hg' e => by have := (hown.lt g' e.symm).1; omega
        have KM := Lib.hid (blk_grown (blk_alloc HKm.out _) hgrow (hne m (by omega)))
        have KC := Lib.hid (blk_grown (blk_alloc HKc.out _) hgrow (hne mc hmc8))
        have hb5 : Below w.heap.size w w5 := (hbel.alloc hbel.size _).grown hgrow (by have := hbel.size; simp; omega) (fun g' hg' => by have := (hown.lt g' hg').1; omega)
        have hs5 : W8.heap.size ≤ w5.heap.size := by have := hgrow.size; simp at this; omega
        have ql0 := (blk_cell KM.out (b * 4 + x * 2)).trans ((blk_cell HKm.out (b * 4 + x * 2)).symm.trans ql0)
        have ql1 := (blk_cell KM.out (b * 4 + x * 2 + 1)).trans ((blk_cell HKm.out (b * 4 + x * 2 + 1)).symm.trans ql1)
        have q0 := blk_cell KC.out 0
        have q1 := blk_cell KC.out 1
        have f0 := blk_free KC.out 0
        have f1 := blk_free KC.out 1
        clear hown hgrow hne lm lc
        go_wp2
        have hown2 : ((w5.setCell ⟨mc, 0, none⟩ (.int .u8 ((L.getD (k + 1) 0 : Nat) : Int))).setCell ⟨mc, 1, none⟩ (.int .i64 z2)).ownsRow W8.heap.size 5 1 v' (k + 1) (xs ++ [.int .u8 (b : Int)]) :=
          own_far (own_far hown1 (p := ⟨mc, 0, none⟩) hmc8 _) (p := ⟨mc, 1, none⟩) hmc8 _
        go_roundw
        case rel =>
          refine ⟨k + 1, _, z2, by omega, by rw [Hys.out], ?_, hown2, ?_, ?_, (hb5.setCell (p := ⟨mc, 0, none⟩) (by show w.heap.size ≤ mc; omega) _).setCell (p := ⟨mc, 1, none⟩) (by show w.heap.size ≤ mc; omega) _, by simpa using hs5⟩
          · show _ = bC (L.take (k + 1)); rw [Hsn.out, hxs.out]
          · exact blk_far (blk_far KM.out (by show m ≠ mc; omega) _) (by show m ≠ mc; omega) _
          · exact blk_set (blk_set KC.out 0 _) 1 _
        case measure =>
          obtain ⟨A', c', rfl⟩ := own_form hown1
          obtain ⟨A'', c'', rfl⟩ := own_form Hown.out
          simp [slLen]; omega
      · obtain rfl : k = L.length := by omega
        have hg0 : L.getD L.length 0 = 0 := by rw [List.getD_eq_getElem?_getD, List.getElem?_eq_none (Nat.le_refl _)]; rfl
        rw [hg0] at HKc
        have q0 : wx.cell? ⟨mc, 0, none⟩ = some (.int .u8 0) := blk_cell HKc.out 0
        have hyb := sideAt_le r L.length hQ1
        have He := Lib.hid (show (1 : Int) - ((sideAt r L.length : Nat) : Int) = ((1 - sideAt r L.length : Nat) : Int) by omega)
        have hown := own_mono hown hbw
        rw [List.take_length] at hxs
        rw [hxs.out] at hown
        have Hown := Lib.hid hown
        clear hown hg0
        go_wp2
        go_ret3
        exact ⟨_, by rw [HS1.out, HLd.out, ← He.out]; rfl, by rw [HLd.out]; exact Hown.out, hbel⟩
  · have tz : ((c2.1 : Int) == 0) = false := beq_eq_false_iff_ne.2 (by omega)
    have HF1 : Hid ((bidsL (finG t v) s).getD 0 0 = c2.1) := Lib.hid (by rw [HFi.out, HBC.out, if_neg hz])
    have HS1 : Hid (begS (finG t v) s = s) := Lib.hid (by rw [HBS.out, if_neg hz])
    have t0 := blk_cell C7.out 0
    go_upto_region 11 with fail
    obtain ⟨W8, hW8⟩ : ∃ W8, W7 = W8 := ⟨_, rfl⟩
    have C8 := Lib.hid (show W8.heap[mc]? = some (.cells #[.int .u8 (c2.1 : Int), .int .i64 c2.2] 68 (0, 0)) by rw [← hW8]; exact C7.out)
    have K8 := Lib.hid (show W8.heap[m]? = some (.cells B 71 (0, 0)) by rw [← hW8]; exact K7.out)
    have hB8 : Below w.heap.size w W8 := by rw [← hW8]; exact hB7
    rw [hW8]
    clear hW8 t0 tz hz
    obtain ⟨L, hL⟩ : ∃ L, bidsL (finG t v) s = L := ⟨_, rfl⟩
    have HSp2 : Hid (∀ i, i < L.length → 3 ≤ L.getD i 0 ∧ L.getD i 0 ≤ 37 ∧ (lC (finG t v) (L.getD i 0) (1 - sideAt s i)).1 = L.getD (i + 1) 0) := Lib.hid (fun i hi => by
      have h := HSp.out i (by rw [hL]; exact hi)
      rw [HS1.out, hL] at h
      exact ⟨h.1, h.2.1, h.2.2.2.1⟩)
    have HLe2 : L.length ≤ 38 := by rw [← hL]; exact HLe.out
    have hg0 : L.getD 0 0 = c2.1 := by rw [← hL]; exact HF1.out
    have HLd := Lib.hid hL
    have hbw : w.heap.size ≤ W8.heap.size := hB8.size
    have hmc8 : mc < W8.heap.size := blk_lt C8.out
    have HC80 := Lib.hid (show W8.heap[mc]? = some (.cells #[.int .u8 ((L.getD 0 0 : Nat) : Int), .int .i64 c2.2] 68 (0, 0)) by rw [hg0]; exact C8.out)
    have hQ1 : s ≤ 1 := by omega
    have hmmc : m ≠ mc := by omega
    clear hL hg0 hbg
    go_wp2
    go_loopw [14, 11] (fun v14 sd wr => ∃ (k : Nat) (xs : List Value) (z : Int), k ≤ L.length ∧ sd = .int .u8 ((sideAt s k : Nat) : Int) ∧ Hid (xs = bC (L.take k)) ∧ wr.ownsRow W8.heap.size 5 1 v14 k xs ∧ Hid (wr.heap[m]? = some (.cells B 71 (0, 0))) ∧
      Hid (wr.heap[mc]? = some (.cells #[.int .u8 ((L.getD k 0 : Nat) : Int), .int .i64 z] 68 (0, 0))) ∧ Below w.heap.size w wr ∧ W8.heap.size ≤ wr.heap.size) (fun v14 _ _ => L.length - slLen v14)
    case atStart => exact ⟨0, [], c2.2, by omega, rfl, rfl, own_nil, K8.out, HC80.out, hB8, Nat.le_refl _⟩
    case round =>
      obtain ⟨k, xs, z, hk, rfl, hxs, hown, HKm, HKc, hbel, hsr⟩ := hrel
      rename World => wx
      by_cases hlt : k < L.length
      · obtain ⟨h3, h37, hnx⟩ := HSp2.out k hlt
        have Hsn := Lib.hid (bC_snoc L k hlt)
        have hyb := sideAt_le s k hQ1
        have hys := sideAt_succ s k hQ1
        generalize L.getD k 0 = b at h3 h37 hnx Hsn HKc
        obtain ⟨x, hx⟩ : ∃ x, 1 - sideAt s k = x := ⟨_, rfl⟩
        rw [hx] at hnx hys
        have hxb : x ≤ 1 := by omega
        have hx1 : (1 : Int) - ((sideAt s k : Nat) : Int) = (x : Int) := by omega
        have Hys := Lib.hid hys
        have tb : ((b : Int) == 0) = false := beq_eq_false_iff_ne.2 (by omega)
        have tb2 : ((b : Int) != 0) = true := by simp; omega
        have ql0 := (blk_cell HKm.out (b * 4 + x * 2)).trans (HB.out.2.2 b x h37 hxb).1
        have ql1 := (blk_cell HKm.out (b * 4 + x * 2 + 1)).trans (HB.out.2.2 b x h37 hxb).2
        rw [HQL.out b x h3 h37 hxb] at ql0 ql1
        rw [hnx] at ql0
        generalize (lC (finG t v) b x).2 = z2 at ql1
        have hb38 : (b : Int) < 38 := by omega
        have hx2 : (x : Int) < 2 := by omega
        have q0 := blk_cell HKc.out 0
        have lm := blk_lt HKm.out
        have lc := blk_lt HKc.out
        have Hown := Lib.hid hown
        generalize sideAt s k = y at hx1 ⊢
        clear hnx hys hx
        go_wp2_with (at_builtin; refine wpList_append_own _ rfl _ _ 34 rfl W8.heap.size 5 i0 (.int .u8 0) 1 1 Tryd.underlying34 hi hz0 hz1 hz2 rfl (by decide) _ _ _ rfl (hown.alloc _) _ 1 1 [.int .u8 (b : Int)] rfl rfl ?cb1 ?cb2 ?cb3 ?cb4 ?cb5 ?_)
        case cb1 => exact cells_new_at _ #[.int .u8 (b : Int)] _ _ (by simp)
        case cb2 => simp [Value.oneCell']
        case cb3 => unfold maxLen; omega
        case cb4 => omega
        case cb5 => simp; omega
        intro v' w5 hown1 hgrow _
        have hne : ∀ g', g' < W8.heap.size → some g' ≠ Value.ownBlock u14 := fun g' hg' e => by have := (hown.lt g' e.symm).1; omega
        have KM := Lib.hid (blk_grown (blk_alloc HKm.out _) hgrow (hne m (by omega)))
        have KC := Lib.hid (blk_grown (blk_alloc HKc.out _) hgrow (hne mc hmc8))
        have hb5 : Below w.heap.size w w5 := (hbel.alloc hbel.size _).grown hgrow (by have := hbel.size; simp; omega) (fun g' hg' => by have := (hown.lt g' hg').1; omega)
        have hs5 : W8.heap.size ≤ w5.heap.size := by have := hgrow.size; simp at this; omega
        have ql0 := (blk_cell KM.out (b * 4 + x * 2)).trans ((blk_cell HKm.out (b * 4 + x * 2)).symm.trans ql0)
        have ql1 := (blk_cell KM.out (b * 4 + x * 2 + 1)).trans ((blk_cell HKm.out (b * 4 + x * 2 + 1)).symm.trans ql1)
        have q0 := blk_cell KC.out 0
        have q1 := blk_cell KC.out 1
        have f0 := blk_free KC.out 0
        have f1 := blk_free KC.out 1
        clear hown hgrow hne lm lc
        go_wp2
        have hown2 : ((w5.setCell ⟨mc, 0, none⟩ (.int .u8 ((L.getD (k + 1) 0 : Nat) : Int))).setCell ⟨mc, 1, none⟩ (.int .i64 z2)).ownsRow W8.heap.size 5 1 v' (k + 1) (xs ++ [.int .u8 (b : Int)]) :=
          own_far (own_far hown1 (p := ⟨mc, 0, none⟩) hmc8 _) (p := ⟨mc, 1, none⟩) hmc8 _
        go_roundw
        case rel =>
          refine ⟨k + 1, _, z2, by omega, by rw [Hys.out], ?_, hown2, ?_, ?_, (hb5.setCell (p := ⟨mc, 0, none⟩) (by show w.heap.size ≤ mc; omega) _).setCell (p := ⟨mc, 1, none⟩) (by show w.heap.size ≤ mc; omega) _, by simpa using hs5⟩
          · show _ = bC (L.take (k + 1)); rw [Hsn.out, hxs.out]
          · exact blk_far (blk_far KM.out (by show m ≠ mc; omega) _) (by show m ≠ mc; omega) _
          · exact blk_set (blk_set KC.out 0 _) 1 _
        case measure =>
          obtain ⟨A', c', rfl⟩ := own_form hown1
          obtain ⟨A'', c'', rfl⟩ := own_form Hown.out
          simp [slLen]; omega
      · obtain rfl : k = L.length := by omega
        have hg0 : L.getD L.length 0 = 0 := by rw [List.getD_eq_getElem?_getD, List.getElem?_eq_none (Nat.le_refl _)]; rfl
        rw [hg0] at HKc
        have q0 : wx.cell? ⟨mc, 0, none⟩ = some (.int .u8 0) := blk_cell HKc.out 0
        have hyb := sideAt_le s L.length hQ1
        have He := Lib.hid (show (1 : Int) - ((sideAt s L.length : Nat) : Int) = ((1 - sideAt s L.length : Nat) : Int) by omega)
        have hown := own_mono hown hbw
        rw [List.take_length] at hxs
        rw [hxs.out] at hown
        have Hown := Lib.hid hown
        clear hown hg0
        go_wp2
        go_ret3
        exact ⟨_, by rw [HS1.out, HLd.out, ← He.out]; rfl, by rw [HLd.out]; exact Hown.out, hbel⟩

end Go.Proofs.YtilekdjjfdehcaaDoor
