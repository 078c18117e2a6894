/- The walk of foul.All. -/
import Derived.Test.YtchklobblkddhaaGreatDoorFouIt
import Derived.Shelf.RegionOpen
import Derived.Sort.CutIn
namespace Go.Proofs.YtchklobblkddhaaGreatDoor
open Go.RowKit Go.Shelf

attribute [local go_sem] Oper.semAt_some

theorem itTo_cnt (L : List Ent) (f : Int) : ∀ (k : Nat) (h : k ≤ L.length), (itTo L f k h).length = ((L.take k).filter (selE f)).length := by
  intro k
  induction k with
  | zero => intro h; rfl
  | succ k ih =>
    intro h
    show (itTo L f k _ ++ _).length = _
    rw [List.length_append, ih (by omega), List.take_succ_eq_append_getElem (by omega), List.filter_append, List.length_append]
    congr 1
    by_cases hs : selE f (L[k]'(by omega)) = true
    · rw [dif_pos hs, List.filter_cons_of_pos hs]; rfl
    · rw [dif_neg hs, List.filter_cons_of_neg hs]; rfl
theorem itAll_cnt (L : List Ent) (f : Int) : (itAll L f).length = inField L f := by
  unfold itAll inField
  rw [itTo_cnt, List.take_length]
  rfl
theorem notVoid_succ (L : List Ent) (j : Nat) (h : j < L.length) : notVoid (L.take (j + 1)) = notVoid (L.take j) + (if (L[j]).k = 0 then 0 else 1) := by
  unfold notVoid
  rw [List.take_succ_eq_append_getElem h, List.filter_append, List.length_append]
  congr 1
  by_cases e : (L[j]).k = 0
  · rw [if_pos e, List.filter_cons_of_neg (by simp [e])]; rfl
  · rw [if_neg e, List.filter_cons_of_pos (by simp [e])]; rfl
theorem notVoid_le (L : List Ent) (j : Nat) : notVoid (L.take j) ≤ L.length := Nat.le_trans (List.length_filter_le _ _) (by rw [List.length_take]; omega)
/-- A world behind the marks of some loops over functions. -/
def unmark (w : World) : List Nat → World
  | [] => w
  | D :: ds => unmark (w.putObj D (.deferred none)) ds
theorem unmark_other {ds : List Nat} : ∀ {w : World} {b : Nat}, b ∉ ds → (unmark w ds).heap[b]? = w.heap[b]? := by
  induction ds with
  | nil => intro w b _; rfl
  | cons D ds ih =>
    intro w b h
    rw [unmark, ih (fun h2 => h (List.mem_cons_of_mem _ h2))]
    exact World.putObj_heap_other (fun e => h (by rw [e]; exact List.mem_cons_self ..))
/-- The deferred lists of loops over functions, all empty, at a function's return. -/
theorem leaves_marks {F : Fence} {n : Nat} {P : Program} {fn : Func} {tmps : Array Value} {R : Ending → World → Prop} : ∀ (ds : List Nat) (w : World), ds.Nodup → (∀ D ∈ ds, w.heap[D]? = some (.deferred (some []))) →
    LeavesInM F n P fn tmps R [] .returning (unmark w ds) → LeavesInM F n P fn tmps R (ds.map fun D => { target := .collected D, args := #[] }) .returning w := by
  intro ds
  induction ds with
  | nil => intro w _ _ h; exact h
  | cons D ds ih =>
    intro w hd hk h
    obtain ⟨hD, hd⟩ := List.nodup_cons.1 hd
    refine ⟨by simp, .inl ⟨_, _, rfl, run_takeDeferred (hk D (List.mem_cons_self ..)), ih _ hd (fun E hE => ?_) h⟩⟩
    rw [World.putObj_heap_other (fun e => hD (by rw [← e]; exact hE))]
    exact hk E (List.mem_cons_of_mem _ hE)
/-- The counts of the fields below j. -/
def cntTo (L : List Ent) (j : Nat) : Array Value := #[.int .i64 (if 0 < j then (inField L 0 : Int) else 0), .int .i64 (if 1 < j then (inField L 1 : Int) else 0), .int .i64 (if 2 < j then (inField L 2 : Int) else 0), .int .i64 (if 3 < j then (inField L 3 : Int) else 0)]
/-- The marks of loops over functions, on a frame. -/
def marks (ds : List Nat) : List Deferred := ds.map fun D => { target := .collected D, args := #[] }
/-- The counts while field j is counted: k so far. -/
def cntAt (L : List Ent) (j k : Nat) : Array Value := (cntTo L j).setIfInBounds j (.int .i64 (k : Int))
theorem cntAt_zero (L : List Ent) (j : Nat) (hj : j < 4) : cntAt L j 0 = cntTo L j := by
  rcases (show j = 0 ∨ j = 1 ∨ j = 2 ∨ j = 3 by omega) with rfl | rfl | rfl | rfl <;> rfl
theorem cntAt_full (L : List Ent) (j : Nat) (hj : j < 4) : cntAt L j (inField L (j : Int)) = cntTo L (j + 1) := by
  rcases (show j = 0 ∨ j = 1 ∨ j = 2 ∨ j = 3 by omega) with rfl | rfl | rfl | rfl <;> rfl
theorem cntAt_get (L : List Ent) (j k : Nat) (hj : j < 4) : (cntAt L j k)[j]? = some (.int .i64 (k : Int)) := by
  unfold cntAt
  rw [Array.getElem?_setIfInBounds_self_of_lt (by show j < 4; exact hj)]
theorem cntAt_set (L : List Ent) (j k i : Nat) : (cntAt L j k).setIfInBounds j (.int .i64 (i : Int)) = cntAt L j i := by
  unfold cntAt
  rw [Array.setIfInBounds_setIfInBounds]
/-- A block that the loop over a function does not turn. -/
theorem blk_own23 {β : Type} (B k t : Nat) (fr : Nat × Nat) (f : β → Array Value) : OwnFrom B (fun s W => W.heap[k]? = some (.cells (f s) t fr)) := fun _ X _ row hs hg hr =>
  (hg.block k (blk_lt hs) (fun e => by obtain ⟨_, o, ho, hc⟩ := hr k e.symm; rw [hs] at ho; cases ho; cases hc)).trans hs
theorem keeps_below23 {W W' : World} (h : Below W.heap.size W W') : KeepsOthers W W' := ⟨h.size, fun k _ hk _ => (h.block k (Array.getElem?_eq_some_iff.1 hk).1).trans hk⟩
/-- The marks of earlier loops lie as they lay. -/
def Marked (m : Nat) (ds : List Nat) (W : World) : Prop := ds.Nodup ∧ ∀ D ∈ ds, m < D ∧ W.heap[D]? = some (.deferred (some []))
theorem marked_own {β : Type} {B m : Nat} {ds : List Nat} {w0 : World} (h0 : Marked m ds w0) (hB : w0.heap.size ≤ B) : OwnFrom B (fun (_ : β) W => Marked m ds W) := fun _ X Y row hs hg hr =>
  ⟨hs.1, fun D hD => ⟨(hs.2 D hD).1, (hg.block D (Array.getElem?_eq_some_iff.1 (hs.2 D hD).2).1 (fun e => by
    have h1 := (hr D e.symm).1
    have h2 := (Array.getElem?_eq_some_iff.1 (h0.2 D hD).2).1
    omega)).trans (hs.2 D hD).2⟩⟩
theorem Marked.keep {m : Nat} {ds : List Nat} {W W' : World} (h : Marked m ds W) (hk : KeepsOthers W W') : Marked m ds W' := ⟨h.1, fun D hD => ⟨(h.2 D hD).1, hk.same D _ (h.2 D hD).2 rfl⟩⟩
theorem Marked.push {m D : Nat} {ds : List Nat} {W : World} (h : Marked m ds W) (hD : W.heap[D]? = some (.deferred (some []))) (hm : m < D) (hn : D ∉ ds) : Marked m (D :: ds) W :=
  ⟨List.nodup_cons.2 ⟨hn, h.1⟩, fun E hE => by
    rcases List.mem_cons.1 hE with rfl | hE
    · exact ⟨hm, hD⟩
    · exact h.2 E hE⟩
theorem keepE_b {Bs Bf : Nat} {A : Option Addr} {w : World} (h1 : Bs < w.heap.size) (h2 : Bf < w.heap.size) (h3 : ∀ b off, A = some ⟨b, off, none⟩ → b < w.heap.size) (W : World) (l : Nat) (o o' : Obj) (hl : w.heap.size ≤ l) (_ : W.heap[l]? = some o) (_ : o.isCells = false) (_ : o.isWalk = false) : KeepE Bs Bf A W (W.putObj l o') :=
  ⟨World.putObj_heap_other (by omega), World.putObj_heap_other (by omega), fun b off e => World.putObj_heap_other (by have := h3 b off e; omega)⟩
/-- In the counting of a field. -/
def AllJ (L : List Ent) (w : World) (g m n j : Nat) (ds : List Nat) (pre : List (Sel L (j : Int))) (W : World) : Prop :=
  W.heap[n]? = some (.cells #[.int .i64 (j : Int)] 3 (0, 0)) ∧ W.heap[g]? = some (.cells #[.int .i64 0, .int .i64 0, .int .i64 0, .int .i64 0] 32 (0, 0)) ∧ W.heap[m]? = some (.cells (cntAt L j pre.length) 32 (0, 0)) ∧ Marked m ds W ∧ Below w.heap.size w W
theorem allJ_own {L : List Ent} {w : World} {g m n j : Nat} {ds : List Nat} {w0 : World} {B : Nat} (h0 : Marked m ds w0) (hB : w0.heap.size ≤ B) (hw : w.heap.size ≤ B) : OwnFrom B (AllJ L w g m n j ds) := by
  unfold AllJ
  exact OwnFrom.and (blk_own23 B n _ (0, 0) (fun _ => _)) (OwnFrom.and (blk_own23 B g _ (0, 0) (fun _ => _)) (OwnFrom.and (blk_own23 B m _ (0, 0) (fun pre : List (Sel L (j : Int)) => cntAt L j pre.length)) (OwnFrom.and (marked_own h0 hB) (ownFrom_below (Nat.le_refl _) hw))))
/-- A round of the counting. -/
theorem allJ_step {L : List Ent} {w W : World} {g m n j : Nat} {ds : List Nat} {pre : List (Sel L (j : Int))} {x : Sel L (j : Int)} {B Bs Bf : Nat} {A : Option Addr} (h : AllJ L w g m n j ds pre W) (hm : w.heap.size ≤ m ∧ g < m ∧ m < n ∧ m ≠ Bs ∧ m ≠ Bf ∧ ∀ b off, A = some ⟨b, off, none⟩ → b < w.heap.size) :
    KeepsFrom B W (W.setCell ⟨m, j, none⟩ (.int .i64 ((pre.length : Int) + 1))) ∧ KeepE Bs Bf A W (W.setCell ⟨m, j, none⟩ (.int .i64 ((pre.length : Int) + 1))) ∧ AllJ L w g m n j ds (pre ++ [x]) (W.setCell ⟨m, j, none⟩ (.int .i64 ((pre.length : Int) + 1))) := by
  obtain ⟨q0, q1, q2, q3, q4⟩ := h
  obtain ⟨h1, h2, h3, h4, h5, h6⟩ := hm
  have hk : KeepsOthers W (W.setCell ⟨m, j, none⟩ (.int .i64 ((pre.length : Int) + 1))) := KeepsOthers.setCell _ _ _
  refine ⟨hk.from _, ⟨blk_far rfl (by show Bs ≠ m; omega) _, blk_far rfl (by show Bf ≠ m; omega) _, fun b off e => blk_far rfl (by show b ≠ m; have := h6 b off e; omega) _⟩, ?_⟩
  refine ⟨blk_far q0 (by show n ≠ m; omega) _, blk_far q1 (by show g ≠ m; omega) _, ?_, q3.keep hk, q4.setCell (p := ⟨m, j, none⟩) h1 _⟩
  rw [blk_set q2 j _]
  have e : ((pre.length : Int) + 1) = (((pre ++ [x]).length : Nat) : Int) := by simp
  rw [e, cntAt_set]
theorem unmark_below {B : Nat} {ds : List Nat} : ∀ {w W : World}, Below B w W → ds.Nodup → (∀ D ∈ ds, B ≤ D ∧ W.heap[D]? = some (.deferred (some []))) → Below B w (unmark W ds) := by
  induction ds with
  | nil => intro w W h _ _; exact h
  | cons D ds ih =>
    intro w W h hd hk
    obtain ⟨hD, hd⟩ := List.nodup_cons.1 hd
    obtain ⟨h1, h2⟩ := hk D (List.mem_cons_self ..)
    refine ih (h.grown (grownBy_putObj' W D (.deferred none)) (Nat.le_trans h1 (Nat.le_of_lt (Array.getElem?_eq_some_iff.1 h2).1)) (fun k e => by cases e; exact h1)) hd (fun E hE => ?_)
    obtain ⟨h3, h4⟩ := hk E (List.mem_cons_of_mem _ hE)
    exact ⟨h3, (World.putObj_heap_other (fun e => hD (by rw [← e]; exact hE))).trans h4⟩
/-- The end of the counting. -/
theorem allJ_end {w W : World} {g m : Nat} {ds : List Nat} (hgm : g < m) (i1 : W.heap[g]? = some (.cells #[.int .i64 0, .int .i64 0, .int .i64 0, .int .i64 0] 32 (0, 0))) (i3 : Marked m ds W) (i4 : Below w.heap.size w W) (hg : w.heap.size = g) (v0 v1 v2 v3 : Value) :
    ds.Nodup ∧ (∀ D ∈ ds, (((((W.setCell ⟨g, 0, none⟩ v0).setCell ⟨g, 1, none⟩ v1).setCell ⟨g, 2, none⟩ v2).setCell ⟨g, 3, none⟩ v3).drew).heap[D]? = some (.deferred (some []))) ∧
    (unmark ((((W.setCell ⟨g, 0, none⟩ v0).setCell ⟨g, 1, none⟩ v1).setCell ⟨g, 2, none⟩ v2).setCell ⟨g, 3, none⟩ v3).drew ds).heap[g]? = some (.cells #[v0, v1, v2, v3] 32 (0, 0)) ∧
    Below w.heap.size w (unmark ((((W.setCell ⟨g, 0, none⟩ v0).setCell ⟨g, 1, none⟩ v1).setCell ⟨g, 2, none⟩ v2).setCell ⟨g, 3, none⟩ v3).drew ds) := by
  have hgn : g ∉ ds := fun h => by have := (i3.2 g h).1; omega
  have hk : ∀ D ∈ ds, (((((W.setCell ⟨g, 0, none⟩ v0).setCell ⟨g, 1, none⟩ v1).setCell ⟨g, 2, none⟩ v2).setCell ⟨g, 3, none⟩ v3).drew).heap[D]? = some (.deferred (some [])) := fun D hD => by
    obtain ⟨h1, h2⟩ := i3.2 D hD
    have hne : D ≠ g := by omega
    exact blk_far (blk_far (blk_far (blk_far h2 hne _) hne _) hne _) hne _
  have hb : ((((W.setCell ⟨g, 0, none⟩ v0).setCell ⟨g, 1, none⟩ v1).setCell ⟨g, 2, none⟩ v2).setCell ⟨g, 3, none⟩ v3).drew.heap[g]? = some (.cells #[v0, v1, v2, v3] 32 (0, 0)) := blk_set (blk_set (blk_set (blk_set i1 0 v0) 1 v1) 2 v2) 3 v3
  refine ⟨i3.1, hk, (unmark_other hgn).trans hb, unmark_below ?_ i3.1 (fun D hD => ⟨by have := (i3.2 D hD).1; omega, hk D hD⟩)⟩
  have e : w.heap.size ≤ g := by omega
  exact ((((i4.setCell (p := ⟨g, 0, none⟩) e _).setCell (p := ⟨g, 1, none⟩) e _).setCell (p := ⟨g, 2, none⟩) e _).setCell (p := ⟨g, 3, none⟩) e _).drew
/-- Between two rounds of the counting of fields. -/
def AllI (L : List Ent) (w : World) (g m j : Nat) (ds : List Nat) (W : World) : Prop :=
  j ≤ 4 ∧ W.heap[g]? = some (.cells #[.int .i64 0, .int .i64 0, .int .i64 0, .int .i64 0] 32 (0, 0)) ∧ W.heap[m]? = some (.cells (cntTo L j) 32 (0, 0)) ∧ Marked m ds W ∧ Below w.heap.size w W
/-- The counts of the fields. -/
def cntC (L : List Ent) : Array Value := #[.int .i64 (inField L 0 : Int), .int .i64 (inField L 1 : Int), .int .i64 (inField L 2 : Int), .int .i64 (inField L 3 : Int)]

set_option maxRecDepth 100000 in
set_option maxHeartbeats 2000000 in
theorem fall_bad (L : List Ent) (A : Option Addr) (c : Nat) (w : World) (hO : ∀ e ∈ L, e.Ok) (hA : Rd w w.heap.size 33 A L.length (enL L)) (hLn : L.length ≤ 1000000) (hL : LaidS w) (h0 : chkE L ≠ 0) :
    Calls Tryz.prog 8 #[.slice A L.length c] w fun e w' => e = .returned (.tuple #[.int .i64 0, .agg #[.int .i64 0, .int .i64 0, .int .i64 0, .int .i64 0], .int .i64 (chkE L)]) ∧ Below w.heap.size w w' := by
  have HC := Lib.hid (fun W h1 h2 => fcheck_any L A c W hO h1 hLn h2)
  generalize chkE L = N at *
  have HA := Lib.hid hA
  have HL := Lib.hid hL
  clear hO hA hL
  have t0 : (N == 0) = false := beq_eq_false_iff_ne.2 h0
  have t1 : (N != 0) = true := by rw [bne, t0]; rfl
  go_enter Tryz.func8, Tryz.ntmps8
  go_wp2_with fail
  have hB0 : Below w.heap.size w (w.alloc (.cells #[.int .i64 0, .int .i64 0, .int .i64 0, .int .i64 0] 32)) := (Below.refl _ _).alloc (Nat.le_refl _) _
  refine (HC.out _ ((HA.out.below hB0).more hB0.size) (HL.out.go hB0)).mono ?_
  rintro ee w2 ⟨rfl, hb⟩
  have k3 : w2.heap[w.heap.size]? = some (.cells #[.int .i64 0, .int .i64 0, .int .i64 0, .int .i64 0] 32 (0, 0)) := (hb.block w.heap.size (by simp)).trans (blk_new _ rfl)
  have hB2 := below_via hB0 hb
  obtain ⟨g, hg⟩ : ∃ g, w.heap.size = g := ⟨_, rfl⟩
  have hgl : w.heap.size ≤ g := Nat.le_of_eq hg
  rw [hg] at k3
  rw [hg]
  clear hg hb hB0
  have q0 := blk_cell k3 0
  have q1 := blk_cell k3 1
  have q2 := blk_cell k3 2
  have q3 := blk_cell k3 3
  have f0 := blk_free k3 0
  have f1 := blk_free k3 1
  have f2 := blk_free k3 2
  have f3 := blk_free k3 3
  clear k3
  go_wp2
  refine bodyPost_ret (v := .tuple #[.int .i64 0, .agg #[.int .i64 0, .int .i64 0, .int .i64 0, .int .i64 0], .int .i64 N]) ?_ rfl ⟨rfl, ?_⟩
  · simp [results, Tryz.results8, go_sem, q0, q1, q2, q3]
  · exact (((hB2.setCell (p := ⟨g, 0, none⟩) hgl _).setCell (p := ⟨g, 1, none⟩) hgl _).setCell (p := ⟨g, 2, none⟩) hgl _).setCell (p := ⟨g, 3, none⟩) hgl _

set_option maxRecDepth 100000 in
set_option maxHeartbeats 2000000 in
theorem fall_ok (L : List Ent) (A : Option Addr) (c : Nat) (w : World) (hO : ∀ e ∈ L, e.Ok) (hA : Rd w w.heap.size 33 A L.length (enL L)) (hLn : L.length ≤ 1000000) (hL : LaidS w) (h0 : chkE L = 0) :
    Calls Tryz.prog 8 #[.slice A L.length c] w fun e w' => e = .returned (.tuple #[.int .i64 (notVoid L : Int), .agg (cntC L), .int .i64 0]) ∧ Below w.heap.size w w' := by
  have HC := Lib.hid (fun W h1 h2 => fcheck_any L A c W hO h1 hLn h2)
  rw [h0] at HC
  have HO := Lib.hid hO
  have HA := Lib.hid hA
  have HL := Lib.hid hL
  clear hO hA hL h0
  refine (callsIn_wide (n := 5)).1 ?_
  refine callsIn_of_wp_marks Tryz.func8 rfl trivial ?_ rfl
  simp only [Tryz.ntmps8, List.size_toArray, List.length_cons, List.length_nil, Nat.reduceAdd, Nat.reduceSub, Array.replicate_succ, Array.replicate_zero, List.push_toArray, List.append_toArray, List.nil_append, List.cons_append]
  gi_wp2_with fail
  have hB0 : Below w.heap.size w (w.alloc (.cells #[.int .i64 0, .int .i64 0, .int .i64 0, .int .i64 0] 32)) := (Below.refl _ _).alloc (Nat.le_refl _) _
  refine ⟨trivial, (callsIn_wide.2 (HC.out _ ((HA.out.below hB0).more hB0.size) (HL.out.go hB0))).mono ?_⟩
  rintro ee w2 ⟨rfl, hb⟩
  have k3 : w2.heap[w.heap.size]? = some (.cells #[.int .i64 0, .int .i64 0, .int .i64 0, .int .i64 0] 32 (0, 0)) := (hb.block w.heap.size (by simp)).trans (blk_new _ rfl)
  have hB2 := below_via hB0 hb
  have HK3 := Lib.hid k3
  have HB2 := Lib.hid hB2
  clear hb hB0 k3 hB2
  gi_upto_region 5 with fail
  obtain ⟨g, hg⟩ : ∃ g, w.heap.size = g := ⟨_, rfl⟩
  obtain ⟨m, hm⟩ : ∃ m, w2.heap.size = m := ⟨_, rfl⟩
  obtain ⟨W3, hW3⟩ : ∃ V, w2.alloc (.cells #[.int .i64 0, .int .i64 0, .int .i64 0, .int .i64 0] 32) = V := ⟨_, rfl⟩
  have KG := Lib.hid (show W3.heap[g]? = some (.cells #[.int .i64 0, .int .i64 0, .int .i64 0, .int .i64 0] 32 (0, 0)) by rw [← hW3, ← hg]; exact blk_alloc HK3.out _)
  have KM := Lib.hid (show W3.heap[m]? = some (.cells #[.int .i64 0, .int .i64 0, .int .i64 0, .int .i64 0] 32 (0, 0)) by rw [← hW3]; exact blk_new _ hm.symm)
  have hgm : g < m := by rw [← hm, ← hg]; exact blk_lt HK3.out
  have HB3 := Lib.hid (show Below w.heap.size w W3 by rw [← hW3]; exact HB2.out.alloc HB2.out.size _)
  have HG := Lib.hid hg
  have hwm0 : w.heap.size ≤ m := by rw [← hm]; exact HB2.out.size
  rw [hW3, hg, hm]
  clear hW3 hm hg HK3 HB2
  gi_wp2
  gi_loopw [20, 6] (fun i v wr => ∃ j : Nat, j ≤ L.length ∧ i = .int .i64 (j : Int) ∧ v = .int .i64 (notVoid (L.take j) : Int) ∧ Below W3.heap.size W3 wr) (fun i _ _ => L.length - (intOf i).toNat)
  case atStart => exact ⟨0, Nat.zero_le _, rfl, rfl, Below.refl _ _⟩
  case round =>
    obtain ⟨j, hj, rfl, rfl, hB⟩ := hrel
    by_cases hlt : j < L.length
    · have hS : ∀ e ∈ L, e.C.size = 33 := fun e he => (HO.out e he).1.1
      obtain ⟨b, off, rfl, hbw, hr⟩ := rd_e hS HA.out j hlt
      have hB4 := below_via HB3.out hB
      have HR2 := Lib.hid (range_below hr hB4 hbw)
      have hok := HO.out _ (List.getElem_mem hlt)
      have hI := Lib.hid (hok.1.size)
      have h33 := Lib.hid (hok.1.1)
      have hone := Lib.hid (hok.2.1)
      have hc4 := hok.1.2.1
      have HNV := Lib.hid (notVoid_succ L j hlt)
      have hle := notVoid_le L j
      have c1 : (0 : Int) ≤ (j : Int) := by omega
      have c2 : (j : Int) < (L.length : Int) := by omega
      have hBa := Lib.hid (hB.alloc hB.size (.cells (L[j]).C 51))
      have q4 : (wr.alloc (.cells (L[j]).C 51)).cell? ⟨wr.heap.size, 4, none⟩ = some (.int .u8 (L[j]).k) := (blk_cell (blk_new _ rfl) 4).trans hc4
      clear hr hS hok hc4 hB hB4
      generalize notVoid (L.take j) = v at *
      by_cases hk0 : (L[j]).k = 0
      · have t0 : ((L[j]).k != 0) = false := by simp [hk0]
        rw [if_pos hk0] at HNV
        gi_wp2_with (first | (refine wide_load_ent rfl 51 (.tmp 22) rfl b (off + j * 33) rfl _ _ HR2.out Tryz.underlying51 rfl hI.out ?_) | (refine wide_alloc_to rfl 51 rfl enZ enZ_zero ?_) | (refine wide_store_new rfl 51 _ _ rfl (L[j]).C _ _ rfl rfl hI.out (by rw [h33.out]; rfl) hone.out ?_))
        go_roundw
        case rel => exact ⟨j + 1, hlt, by go_num, by rw [HNV.out]; rfl, hBa.out⟩
        case measure => simp [intOf]; omega
      · have t0 : ((L[j]).k != 0) = true := by simp [hk0]
        rw [if_neg hk0] at HNV
        gi_wp2_with (first | (refine wide_load_ent rfl 51 (.tmp 22) rfl b (off + j * 33) rfl _ _ HR2.out Tryz.underlying51 rfl hI.out ?_) | (refine wide_alloc_to rfl 51 rfl enZ enZ_zero ?_) | (refine wide_store_new rfl 51 _ _ rfl (L[j]).C _ _ rfl rfl hI.out (by rw [h33.out]; rfl) hone.out ?_))
        go_roundw
        case rel => exact ⟨j + 1, hlt, by go_num, by rw [HNV.out]; go_num, hBa.out⟩
        case measure => simp [intOf]; omega
    · obtain rfl : j = L.length := by omega
      rw [List.take_length]
      gi_wp2
      have hI0 : AllI L w g m 0 [] wr := ⟨by omega, (hB.block g (blk_lt KG.out)).trans KG.out, (hB.block m (blk_lt KM.out)).trans KM.out, ⟨List.nodup_nil, fun _ h => by simp at h⟩, below_via HB3.out hB⟩
      refine wpIn_loop (fun a W => ∃ (j : Nat) (ds : List Nat) (u10 u31 u32 u33 u34 u35 u36 u44 : Value), a = { tmps := #[.slice A L.length c, undef, .int .i64 0, .pointer (some ⟨g, 0, none⟩), .int .i64 0, .int .i64 0, .int .i64 (notVoid L : Int), .pointer (some ⟨m, 0, none⟩), undef, u9, u10, .slice A L.length c, .int .i64 0, .int .i64 0, .bool false, undef, undef, .agg #[.int .i64 0, .int .i64 0, .int .i64 0, .int .i64 0], .slice A L.length c, .int .i64 (L.length : Int), .int .i64 (L.length : Int), .bool false, u22, u23, u24, u25, u26, u27, u28, u29, .int .i64 (j : Int), u31, u32, u33, u34, u35, u36, undef, undef, undef, undef, undef, undef, undef, u44, undef, undef], defers := marks ds } ∧ AllI L w g m j ds W)
        (fun a _ => 4 - (intOf (a.tmps.getD 30 undef)).toNat) ⟨0, [], undef, undef, undef, undef, undef, undef, undef, undef, rfl, hI0⟩ ?_
      rintro a W ⟨j, ds, u10, u31, u32, u33, u34, u35, u36, u44, rfl, hAI⟩
      have HAI := Lib.hid hAI
      have hj4 := hAI.1
      clear hAI hI0
      by_cases hlt : j < 4
      · have hwr : IntKind.u8.wrap (j : Int) = (j : Int) := IntWalk.u8_in _ (by omega)
        have c1 : (j : Int) < 4 := by omega
        have HE := Lib.hid (fun W => fentries_any A L.length c (j : Int) W)
        gi_wp2_with fail
        refine ⟨trivial, (callsIn_wide.2 (HE.out _)).mono ?_⟩
        rintro e w' ⟨rfl, rfl⟩
        gi_wp2_with fail
        obtain ⟨n, hn⟩ : ∃ n, W.heap.size = n := ⟨_, rfl⟩
        obtain ⟨W1, hW1⟩ : ∃ W1, ((W.alloc (.cells #[.int .i64 (j : Int)] 3)).alloc (.cells #[.slice A L.length c] 22)).alloc (.cells #[.int .u8 (j : Int)] 5) = W1 := ⟨_, rfl⟩
        have hsz : W1.heap.size = n + 3 := by rw [← hW1]; simp [hn]
        obtain ⟨-, i1, i2, i3, i4⟩ := HAI.out
        have hbW : Below W.heap.size W W1 := by rw [← hW1]; exact (by repeat (first | exact Below.refl _ _ | assumption | refine Below.drew ?_ | refine below_drewN ?_ _ | refine Below.alloc ?_ (by first | omega | (simp; done) | (simp; omega)) _ | refine Below.setCell ?_ (by first | omega | (simp; done) | (simp; omega)) _))
        have k0 : W1.heap[n]? = some (.cells #[.int .i64 (j : Int)] 3) := by rw [← hW1]; exact blk_alloc (blk_alloc (blk_new _ hn.symm) _) _
        have k1 : W1.heap[n + 1]? = some (.cells #[.slice A L.length c] 22) := by rw [← hW1]; exact blk_alloc (blk_new _ (by simp [hn])) _
        have k2 : W1.heap[n + 1 + 1]? = some (.cells #[.int .u8 (j : Int)] 5) := by rw [← hW1]; exact blk_new _ (by simp [hn])
        rw [hW1, hn]
        have hmn : m < n := by rw [← hn]; exact blk_lt i2
        have hwn : w.heap.size ≤ n := by rw [← hn]; exact i4.size
        have hJ0 : AllJ L w g m n j ds [] W1 := ⟨k0, (hbW.block g (blk_lt i1)).trans i1, by
          show _ = some (Obj.cells (cntAt L j 0) _ _)
          rw [cntAt_zero L j hlt]; exact (hbW.block m (blk_lt i2)).trans i2, i3.keep (keeps_below23 hbW), below_via i4 hbW⟩
        have hA1 := keyA_lt HA.out
        have hAW : Rd W1 W1.heap.size 33 A L.length (enL L) := (HA.out.below (below_via i4 hbW)).more (below_via i4 hbW).size
        clear hW1
        refine wpIn_rangeFunc_ownG (F := Fence.wide) rfl (by decide) (gf := 35) (lb := #[.pointer (some ⟨n + 1, 0, none⟩), .pointer (some ⟨n + 1 + 1, 0, none⟩)]) rfl trivial (enters_of Tryz.func35 (by kernel_rfl) rfl)
          (fentries_stops 4 (by decide) (n + 1) (n + 1 + 1) L HO.out hLn A c (j : Int) W1 k1 k2 hAW) keepE_t (keepE_b (by omega) (by omega) (fun b off e => by have := hA1 b off e; omega)) (Below.refl _ _) (fun _ => rfl)
          (AllJ L w g m n j ds) (fun _ _ _ => False) (allJ_own i3 (by omega) (by omega)) (fun _ _ _ _ _ hs _ _ => hs) hJ0
          (fun x => { tmps := #[.slice A L.length c, undef, .int .i64 0, .pointer (some ⟨g, 0, none⟩), .int .i64 0, .int .i64 0, .int .i64 (notVoid L : Int), .pointer (some ⟨m, 0, none⟩), undef, u9, .pointer (some ⟨n, 0, none⟩), .slice A L.length c, .int .i64 0, .int .i64 0, .bool false, undef, undef, .agg #[.int .i64 0, .int .i64 0, .int .i64 0, .int .i64 0], .slice A L.length c, .int .i64 (L.length : Int), .int .i64 (L.length : Int), .bool false, u22, u23, u24, u25, u26, u27, u28, u29, .int .i64 (j : Int), .bool true, .int .i64 (j : Int), .slice A L.length c, .int .i64 (j : Int), .int .u8 (j : Int), .func (.func 35) #[] #[.pointer (some ⟨n + 1, 0, none⟩), .pointer (some ⟨n + 1 + 1, 0, none⟩)], .int .i64 (x.1.1 : Int), .agg (L[x.1.1]).C, undef, undef, undef, undef, undef, u44, undef, undef], defers := [] }) ?assign ?body ?done ?stop
        case assign =>
          intro l x W K hK
          gi_wp2
          exact hK
        case body =>
          rintro l pre x W2 hJ hlen
          have hwm : w.heap.size ≤ m ∧ g < m ∧ m < n ∧ m ≠ n + 1 ∧ m ≠ n + 1 + 1 ∧ ∀ b off, keyA L.length A = some ⟨b, off, none⟩ → b < w.heap.size := ⟨hwm0, hgm, hmn, by omega, by omega, hA1⟩
          have HJ := Lib.hid hJ
          obtain ⟨q0, q1, q2, q3, q4⟩ := hJ
          have c0 := blk_cell q0 0
          have c1 := (blk_cell q2 j).trans (cntAt_get L j pre.length hlt)
          have f1 := blk_free q2 j
          have hpl : (pre.length : Int) ≤ 1000000 := by have := itTo_len L (j : Int) L.length (Nat.le_refl _); unfold itAll at hlen; omega
          clear q0 q1 q2 q3 q4
          gi_wp2
          exact allJ_step HJ.out hwm
        case done =>
          rintro D ys W2 hD rfl ⟨q0, q1, q2, q3, q4⟩ hK
          rw [itAll_cnt, cntAt_full L j hlt] at q2
          have hnot : D ∉ ds := fun h => by
            have h1 := (Array.getElem?_eq_some_iff.1 (i3.2 D h).2).1
            omega
          have hI2 := Lib.hid (show AllI L w g m (j + 1) (D :: ds) W2 from ⟨by omega, q1, q2, q3.push hK (by omega) hnot, q4⟩)
          clear q0 q1 q2 q3 q4 hK hnot
          dsimp only
          gi_wp2
          refine ⟨⟨j + 1, D :: ds, _, _, _, _, _, _, _, _, rfl, hI2.out⟩, ?_⟩
          simp [intOf]
          omega
        case stop =>
          rintro D c pre W _ _ h _
          exact h.elim
      · obtain rfl : j = 4 := by omega
        obtain ⟨-, i1, i2, i3, i4⟩ := HAI.out
        have HE := Lib.hid (fun v0 v1 v2 v3 => allJ_end hgm i1 i3 i4 HG.out v0 v1 v2 v3)
        have q0 := blk_cell i2 0
        have q1 := blk_cell i2 1
        have q2 := blk_cell i2 2
        have q3 := blk_cell i2 3
        have z0 := blk_cell i1 0
        have z1 := blk_cell i1 1
        have z2 := blk_cell i1 2
        have z3 := blk_cell i1 3
        have f0 := blk_free i1 0
        have f1 := blk_free i1 1
        have f2 := blk_free i1 2
        have f3 := blk_free i1 3
        clear HAI i1 i2 i3 i4
        unfold cntTo at q0 q1 q2 q3
        gi_wp2
        gi_region
        gi_wp2
        obtain ⟨e1, e2, e3, e4⟩ := HE.out (.int .i64 (inField L 0 : Int)) (.int .i64 (inField L 1 : Int)) (.int .i64 (inField L 2 : Int)) (.int .i64 (inField L 3 : Int))
        have r0 := blk_cell e3 0
        have r1 := blk_cell e3 1
        have r2 := blk_cell e3 2
        have r3 := blk_cell e3 3
        refine leaves_marks ds _ e1 e2 ?_
        refine ⟨.tuple #[.int .i64 (notVoid L : Int), .agg (cntC L), .int .i64 0], ?_, rfl, e4⟩
        simp [results, Tryz.f8, go_sem, r0, r1, r2, r3, cntC]

end Go.Proofs.YtchklobblkddhaaGreatDoor
