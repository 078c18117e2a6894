/- The walk of choose. -/
import Derived.Laws.EntriesVeiled
import Derived.Sort.CutIn
import Derived.Test.YtilekdjjfdehcaaDoorParBids
import Derived.Test.YtilekdjjfdehcaaDoorParChT
import Derived.Test.YtilekdjjfdehcaaDoorRoundReg
namespace Go.Proofs.YtilekdjjfdehcaaDoor
open Go.RowKit Go.Shelf

attribute [local go_sem] Oper.semAt_some

theorem take_named {P : Program} {ops : Array Oper} {Q : Exit → Act → World → Prop} {md : Region.Mode} {S : World → Prop} {i d : Nat} {oi : Oper} {v : Value} {fuel : Nat} {listed : Array Bool} {a : Act} {w : World} (hi : ops[i]? = some oi) (hd : oi.dst = some d)
    (hs : Region.noSelect ops = true) (hf : Region.free md ops listed i = true) (hr : (Region.ready md ops listed).contains i = true)
    (hQ : ∀ c a w, Q (.panic c) (a.put (some d) v) w → Q (.panic c) a w) (hy : YieldsIf P ops S oi v a) (hS : S w)
    (h : wpAnyH P md ops Q S fuel (listed.setIfInBounds i true) (a.put (some d) v) w) : wpAnyH P md ops Q S (fuel + 1) listed a w := by
  rw [← hd] at h hQ
  exact wpAnyH_take hi hs hf hr hQ hy hS h
theorem dnTo_vals (k : Nat) (hk : k ≤ 35) : (dnTo k).map (·.1) = dnN k := by
  unfold dnTo dnN
  rw [List.map_map]
  apply List.map_congr_left
  intro j hj
  have := List.mem_range.1 hj
  show max 3 (37 - j) = 37 - j
  omega
theorem zero_choice : (Tryd.prog.info? 68).map (fun i => (i.zero, i.size)) = some (some (.agg #[.int .u8 0, .int .i64 0]), 2) := by kernel_rfl

/-- Between two rounds: what the variables of choose hold. -/
def ChI (w : World) (g n o s : Nat) (Y : Nat → Int) (pre : List Bid) (W : World) : Prop :=
  W.heap[n]? = some (.cells #[.pointer (some ⟨g, 0, none⟩)] 89 (0, 0)) ∧ W.heap[n + 1]? = some (.cells #[.int .u8 (s : Int)] 5 (0, 0)) ∧ W.heap[n + 1 + 1]? = some (.cells #[.int .u8 0, .int .i64 0] 68 (0, 0)) ∧ W.heap[n + 1 + 1 + 1]? = some (.cells #[.int .i64 (1 - 2 * (s : Int))] 3 (0, 0)) ∧
  W.heap[n + 1 + 1 + 1 + 1]? = some (.cells #[.func (.func 49) #[] #[.pointer (some ⟨n + 1 + 1 + 1, 0, none⟩)]] 90 (0, 0)) ∧ W.heap[n + 1 + 1 + 1 + 1 + 1]? = some (.cells #[.int .u8 ((topL Y s (pre.map (·.1))).1 : Int), .int .i64 (topL Y s (pre.map (·.1))).2] 68 (0, 0)) ∧
  W.heap[n + 1 + 1 + 1 + 1 + 1 + 1]? = some (.cells #[.bool (!pre.isEmpty)] 4 (0, 0)) ∧ W.heap[n + 1 + 1 + 1 + 1 + 1 + 1 + 1]? = some (.cells #[.int .u8 (o : Int)] 5 (0, 0)) ∧ Below n w W
theorem chI_own (w : World) (g n o s : Nat) (Y : Nat → Int) (B : Nat) (hn : n ≤ w.heap.size) (hB : n ≤ B) : OwnFrom B (ChI w g n o s Y) := by
  unfold ChI
  exact OwnFrom.and (blk_own B n _ (0, 0) (fun _ => _)) (OwnFrom.and (blk_own B (n + 1) _ (0, 0) (fun _ => _)) (OwnFrom.and (blk_own B (n + 1 + 1) _ (0, 0) (fun _ => _)) (OwnFrom.and (blk_own B (n + 1 + 1 + 1) _ (0, 0) (fun _ => _)) (OwnFrom.and (blk_own B (n + 1 + 1 + 1 + 1) _ (0, 0) (fun _ => _)) (OwnFrom.and (blk_own B _ _ (0, 0) _) (OwnFrom.and (blk_own B _ _ (0, 0) _) (OwnFrom.and (blk_own B (n + 1 + 1 + 1 + 1 + 1 + 1 + 1) _ (0, 0) (fun _ => _)) (ownFrom_below hn hB))))))))

/-- A round's end: the two stores. -/
theorem chI_step {w W1 : World} {g n o s : Nat} {Y : Nat → Int} {pre : List Bid} {x : Bid} {a b : Value} {z : Bool} (i0 : W1.heap[n]? = some (.cells #[.pointer (some ⟨g, 0, none⟩)] 89 (0, 0))) (i1 : W1.heap[n + 1]? = some (.cells #[.int .u8 (s : Int)] 5 (0, 0)))
    (i2 : W1.heap[n + 1 + 1]? = some (.cells #[.int .u8 0, .int .i64 0] 68 (0, 0))) (i3 : W1.heap[n + 1 + 1 + 1]? = some (.cells #[.int .i64 (1 - 2 * (s : Int))] 3 (0, 0)))
    (i4 : W1.heap[n + 1 + 1 + 1 + 1]? = some (.cells #[.func (.func 49) #[] #[.pointer (some ⟨n + 1 + 1 + 1, 0, none⟩)]] 90 (0, 0)))
    (i5 : W1.heap[n + 1 + 1 + 1 + 1 + 1]? = some (.cells #[a, b] 68 (0, 0))) (i6 : W1.heap[n + 1 + 1 + 1 + 1 + 1 + 1]? = some (.cells #[.bool z] 4 (0, 0)))
    (i7 : W1.heap[n + 1 + 1 + 1 + 1 + 1 + 1 + 1]? = some (.cells #[.int .u8 (o : Int)] 5 (0, 0))) (hB : Below n w W1) (c : Nat × Int) (hc : topL Y s ((pre ++ [x]).map (·.1)) = c) :
    ChI w g n o s Y (pre ++ [x]) (((W1.setCell ⟨n + 1 + 1 + 1 + 1 + 1, 0, none⟩ (.int .u8 (c.1 : Int))).setCell ⟨n + 1 + 1 + 1 + 1 + 1, 1, none⟩ (.int .i64 c.2)).setCell ⟨n + 1 + 1 + 1 + 1 + 1 + 1, 0, none⟩ (.bool true)) := by
  have far : ∀ {k : Nat} {ob : Option Obj}, W1.heap[k]? = ob → k ≠ n + 1 + 1 + 1 + 1 + 1 → k ≠ n + 1 + 1 + 1 + 1 + 1 + 1 → (((W1.setCell ⟨n + 1 + 1 + 1 + 1 + 1, 0, none⟩ (.int .u8 (c.1 : Int))).setCell ⟨n + 1 + 1 + 1 + 1 + 1, 1, none⟩ (.int .i64 c.2)).setCell ⟨n + 1 + 1 + 1 + 1 + 1 + 1, 0, none⟩ (.bool true)).heap[k]? = ob :=
    fun h h1 h2 => blk_far (blk_far (blk_far h h1 _) h1 _) h2 _
  unfold ChI
  rw [hc]
  refine ⟨far i0 (by omega) (by omega), far i1 (by omega) (by omega), far i2 (by omega) (by omega), far i3 (by omega) (by omega), far i4 (by omega) (by omega), ?_, ?_, far i7 (by omega) (by omega), ?_⟩
  · exact blk_far (blk_set (blk_set i5 0 _) 1 _) (by show n + 1 + 1 + 1 + 1 + 1 ≠ n + 1 + 1 + 1 + 1 + 1 + 1; omega) _
  · have := blk_set (blk_far (blk_far i6 (p := ⟨n + 1 + 1 + 1 + 1 + 1, 0, none⟩) (by show n + 1 + 1 + 1 + 1 + 1 + 1 ≠ n + 1 + 1 + 1 + 1 + 1; omega) (.int .u8 (c.1 : Int))) (p := ⟨n + 1 + 1 + 1 + 1 + 1, 1, none⟩) (by show n + 1 + 1 + 1 + 1 + 1 + 1 ≠ n + 1 + 1 + 1 + 1 + 1; omega) (.int .i64 c.2)) 0 (.bool true)
    rw [this]
    simp
  · exact ((hB.setCell (p := ⟨n + 1 + 1 + 1 + 1 + 1, 0, none⟩) (by show n ≤ n + 1 + 1 + 1 + 1 + 1; omega) _).setCell (p := ⟨n + 1 + 1 + 1 + 1 + 1, 1, none⟩) (by show n ≤ n + 1 + 1 + 1 + 1 + 1; omega) _).setCell (p := ⟨n + 1 + 1 + 1 + 1 + 1 + 1, 0, none⟩) (by show n ≤ n + 1 + 1 + 1 + 1 + 1 + 1; omega) _
theorem keepB_step {W W1 : World} {n : Nat} (h : KeepB (n + 1 + 1 + 1 + 1 + 1 + 1 + 1) W W1) (u v z : Value) : KeepB (n + 1 + 1 + 1 + 1 + 1 + 1 + 1) W (((W1.setCell ⟨n + 1 + 1 + 1 + 1 + 1, 0, none⟩ u).setCell ⟨n + 1 + 1 + 1 + 1 + 1, 1, none⟩ v).setCell ⟨n + 1 + 1 + 1 + 1 + 1 + 1, 0, none⟩ z) :=
  blk_far (blk_far (blk_far h (by show n + 1 + 1 + 1 + 1 + 1 + 1 + 1 ≠ n + 1 + 1 + 1 + 1 + 1; omega) _) (by show n + 1 + 1 + 1 + 1 + 1 + 1 + 1 ≠ n + 1 + 1 + 1 + 1 + 1; omega) _) (by show n + 1 + 1 + 1 + 1 + 1 + 1 + 1 ≠ n + 1 + 1 + 1 + 1 + 1 + 1; omega) _
theorem keeps_step {W W1 : World} (h : KeepsOthers W W1) (p q t : Addr) (u v z : Value) : KeepsOthers W (((W1.setCell p u).setCell q v).setCell t z) :=
  ((h.trans (KeepsOthers.setCell _ _ _)).trans (KeepsOthers.setCell _ _ _)).trans (KeepsOthers.setCell _ _ _)

/-- The end of a function behind a loop over a function: a result of two cells. -/
theorem end_two {w W : World} {n b D t : Nat} (hn : w.heap.size = n) (hB : Below n w W) (hD : n ≤ D) (hb : n ≤ b) (hK : W.heap[D]? = some (.deferred (some []))) {z0 z1 u v : Value} (hbk : W.heap[b]? = some (.cells #[z0, z1] t (0, 0))) :
    ((W.setCell ⟨b, 0, none⟩ u).setCell ⟨b, 1, none⟩ v).heap[D]? = some (.deferred (some [])) ∧ (((W.setCell ⟨b, 0, none⟩ u).setCell ⟨b, 1, none⟩ v).putObj D (.deferred none)).cell? ⟨b, 0, none⟩ = some u ∧
    (((W.setCell ⟨b, 0, none⟩ u).setCell ⟨b, 1, none⟩ v).putObj D (.deferred none)).cell? ⟨b, 1, none⟩ = some v ∧ Below w.heap.size w (((W.setCell ⟨b, 0, none⟩ u).setCell ⟨b, 1, none⟩ v).putObj D (.deferred none)) := by
  have hK' := ((KeepsOthers.setCell W ⟨b, 0, none⟩ u).trans (KeepsOthers.setCell _ ⟨b, 1, none⟩ v)).same D _ hK rfl
  have hbk' := blk_set (blk_set hbk 0 u) 1 v
  refine ⟨hK', ?_, ?_, ?_⟩
  · exact cell_kept (blk_cell hbk' 0) (grownBy_putObj' _ D (.deferred none)) (fun r e => by cases e; exact ⟨_, hK', rfl⟩)
  · exact cell_kept (blk_cell hbk' 1) (grownBy_putObj' _ D (.deferred none)) (fun r e => by cases e; exact ⟨_, hK', rfl⟩)
  · rw [hn]
    exact ((hB.setCell (p := ⟨b, 0, none⟩) hb _).setCell (p := ⟨b, 1, none⟩) hb _).trans (belowK_b (n₀ := n) (w := w) (by omega) _ D _ _ (by omega) hK' rfl rfl)

set_option maxRecDepth 100000 in
set_option maxHeartbeats 2000000 in
theorem choose_any (C : Array Value) (Q : Nat → Nat → Nat × Int) (hC : BesC C Q) (hQ : okQ Q) (o s : Nat) (ho : 2 ≤ o ∧ o ≤ 37) (hs : s ≤ 1) (p : Int) (hp : -10000 ≤ p ∧ p ≤ 10000) (g : Nat) (t : Nat) (fr : Nat × Nat) (w : World) (hg : w.heap[g]? = some (.cells C t fr)) :
    Calls Tryd.prog 32 #[.pointer (some ⟨g, 0, none⟩), .int .u8 (o : Int), .int .u8 (s : Int), .int .i64 p] w fun e w' => e = .returned (chV (chQ Q o s p)) ∧ Below w.heap.size w w' := by
  obtain ⟨R, hR⟩ : ∃ R, chQ Q o s p = R := ⟨_, rfl⟩
  rw [hR]
  have HR := Lib.hid hR
  clear hR
  refine (callsIn_wide (n := 5)).1 ?_
  refine callsIn_of_wp_marks Tryd.func32 rfl trivial ?_ rfl
  simp only [Tryd.ntmps32, List.size_toArray, List.length_cons, List.length_nil, Nat.reduceAdd, Nat.reduceSub, Array.replicate_succ, Array.replicate_zero, List.push_toArray, List.append_toArray, List.nil_append, List.cons_append]
  have HBt := Lib.hid (fun W => better_any s hs W)
  have HBd := Lib.hid (fun W => bids_any o W)
  gi_wp2_with fail
  refine ⟨trivial, (callsIn_wide.2 (HBt.out _)).mono ?_⟩
  rintro e w' ⟨rfl, rfl⟩
  gi_wp2_with fail
  refine ⟨trivial, (callsIn_wide.2 (HBd.out _)).mono ?_⟩
  rintro e w' ⟨rfl, rfl⟩
  gi_wp2_with fail
  obtain ⟨n, hn⟩ : ∃ n, w.heap.size = n := ⟨_, rfl⟩
  rw [hn]
  obtain ⟨W0, hW0⟩ : ∃ W0, ((((((((w.alloc (.cells #[.pointer (some ⟨g, 0, none⟩)] 89)).alloc (.cells #[.int .u8 (s : Int)] 5)).alloc (.cells #[.int .u8 0, .int .i64 0] 68)).alloc (.cells #[.int .i64 (1 - 2 * (s : Int))] 3)).alloc
    (.cells #[.func (.func 49) #[] #[.pointer (some ⟨n + 1 + 1 + 1, 0, none⟩)]] 90)).alloc (.cells #[.int .u8 0, .int .i64 0] 68)).alloc (.cells #[.bool false] 4)).alloc (.cells #[.int .u8 (o : Int)] 5)) = W0 := ⟨_, rfl⟩
  rw [hW0]
  have kn : ∀ i, i < 8 → n + i < W0.heap.size := fun i hi => by rw [← hW0]; simp; omega
  have hI0 : ChI w g n o s (fun b => (Q b (1 - s)).2) [] W0 := by
    rw [← hW0]
    refine ⟨?_, ?_, ?_, ?_, ?_, ?_, ?_, ?_, ?_⟩
    · repeat (first | exact blk_new _ hn.symm | refine blk_alloc ?_ _)
    · repeat (first | exact blk_new _ (by simp; omega) | refine blk_alloc ?_ _)
    · repeat (first | exact blk_new _ (by simp; omega) | refine blk_alloc ?_ _)
    · repeat (first | exact blk_new _ (by simp; omega) | refine blk_alloc ?_ _)
    · repeat (first | exact blk_new _ (by simp; omega) | refine blk_alloc ?_ _)
    · repeat (first | exact blk_new _ (by simp; omega) | refine blk_alloc ?_ _)
    · repeat (first | exact blk_new _ (by simp; omega) | refine blk_alloc ?_ _)
    · repeat (first | exact blk_new _ (by simp; omega) | refine blk_alloc ?_ _)
    · rw [← hn]; exact (by repeat (first | exact Below.refl _ _ | assumption | refine Below.drew ?_ | refine below_drewN ?_ _ | refine Below.alloc ?_ (by first | omega | (simp; done) | (simp; omega)) _ | refine Below.setCell ?_ (by first | omega | (simp; done) | (simp; omega)) _))
  have hk7 : W0.heap[n + 1 + 1 + 1 + 1 + 1 + 1 + 1]? = some (.cells #[.int .u8 (o : Int)] 5) := by rw [← hW0]; exact blk_new _ (by simp; omega)
  have hn0 : n ≤ w.heap.size := by omega
  have hsz : n + 8 ≤ W0.heap.size := by have := kn 7 (by omega); omega
  have hgn : g < n := by rw [← hn]; exact blk_lt hg
  clear hW0 kn
  refine wpIn_rangeFunc_ownG (F := Fence.wide) rfl (by decide) (gf := 48) (lb := #[.pointer (some ⟨n + 1 + 1 + 1 + 1 + 1 + 1 + 1, 0, none⟩)]) rfl trivial (enters_of Tryd.func48 (by kernel_rfl) rfl)
    (bids_stops Fence.wide 4 trivial rfl (by decide) (n + 1 + 1 + 1 + 1 + 1 + 1 + 1) o ho W0 (by omega) (blk_cell hk7 0)) keepB_t (keepB_b (by omega)) (Below.refl _ _) (fun _ => rfl)
    (ChI w g n o s (fun b => (Q b (1 - s)).2)) (fun _ _ _ => False) (chI_own w g n o s _ _ hn0 (by omega)) (fun _ _ _ _ _ hs _ _ => hs) hI0
    (fun x => { tmps := #[.pointer (some ⟨g, 0, none⟩), .int .u8 (o : Int), .int .u8 (s : Int), .int .i64 p, .pointer (some ⟨n, 0, none⟩), undef, .pointer (some ⟨n + 1, 0, none⟩), undef, .pointer (some ⟨n + 1 + 1, 0, none⟩), .pointer (some ⟨n + 1 + 1 + 1 + 1, 0, none⟩), .pointer (some ⟨n + 1 + 1 + 1 + 1 + 1, 0, none⟩), .pointer (some ⟨n + 1 + 1 + 1 + 1 + 1 + 1, 0, none⟩), .int .u8 (x.1 : Int), undef, .int .u8 (s : Int), .func (.func 49) #[] #[.pointer (some ⟨n + 1 + 1 + 1, 0, none⟩)], .agg #[.int .u8 0, .int .i64 0], .int .u8 (o : Int), .func (.func 48) #[] #[.pointer (some ⟨n + 1 + 1 + 1 + 1 + 1 + 1 + 1, 0, none⟩)], .int .u8 (x.1 : Int), undef, undef, undef, undef, undef, undef, undef, undef, undef, undef, undef, undef, undef, undef, undef, undef, undef, undef, undef, undef, undef, undef, undef, undef, undef, undef], defers := [] }) ?assign ?body ?done ?stop
  case assign =>
    intro l x W K hK
    gi_wp2
    exact hK
  case body =>
    rintro l pre x W ⟨i0, i1, i2, i3, i4, i5, i6, i7, hB⟩ hlen
    dsimp only
    obtain ⟨x, hx3, hx37⟩ := x
    dsimp only
    obtain ⟨r, hr⟩ : ∃ r, r = 1 - s := ⟨_, rfl⟩
    have hr1 : (1 : Int) - (s : Int) = (r : Int) := by omega
    have hrb : r ≤ 1 := by omega
    rw [← hr] at i5 ⊢
    have kg := (hB.block g hgn).trans hg
    have cg := (blk_cell kg (x * 4 + r * 2 + 1)).trans (hC.2.2 x r hx37 hrb).2
    have hyb := (hQ x r).2
    have ht2 := topL_snoc (fun b => (Q b r).2) s (pre.map (·.1)) x
    have htb := topL_bd (fun b => (Q b r).2) (fun b => (hQ b r).2) s (pre.map (·.1))
    have c0 := blk_cell i0 0
    have c1 := blk_cell i1 0
    have l0 := blk_lt i0
    have l1 := blk_lt i1
    have l2 := blk_lt kg
    generalize hy : (Q x r).2 = y at cg hyb ht2
    generalize topL (fun b => (Q b r).2) s (pre.map (·.1)) = T at i5 ht2 htb
    have Ht2 := Lib.hid ht2
    have Hr := Lib.hid hr
    have HB := Lib.hid hB
    have I0 := Lib.hid i0
    have I1 := Lib.hid i1
    have I2 := Lib.hid i2
    have I3 := Lib.hid i3
    have I4 := Lib.hid i4
    have I5 := Lib.hid i5
    have I6 := Lib.hid i6
    have I7 := Lib.hid i7
    clear ht2 hr hB i0 i1 i2 i3 i4 i5 i6 i7 kg hk7 hI0 hy hg hC hQ HBt HBd hp hn
    have hwr : IntKind.u8.wrap (1 - (s : Int)) = (r : Int) := by rw [hr1]; exact IntWalk.u8_in _ (by omega)
    have hx38 : (x : Int) < 38 := by omega
    have hr2 : (r : Int) < 2 := by omega
    have hr0 : (0 : Int) ≤ (r : Int) := by omega
    have hx0 : (0 : Int) ≤ (x : Int) := by omega
    clear hr1
    have hmx : Tryd.prog.follows .mixedOrders = true := by kernel_rfl
    gi_wp2
    refine region_round (S := (fun w1 => w1.cell? ⟨n, 0, none⟩ = some (.pointer (some ⟨g, 0, none⟩)) ∧ w1.cell? ⟨n + 1, 0, none⟩ = some (.int .u8 (s : Int)) ∧ w1.cell? ⟨g, x * 4 + r * 2 + 1, none⟩ = some (.int .i64 y))) hmx (by kernel_rfl) (fun ⟨_, _, h⟩ => h) ⟨c0, c1, cg⟩ (fun hHeld => ?_)
    refine take_named (i := 0) (d := 20) (v := ?v0) rfl (by kernel_rfl) (by kernel_rfl) (by kernel_rfl) (by kernel_rfl) (fun _ _ _ h => h) (Or.inl ⟨by kernel_rfl, ?y0⟩) (by assumption) ?_
    case y0 => intro wq hSw; (try dsimp only at hSw); go_simp; (try with_reducible rfl)
    (try simp only [Act.put, List.setIfInBounds_toArray, List.set_cons_zero, List.set_cons_succ])
    refine take_named (i := 1) (d := 21) (v := ?v1) rfl (by kernel_rfl) (by kernel_rfl) (by kernel_rfl) (by kernel_rfl) (fun _ _ _ h => h) (Or.inl ⟨by kernel_rfl, ?y1⟩) (by assumption) ?_
    case y1 => intro wq hSw; (try dsimp only at hSw); go_simp; (try with_reducible rfl)
    (try simp only [Act.put, List.setIfInBounds_toArray, List.set_cons_zero, List.set_cons_succ])
    refine take_named (i := 2) (d := 22) (v := ?v2) rfl (by kernel_rfl) (by kernel_rfl) (by kernel_rfl) (by kernel_rfl) (fun _ _ _ h => h) (Or.inl ⟨by kernel_rfl, ?y2⟩) (by assumption) ?_
    case y2 => intro wq hSw; (try dsimp only at hSw); go_simp; (try with_reducible rfl)
    (try simp only [Act.put, List.setIfInBounds_toArray, List.set_cons_zero, List.set_cons_succ])
    refine take_named (i := 3) (d := 23) (v := ?v3) rfl (by kernel_rfl) (by kernel_rfl) (by kernel_rfl) (by kernel_rfl) (fun _ _ _ h => h) (Or.inl ⟨by kernel_rfl, ?y3⟩) (by assumption) ?_
    case y3 => intro wq hSw; (try dsimp only at hSw); go_simp; (try with_reducible rfl)
    (try simp only [Act.put, List.setIfInBounds_toArray, List.set_cons_zero, List.set_cons_succ])
    refine take_named (i := 4) (d := 24) (v := ?v4) rfl (by kernel_rfl) (by kernel_rfl) (by kernel_rfl) (by kernel_rfl) (fun _ _ _ h => h) (Or.inl ⟨by kernel_rfl, ?y4⟩) (by assumption) ?_
    case y4 => intro wq hSw; (try dsimp only at hSw); go_simp; (try with_reducible rfl)
    (try simp only [Act.put, List.setIfInBounds_toArray, List.set_cons_zero, List.set_cons_succ])
    refine take_named (i := 5) (d := 25) (v := ?v5) rfl (by kernel_rfl) (by kernel_rfl) (by kernel_rfl) (by kernel_rfl) (fun _ _ _ h => h) (Or.inl ⟨by kernel_rfl, ?y5⟩) (by assumption) ?_
    case y5 => intro wq hSw; (try dsimp only at hSw); go_simp; (try with_reducible rfl)
    (try simp only [Act.put, List.setIfInBounds_toArray, List.set_cons_zero, List.set_cons_succ])
    refine take_named (i := 6) (d := 26) (v := ?v6) rfl (by kernel_rfl) (by kernel_rfl) (by kernel_rfl) (by kernel_rfl) (fun _ _ _ h => h) (Or.inl ⟨by kernel_rfl, ?y6⟩) (by assumption) ?_
    case y6 => intro wq hSw; (try dsimp only at hSw); go_simp; (try with_reducible rfl)
    (try simp only [Act.put, List.setIfInBounds_toArray, List.set_cons_zero, List.set_cons_succ])
    refine take_named (i := 7) (d := 27) (v := ?v7) rfl (by kernel_rfl) (by kernel_rfl) (by kernel_rfl) (by kernel_rfl) (fun _ _ _ h => h) (Or.inl ⟨by kernel_rfl, ?y7⟩) (by assumption) ?_
    case y7 => intro wq hSw; (try dsimp only at hSw); go_simp; (try with_reducible rfl)
    (try simp only [Act.put, List.setIfInBounds_toArray, List.set_cons_zero, List.set_cons_succ])
    refine take_named (i := 8) (d := 28) (v := ?v8) rfl (by kernel_rfl) (by kernel_rfl) (by kernel_rfl) (by kernel_rfl) (fun _ _ _ h => h) (Or.inl ⟨by kernel_rfl, ?y8⟩) (by assumption) ?_
    case y8 => intro wq hSw; (try dsimp only at hSw); go_simp; (try with_reducible rfl)
    (try simp only [Act.put, List.setIfInBounds_toArray, List.set_cons_zero, List.set_cons_succ])
    refine take_named (i := 9) (d := 29) (v := ?v9) rfl (by kernel_rfl) (by kernel_rfl) (by kernel_rfl) (by kernel_rfl) (fun _ _ _ h => h) (Or.inl ⟨by kernel_rfl, ?y9⟩) (by assumption) ?_
    case y9 => intro wq hSw; (try dsimp only at hSw); go_simp; (try with_reducible rfl)
    (try simp only [Act.put, List.setIfInBounds_toArray, List.set_cons_zero, List.set_cons_succ])
    refine take_named (i := 10) (d := 30) (v := ?v10) rfl (by kernel_rfl) (by kernel_rfl) (by kernel_rfl) (by kernel_rfl) (fun _ _ _ h => h) (Or.inl ⟨by kernel_rfl, ?y10⟩) (by assumption) ?_
    case y10 => intro wq hSw; (try dsimp only at hSw); go_simp; (try with_reducible rfl)
    (try simp only [Act.put, List.setIfInBounds_toArray, List.set_cons_zero, List.set_cons_succ])
    have hbx : ∀ cs : Array Value, Below W.heap.size W ((W.alloc (.cells cs 68)).drew) := fun cs => ((Below.refl _ _).alloc (Nat.le_refl _) _).drew
    have HSn := Lib.hid (fun cs : Array Value => (show ((W.alloc (.cells cs 68)).drew).cell? ⟨n, 0, none⟩ = some (.pointer (some ⟨g, 0, none⟩)) ∧ ((W.alloc (.cells cs 68)).drew).cell? ⟨n + 1, 0, none⟩ = some (.int .u8 (s : Int)) ∧ ((W.alloc (.cells cs 68)).drew).cell? ⟨g, x * 4 + r * 2 + 1, none⟩ = some (.int .i64 y) from
      ⟨keepB0 (hbx cs) l0 c0, keepB0 (hbx cs) l1 c1, keepB0 (hbx cs) l2 cg⟩))
    have Hbx := Lib.hid hbx
    clear hbx
    refine wpAnyH_ready (rs := [11]) (by kernel_rfl) (by simp) ?_
    refine AllReadyH.cons rfl (fun K hK => ?_) AllReadyH.nil
    go_simp
    refine hK.out _ _ (HSn.out _) (fun hHeld1 => ?_)
    clear hK K hHeld
    (try simp only [Act.put, List.setIfInBounds_toArray, List.set_cons_zero, List.set_cons_succ])
    refine wpAnyH_ready (rs := [12]) (by kernel_rfl) (by simp) ?_
    refine AllReadyH.cons rfl (fun K hK => ?_) AllReadyH.nil
    go_simp
    refine hK.out _ _ (HSn.out _) (fun hHeld2 => ?_)
    clear hK K hHeld1 hHeld2
    (try simp only [Act.put, List.setIfInBounds_toArray, List.set_cons_zero, List.set_cons_succ])
    refine wpAnyH_done (by kernel_rfl) ?_ _
    obtain ⟨m, hm⟩ : ∃ m, W.heap.size = m := ⟨_, rfl⟩
    obtain ⟨W1, hW1⟩ : ∃ W1, (W.alloc (.cells #[.int .u8 (x : Int), .int .i64 y] 68)).drew = W1 := ⟨_, rfl⟩
    rw [hW1, hm]
    have hb1 : Below W.heap.size W W1 := by rw [← hW1]; exact Hbx.out _
    have M1 := Lib.hid (show W1.heap[m]? = some (.cells #[.int .u8 (x : Int), .int .i64 y] 68) by rw [← hW1]; exact blk_new _ hm.symm)
    clear hW1 HSn Hbx c0 c1 cg hwr
    have KK := Lib.hid (keeps_below hb1)
    have J0 := Lib.hid (blk_below I0.out hb1 (blk_lt I0.out))
    have J1 := Lib.hid (blk_below I1.out hb1 (blk_lt I1.out))
    have J2 := Lib.hid (blk_below I2.out hb1 (blk_lt I2.out))
    have J3 := Lib.hid (blk_below I3.out hb1 (blk_lt I3.out))
    have J4 := Lib.hid (blk_below I4.out hb1 (blk_lt I4.out))
    have J5 := Lib.hid (blk_below I5.out hb1 (blk_lt I5.out))
    have J6 := Lib.hid (blk_below I6.out hb1 (blk_lt I6.out))
    have J7 := Lib.hid (blk_below I7.out hb1 (blk_lt I7.out))
    have c6 := blk_cell J6.out 0
    have HB1 := Lib.hid (HB.out.trans (hb1.mono (by have := HB.out.size; omega)))
    have K7 := Lib.hid (show KeepB (n + 1 + 1 + 1 + 1 + 1 + 1 + 1) W W1 from hb1.block _ (blk_lt I7.out))
    by_cases hpre : pre = []
    · subst hpre
      have a0 := blk_cell M1.out 0
      have a1 := blk_cell M1.out 1
      have t0 := blk_cell J5.out 0
      have t1 := blk_cell J5.out 1
      have f0 := blk_free J5.out 0
      have f1 := blk_free J5.out 1
      have f2 := blk_free J6.out 0
      clear hb1
      gi_wp2
      exact ⟨(keeps_step KK.out _ _ _ _ _ _).from _, keepB_step K7.out _ _ _, chI_step J0.out J1.out J2.out J3.out J4.out J5.out J6.out J7.out HB1.out (x, y) (by rw [List.map_append]; exact Ht2.out.trans (if_pos rfl))⟩
    · have he : pre.isEmpty = false := by simpa using hpre
      have hmn : n + 1 + 1 + 1 + 1 + 1 + 1 + 1 < m := by rw [← hm]; exact blk_lt I7.out
      have c4 := blk_cell J4.out 0
      have t0 := blk_cell J5.out 0
      have t1 := blk_cell J5.out 1
      have a0 := blk_cell M1.out 0
      have a1 := blk_cell M1.out 1
      have HBe := Lib.hid (fun W h1 h2 => better1_any s hs T (x, y) htb hyb (n + 1 + 1 + 1) W h1 h2)
      have Hc := Lib.hid (show topL (fun b => (Q b r).2) s ((pre ++ [(⟨x, hx3, hx37⟩ : Bid)]).map (·.1)) = pickC s T (x, y) by rw [List.map_append]; exact Ht2.out.trans (if_neg (fun e => hpre (List.map_eq_nil_iff.1 e))))
      generalize pickC s T (x, y) = c at HBe Hc
      unfold chV at HBe
      dsimp only at HBe
      clear hb1 hpre
      gi_wp2_with fail
      refine ⟨trivial, (CallsIn.inRound l (callsIn_wide.2 (HBe.out _ (blk_cell J3.out 0) (blk_lt J3.out)))).mono ?_⟩
      rintro e w3 ⟨rfl, hb3⟩
      obtain ⟨W4, hW4⟩ : ∃ W4, (w3.setCell ⟨m, 0, none⟩ (.int .u8 (c.1 : Int))).setCell ⟨m, 1, none⟩ (.int .i64 c.2) = W4 := ⟨_, rfl⟩
      have M3 := blk_below M1.out hb3 (blk_lt M1.out)
      have far : ∀ {k : Nat} {ob : Obj}, W1.heap[k]? = some ob → k < m → W4.heap[k]? = some ob := fun h1 h2 => by
        rw [← hW4]
        exact blk_far (blk_far (blk_below h1 hb3 (by have := (Array.getElem?_eq_some_iff.1 h1).1; omega)) (by show _ ≠ m; omega) _) (by show _ ≠ m; omega) _
      have J0 := Lib.hid (far J0.out (by omega))
      have J1 := Lib.hid (far J1.out (by omega))
      have J2 := Lib.hid (far J2.out (by omega))
      have J3 := Lib.hid (far J3.out (by omega))
      have J4 := Lib.hid (far J4.out (by omega))
      have J5 := Lib.hid (far J5.out (by omega))
      have J6 := Lib.hid (far J6.out (by omega))
      have J7 := Lib.hid (far J7.out (by omega))
      have K7 := Lib.hid (show KeepB (n + 1 + 1 + 1 + 1 + 1 + 1 + 1) W W4 from J7.out.trans I7.out.symm)
      have KK := Lib.hid (show KeepsOthers W W4 by rw [← hW4]; exact ((KK.out.trans (keeps_below hb3)).trans (KeepsOthers.setCell _ _ _)).trans (KeepsOthers.setCell _ _ _))
      have HB1 := Lib.hid (show Below n w W4 by
        rw [← hW4]
        exact ((HB1.out.trans (hb3.mono (by have := HB1.out.size; omega))).setCell (p := ⟨m, 0, none⟩) (by show n ≤ m; omega) _).setCell (p := ⟨m, 1, none⟩) (by show n ≤ m; omega) _)
      have M4 := Lib.hid (show W4.heap[m]? = some (.cells #[.int .u8 (c.1 : Int), .int .i64 c.2] 68) by rw [← hW4]; exact blk_set (blk_set M3 0 _) 1 _)
      have m0 := blk_cell M3 0
      have m1 := blk_cell M3 1
      have f0 := blk_free M3 0
      have f1 := blk_free M3 1
      clear a0 a1 t0 t1 c4 hb3 M3 far
      gi_upto_region 8 with fail
      clear hW4 m0 m1 f0 f1
      have a0 := blk_cell M4.out 0
      have a1 := blk_cell M4.out 1
      have t0 := blk_cell J5.out 0
      have t1 := blk_cell J5.out 1
      have c6 := blk_cell J6.out 0
      have f0 := blk_free J5.out 0
      have f1 := blk_free J5.out 1
      have f2 := blk_free J6.out 0
      gi_wp2
      exact ⟨(keeps_step KK.out _ _ _ _ _ _).from _, keepB_step K7.out _ _ _, chI_step J0.out J1.out J2.out J3.out J4.out J5.out J6.out J7.out HB1.out c Hc.out⟩
  case done =>
    rintro D ys W hD rfl ⟨i0, i1, i2, i3, i4, i5, i6, i7, hB⟩ hK
    dsimp only
    rw [dnTo_vals (37 - o) (by omega)] at i5
    have HQe := Lib.hid (show R = if 37 ≤ o then (0, p) else pickC s (topL (fun b => (Q b (1 - s)).2) s (dnN (37 - o))) (0, p) from HR.out.symm)
    have htb := topL_bd (fun b => (Q b (1 - s)).2) (fun b => (hQ b (1 - s)).2) s (dnN (37 - o))
    generalize topL (fun b => (Q b (1 - s)).2) s (dnN (37 - o)) = T at i5 HQe htb
    have HB := Lib.hid hB
    have I2 := Lib.hid i2
    have I3 := Lib.hid i3
    have HK := Lib.hid hK
    have HD := Lib.hid hD
    have Hsz := Lib.hid hsz
    have c6 := blk_cell i6 0
    by_cases ho37 : o = 37
    · have he : (dnTo (37 - o)).isEmpty = true := by rw [ho37]; rfl
      obtain rfl : R = (0, p) := by rw [HQe.out, if_pos (by omega)]
      have c20 := blk_cell i2 0
      have c21 := blk_cell i2 1
      have f20 := blk_free i2 0
      have f21 := blk_free i2 1
      clear i0 i1 i2 i3 i4 i5 i6 i7 hK hB hk7 hI0 hg hC hQ HBt HBd ho37 HQe HR hD hsz
      have hE := end_two hn HB.out (by have := HD.out; have := Hsz.out; omega) (b := n + 1 + 1) (by omega) HK.out I2.out (u := .int .u8 0) (v := .int .i64 p)
      have HE := Lib.hid hE
      clear hE
      gi_wp2
      obtain ⟨e1, e2, e3, e4⟩ := HE.out
      refine ⟨by simp, .inl ⟨_, _, rfl, run_takeDeferred e1, ?_⟩⟩
      refine ⟨chV (0, p), ?_, rfl, e4⟩
      simp [results, Tryd.f32, go_sem, e2, e3, chV]
    · have he : (dnTo (37 - o)).isEmpty = false := by
        cases hq : dnTo (37 - o) with
        | nil => have := dnTo_len (37 - o); rw [hq] at this; simp at this; omega
        | cons => rfl
      have HBe := Lib.hid (fun W h1 h2 => better1_any s hs T (0, p) htb hp (n + 1 + 1 + 1) W h1 h2)
      have e2 : pickC s T (0, p) = R := by rw [HQe.out, if_neg (by omega)]
      rw [e2] at HBe
      unfold chV at HBe
      dsimp only at HBe
      have c4 := blk_cell i4 0
      have t0 := blk_cell i5 0
      have t1 := blk_cell i5 1
      clear i0 i1 i2 i3 i4 i5 i6 i7 hK hB hk7 hI0 hg hC hQ HBt HBd e2 ho37 HQe HR hD hsz
      gi_wp2_with fail
      refine ⟨trivial, (callsIn_wide.2 (HBe.out _ (blk_cell I3.out 0) (blk_lt I3.out))).mono ?_⟩
      rintro e w3 ⟨rfl, hb3⟩
      have HB := Lib.hid (HB.out.trans (hb3.mono (by have := HB.out.size; omega)))
      have HK := Lib.hid (blk_below HK.out hb3 (Array.getElem?_eq_some_iff.1 HK.out).1)
      have I2 := Lib.hid (blk_below I2.out hb3 (blk_lt I2.out))
      have HE := Lib.hid (end_two hn HB.out (by have := HD.out; have := Hsz.out; omega) (b := n + 1 + 1) (by omega) HK.out I2.out (u := .int .u8 (R.1 : Int)) (v := .int .i64 R.2))
      have c20 := blk_cell I2.out 0
      have c21 := blk_cell I2.out 1
      have f20 := blk_free I2.out 0
      have f21 := blk_free I2.out 1
      clear hb3 c4 t0 t1 c6
      gi_wp2
      obtain ⟨e1, e2, e3, e4⟩ := HE.out
      refine ⟨by simp, .inl ⟨_, _, rfl, run_takeDeferred e1, ?_⟩⟩
      refine ⟨chV R, ?_, rfl, e4⟩
      simp [results, Tryd.f32, go_sem, e2, e3, chV]
  case stop =>
    rintro D c pre W _ _ h _
    exact h.elim

end Go.Proofs.YtilekdjjfdehcaaDoor
