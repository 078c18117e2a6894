/- The walk of foul.compare. -/
import Derived.Test.YtchklobblkddhaaGreatDoorFouVal
import Derived.Test.YtchklobblkddhaaGreatDoorNeuW
import Derived.Test.YtchklobblkddhaaGreatDoorAdjSideW2
import Derived.Laws.EntriesVeiled
namespace Go.Proofs.YtchklobblkddhaaGreatDoor
open Go.RowKit Go.Shelf

attribute [local go_sem] Oper.semAt_some

/-- Between two rounds of the first loop. -/
def CmpI (L : List Ent) (f vul : Int) (A : Option Addr) (c g cg n : Nat) (w : World) (pre : List (Sel L f)) (W : World) : Prop :=
  W.heap[n]? = some (.cells #[.int .u8 vul] 5 (0, 0)) ∧ W.heap[n + 1]? = some (.cells #[.slice (some ⟨g, 0, none⟩) L.length cg] 55 (0, 0)) ∧ W.heap[n + 1 + 1]? = some (.cells #[.int .i64 0] 26 (0, 0)) ∧
  W.heap[n + 1 + 1 + 1 + 1]? = some (.cells #[.slice A L.length c] 22 (0, 0)) ∧ W.heap[n + 1 + 1 + 1 + 1 + 1]? = some (.cells #[.int .u8 f] 5 (0, 0)) ∧
  (∃ A0 c0 A1 c1 xs0 xs1, W.heap[n + 1 + 1 + 1]? = some (.cells #[.slice A0 pre.length c0, .slice A1 pre.length c1] 72 (0, 0)) ∧
    CmpS (n + 6) pre.length pre.length (.slice A0 pre.length c0) (.slice A1 pre.length c1) xs0 xs1 (pre.map fun x => resE vul 0 L[x.1.1]) (pre.map fun x => resE vul 1 L[x.1.1]) W) ∧ Below n w W
theorem cmpI_own {L : List Ent} {f vul : Int} {A : Option Addr} {c g cg n : Nat} {w : World} {B : Nat} (hn : n ≤ w.heap.size) (hB : n ≤ B) : OwnFrom B (CmpI L f vul A c g cg n w) := by
  unfold CmpI
  refine OwnFrom.and (blk_own23 B n _ (0, 0) (fun _ => _)) (OwnFrom.and (blk_own23 B (n + 1) _ (0, 0) (fun _ => _)) (OwnFrom.and (blk_own23 B (n + 1 + 1) _ (0, 0) (fun _ => _)) (OwnFrom.and (blk_own23 B (n + 1 + 1 + 1 + 1) _ (0, 0) (fun _ => _)) (OwnFrom.and (blk_own23 B (n + 1 + 1 + 1 + 1 + 1) _ (0, 0) (fun _ => _)) (OwnFrom.and ?_ (ownFrom_below hn hB))))))
  rintro pre X Y row ⟨A0, c0, A1, c1, xs0, xs1, h1, h2⟩ hg hr
  refine ⟨A0, c0, A1, c1, xs0, xs1, ?_, h2.grow hg (fun k e => .inr (hr k e).2)⟩
  exact (hg.block _ (blk_lt h1) (fun e => by obtain ⟨_, o, ho, hc⟩ := hr _ e.symm; rw [h1] at ho; cases ho; cases hc)).trans h1
theorem cmpI_keep {L : List Ent} {f vul : Int} {A : Option Addr} {c g cg n : Nat} {w : World} {pre pre' : List (Sel L f)} {W W' : World} (h : CmpI L f vul A c g cg n w pre W) (h' : CmpI L f vul A c g cg n w pre' W') (hA : ∀ b off, keyA L.length A = some ⟨b, off, none⟩ → b < n) :
    KeepE (n + 1 + 1 + 1 + 1) (n + 1 + 1 + 1 + 1 + 1) (keyA L.length A) W W' := by
  obtain ⟨-, -, -, a4, a5, -, a7⟩ := h
  obtain ⟨-, -, -, b4, b5, -, b7⟩ := h'
  exact ⟨b4.trans a4.symm, b5.trans a5.symm, fun b off e => (b7.block b (hA b off e)).trans (a7.block b (hA b off e)).symm⟩
theorem cmpI_end {L : List Ent} {f vul : Int} {A : Option Addr} {c g cg n : Nat} {w : World} {pre : List (Sel L f)} {x : Sel L f} {W w6 : World} {A0 A1 : Option Addr} {c0 c1 : Nat} {old : Value} {xs0 xs1 : List Value} (h : CmpI L f vul A c g cg n w pre W)
    (hl : ∀ k, k < n + 6 → k ≠ n + 1 + 1 + 1 → w6.heap[k]? = W.heap[k]?) (hb : Below n W w6) (hq : w6.heap[n + 1 + 1 + 1]? = some (.cells #[.slice A0 (pre.length + 1) c0, old] 72 (0, 0)))
    (hS : CmpS (n + 6) (pre.length + 1) (pre.length + 1) (.slice A0 (pre.length + 1) c0) (.slice A1 (pre.length + 1) c1) xs0 xs1 ((pre ++ [x]).map fun x => resE vul 0 L[x.1.1]) ((pre ++ [x]).map fun x => resE vul 1 L[x.1.1]) w6) :
    CmpI L f vul A c g cg n w (pre ++ [x]) (w6.setCell ⟨n + 1 + 1 + 1, 1, none⟩ (.slice A1 (pre.length + 1) c1)) := by
  obtain ⟨i0, i1, i2, i4, i5, -, hB⟩ := h
  have far : ∀ {k : Nat} {o : Option Obj}, W.heap[k]? = o → k < n + 6 → k ≠ n + 1 + 1 + 1 → (w6.setCell ⟨n + 1 + 1 + 1, 1, none⟩ (.slice A1 (pre.length + 1) c1)).heap[k]? = o := fun h1 h2 h3 => (blk_far rfl (by show _ ≠ n + 1 + 1 + 1; exact h3) _).trans ((hl _ h2 h3).trans h1)
  refine ⟨far i0 (by omega) (by omega), far i1 (by omega) (by omega), far i2 (by omega) (by omega), far i4 (by omega) (by omega), far i5 (by omega) (by omega), ⟨A0, c0, A1, c1, xs0, xs1, ?_, ?_⟩, (hB.trans hb).setCell (p := ⟨n + 1 + 1 + 1, 1, none⟩) (by show n ≤ n + 1 + 1 + 1; omega) _⟩
  · rw [blk_set hq 1 _, List.length_append]; rfl
  · rw [List.length_append]
    exact hS.grow (grown_setCell23 _ _ _) (fun k e => by cases e; exact .inl (by show n + 1 + 1 + 1 < n + 6; omega))
/-- The loop's variable: an entry in a block of its own. -/
def CmpA (L : List Ent) (f : Int) (n : Nat) (a : Nat → Sel L f → Act) (x : Sel L f) (a' : Act) (W : World) : Prop :=
  ∃ Bx, n + 6 ≤ Bx ∧ W.heap[Bx]? = some (.cells (L[x.1.1]).C 51 (0, 0)) ∧ a' = a Bx x
theorem cmpA_own {L : List Ent} {f : Int} {n : Nat} {a : Nat → Sel L f → Act} {B : Nat} (x : Sel L f) (a' : Act) : OwnFrom B (fun (_ : Unit) W => CmpA L f n a x a' W) := by
  rintro _ X Y row ⟨Bx, h0, h1, h2⟩ hg hr
  exact ⟨Bx, h0, (hg.block _ (blk_lt h1) (fun e => by obtain ⟨_, o, ho, hc⟩ := hr _ e.symm; rw [h1] at ho; cases ho; cases hc)).trans h1, h2⟩

theorem negP_len23 (l : List Pt) : (negP l).length = l.length := by unfold negP; rw [List.length_map]
theorem fsides_any (e : Ent) (hO : e.Ok) (hr : e.right = true) (hk : e.k = 1 ∨ e.k = 2 ∨ e.k = 3) (vul : Int) (hv : 0 ≤ vul ∧ vul ≤ 3) (w : World) (hL : LaidS w) :
    Calls Tryz.prog 30 #[.agg e.C, .int .u8 vul] w fun r w' => ∃ A3 c3 A4 c4, r = .returned (.tuple #[.slice A3 (resE vul 0 e).length c3, .slice A4 (resE vul 1 e).length c4, .int .i64 0]) ∧ (A3 = none → c3 = 0) ∧ (A4 = none → c4 = 0) ∧
      w'.ownsRow w.heap.size 114 2 (.slice A3 (resE vul 0 e).length c3) (resE vul 0 e).length (pC (resE vul 0 e)) ∧ w'.ownsRow w.heap.size 114 2 (.slice A4 (resE vul 1 e).length c4) (resE vul 1 e).length (pC (resE vul 1 e)) ∧
      apart2 (.slice A3 (resE vul 0 e).length c3) (.slice A4 (resE vul 1 e).length c4) ∧ Below w.heap.size w w' := by
  refine (sides_some _ _ _ _ _ vul _ hO.1 hO.2.2.1 hO.2.2.2.1 hO.2.2.2.2 hv hr hk w hL).mono ?_
  rintro r w' ⟨v1, v2, rfl, o1, o2, ap, hb⟩
  have e0 : (resE vul 0 e).length = (sideA e.k e.o).length := wPts_len _ _
  have e1 : (resE vul 1 e).length = (sideB e.k e.o).length := (negP_len23 _).trans (wPts_len _ _)
  obtain ⟨A3, c3, rfl⟩ := own_form o1
  obtain ⟨A4, c4, rfl⟩ := own_form o2
  rw [e0, e1]
  exact ⟨A3, c3, A4, c4, rfl, own_src o1, own_src o2, o1, o2, ap, hb⟩

theorem resE_right (e : Ent) (hO : e.Ok) (hr : e.right = true) (hk : e.k = 1 ∨ e.k = 2 ∨ e.k = 3) (vul : Int) (hv : vul ≤ 3) (s : Nat) : rightM (resE vul s e) = true := by
  obtain ⟨h1, h2⟩ := sides_okB e.k e.f e.o e.a0 e.a1 hr hO.2.2.1 hk vul hv
  unfold resE
  split
  · exact ((wOk_iff _ _).1 h1).2.2.2
  · exact negP_right _ ((wOk_iff _ _).1 h2).2.2.2
theorem fldR_right (L : List Ent) (f vul : Int) (hO : ∀ e ∈ L, e.Ok) (hR : ∀ e ∈ L, e.right = true) (hv : 0 ≤ vul ∧ vul ≤ 3) (s : Nat) : ∀ o ∈ fldR L f vul s, rightM o = true := fun o ho => by
  obtain ⟨x, _, rfl⟩ := List.mem_map.1 ho
  exact resE_right _ (hO _ (List.getElem_mem x.1.2)) (hR _ (List.getElem_mem x.1.2)) (sel_k (hR _ (List.getElem_mem x.1.2)) x.2) vul hv.2 s
/-- The end of compare. -/
theorem cmp_end {w W2 W : World} {n g tg : Nat} {CG : Array Value} {ds : List Nat} (hn : w.heap.size = n) (hgn : g < n) (hB : Below n w W2) (hgr : W2.grownBy W (some g)) (h2 : n ≤ W2.heap.size) (hCG : W.heap[g]? = some (.cells CG tg (0, 0))) (hM : Marked (n + 5) ds W) (k2 : W.heap[n + 1 + 1]? = some (.cells #[.int .i64 0] 26 (0, 0))) :
    ds.Nodup ∧ (∀ D ∈ ds, (W.setCell ⟨n + 1 + 1, 0, none⟩ (.int .i64 0)).heap[D]? = some (.deferred (some []))) ∧ (unmark (W.setCell ⟨n + 1 + 1, 0, none⟩ (.int .i64 0)) ds).heap[n + 1 + 1]? = some (.cells #[.int .i64 0] 26 (0, 0)) ∧
    w.grownBy (unmark (W.setCell ⟨n + 1 + 1, 0, none⟩ (.int .i64 0)) ds) (some g) ∧ (unmark (W.setCell ⟨n + 1 + 1, 0, none⟩ (.int .i64 0)) ds).heap[g]? = some (.cells CG tg (0, 0)) := by
  have hk : ∀ D ∈ ds, (W.setCell ⟨n + 1 + 1, 0, none⟩ (.int .i64 0)).heap[D]? = some (.deferred (some [])) := fun D hD => by
    obtain ⟨h1, h3⟩ := hM.2 D hD
    exact blk_far h3 (by show D ≠ n + 1 + 1; omega) _
  have hb : Below n W (unmark (W.setCell ⟨n + 1 + 1, 0, none⟩ (.int .i64 0)) ds) := unmark_below ((Below.refl _ _).setCell (p := ⟨n + 1 + 1, 0, none⟩) (by show n ≤ n + 1 + 1; omega) _) hM.1 (fun D hD => ⟨by have := (hM.2 D hD).1; omega, hk D hD⟩)
  refine ⟨hM.1, hk, ?_, ⟨hb.os.trans (hgr.os.trans hB.os), hb.tape.trans (hgr.tape.trans hB.tape), hb.output.trans (hgr.output.trans hB.output), Nat.le_trans hB.size (Nat.le_trans hgr.size hb.size), fun k h1 h3 => ?_⟩, ?_⟩
  · rw [unmark_other (fun h => by have := (hM.2 _ h).1; omega), blk_set k2 0 _]; rfl
  · rw [hn] at h1
    exact (hb.block k h1).trans ((hgr.block k (by omega) h3).trans (hB.block k h1))
  · exact (hb.block g hgn).trans hCG
theorem take_named23 {P : Program} {ops : Array Oper} {Q : Exit → Act → World → Prop} {md : Region.Mode} {S : World → Prop} {i d : Nat} {oi : Oper} {v : Value} {fuel : Nat} {listed : Array Bool} {a : Act} {w : World} (hi : ops[i]? = some oi) (hd : oi.dst = some d)
    (hs : Region.noSelect ops = true) (hf : Region.free md ops listed i = true) (hr : (Region.ready md ops listed).contains i = true)
    (hQ : ∀ c a w, Q (.panic c) (a.put (some d) v) w → Q (.panic c) a w) (hy : YieldsIf P ops S oi v a) (hS : S w)
    (h : wpAnyH P md ops Q S fuel (listed.setIfInBounds i true) (a.put (some d) v) w) : wpAnyH P md ops Q S (fuel + 1) listed a w := by
  rw [← hd] at h hQ
  exact wpAnyH_take hi hs hf hr hQ hy hS h
/-- Between two rounds of the second loop. -/
def CmpH (L : List Ent) (f vul all : Int) (X0 : Nat → Nat → Pt) (tg g n : Nat) (W2 : World) (j : Nat) (ds : List Nat) (W : World) : Prop :=
  j ≤ 2 ∧ W2.grownBy W (some g) ∧ (∃ CG, W.heap[g]? = some (.cells CG tg (0, 0)) ∧ GC CG L.length (stepX L f vul all X0 j)) ∧ Marked (n + 5) ds W
/-- All blocks but two lie as they lay. -/
def Kx (W3 : World) (g p : Nat) (W : World) : Prop := W.os = W3.os ∧ W.tape = W3.tape ∧ W.output = W3.output ∧ W3.heap.size ≤ W.heap.size ∧ ∀ k, k < W3.heap.size → k ≠ g → k ≠ p → W.heap[k]? = W3.heap[k]?
theorem kx_refl {W : World} {g p : Nat} : Kx W g p W := ⟨rfl, rfl, rfl, Nat.le_refl _, fun _ _ _ _ => rfl⟩
/-- In the loop that puts a side's points. -/
def CmpJ (L : List Ent) (f : Int) (Xj : Nat → Nat → Pt) (pts : List Pt) (tg g p j : Nat) (W4 : World) (pre : List (Sel L f)) (W : World) : Prop :=
  Kx W4 g p W ∧ W.heap[p]? = some (.cells #[.int .i64 (pre.length : Int)] 3 (0, 0)) ∧ ∃ CG X, W.heap[g]? = some (.cells CG tg (0, 0)) ∧ GC CG L.length X ∧ PutOk Xj j pts (pre.map (·.1.1)) X
theorem cmpJ_own {L : List Ent} {f : Int} {Xj : Nat → Nat → Pt} {pts : List Pt} {tg g p j : Nat} {W4 : World} {B : Nat} (hB : W4.heap.size ≤ B) : OwnFrom B (CmpJ L f Xj pts tg g p j W4) := by
  rintro pre X Y row ⟨⟨h1, h2, h3, h4, h5⟩, hp, CG, Z, hg0, hz⟩ hg hr
  have far : ∀ {k t : Nat} {cs : Array Value} {fr : Nat × Nat}, X.heap[k]? = some (.cells cs t fr) → Y.heap[k]? = some (.cells cs t fr) := fun h => (hg.block _ (blk_lt h) (fun e => by obtain ⟨_, o, ho, hc⟩ := hr _ e.symm; rw [h] at ho; cases ho; cases hc)).trans h
  refine ⟨⟨hg.os.trans h1, hg.tape.trans h2, hg.output.trans h3, Nat.le_trans h4 hg.size, fun k hk hkg hkp => (hg.block k (by omega) (fun e => by have := (hr k e.symm).1; omega)).trans (h5 k hk hkg hkp)⟩, far hp, CG, Z, far hg0, hz⟩

theorem cmpJ_step {L : List Ent} {f : Int} {Xj : Nat → Nat → Pt} {pts : List Pt} {tg g p j B : Nat} {W4 W5 : World} {pre : List (Sel L f)} {A : Option Addr} (h : CmpJ L f Xj pts tg g p j W4 pre W5) (x : Sel L f) (pt : Pt) (hp : pts[pre.length]? = some pt) (hj : j < 2) (hgp : g < p) (hA : ∀ b off, keyA L.length A = some ⟨b, off, none⟩ → b < g) (Bs Bf : Nat) (hq : p < Bs ∧ p < Bf) :
    KeepsFrom B W5 ((((W5.setCell ⟨g, x.1.1 * 4 + j * 2, none⟩ (.int .i64 pt.1)).setCell ⟨g, x.1.1 * 4 + j * 2 + 1, none⟩ (.int .i64 pt.2)).drew).setCell ⟨p, 0, none⟩ (.int .i64 ((pre.length : Int) + 1))) ∧
    KeepE Bs Bf (keyA L.length A) W5 ((((W5.setCell ⟨g, x.1.1 * 4 + j * 2, none⟩ (.int .i64 pt.1)).setCell ⟨g, x.1.1 * 4 + j * 2 + 1, none⟩ (.int .i64 pt.2)).drew).setCell ⟨p, 0, none⟩ (.int .i64 ((pre.length : Int) + 1))) ∧
    CmpJ L f Xj pts tg g p j W4 (pre ++ [x]) ((((W5.setCell ⟨g, x.1.1 * 4 + j * 2, none⟩ (.int .i64 pt.1)).setCell ⟨g, x.1.1 * 4 + j * 2 + 1, none⟩ (.int .i64 pt.2)).drew).setCell ⟨p, 0, none⟩ (.int .i64 ((pre.length : Int) + 1))) := by
  obtain ⟨⟨h1, h2, h3, h4, h5⟩, h6, CG, X, h7, h8, h9⟩ := h
  have far : ∀ k, k ≠ g → k ≠ p → ((((W5.setCell ⟨g, x.1.1 * 4 + j * 2, none⟩ (.int .i64 pt.1)).setCell ⟨g, x.1.1 * 4 + j * 2 + 1, none⟩ (.int .i64 pt.2)).drew).setCell ⟨p, 0, none⟩ (.int .i64 ((pre.length : Int) + 1))).heap[k]? = W5.heap[k]? := fun k e1 e2 => blk_far (blk_far (blk_far rfl e1 _) e1 _) e2 _
  have hk := ((((KeepsOthers.setCell W5 ⟨g, x.1.1 * 4 + j * 2, none⟩ (.int .i64 pt.1)).trans (KeepsOthers.setCell _ ⟨g, x.1.1 * 4 + j * 2 + 1, none⟩ (.int .i64 pt.2))).trans (KeepsOthers.drew _)).trans (KeepsOthers.setCell _ ⟨p, 0, none⟩ (.int .i64 ((pre.length : Int) + 1))))
  refine ⟨hk.from _, ⟨far _ (by omega) (by omega), far _ (by omega) (by omega), fun b off e => far b (by have := hA b off e; omega) (by have := hA b off e; omega)⟩, ⟨h1, h2, h3, Nat.le_trans h4 hk.size, fun k e1 e2 e3 => (far k e2 e3).trans (h5 k e1 e2 e3)⟩, ?_, ?_⟩
  · rw [List.length_append]
    exact blk_set (blk_far (blk_far h6 (by show p ≠ g; omega) _) (by show p ≠ g; omega) _) 0 _
  · refine ⟨_, updX X x.1.1 j pt, blk_far (blk_set (blk_set h7 _ _) _ _) (by show g ≠ p; omega) _, h8.set x.1.1 j x.1.2 hj pt, ?_⟩
    rw [List.map_append]
    exact h9.snoc _ _ (by rw [List.length_map]; exact hp)

set_option maxRecDepth 100000 in
set_option maxHeartbeats 2000000 in
theorem fcompare_any (L : List Ent) (A : Option Addr) (c : Nat) (f vul all : Int) (g cg tg : Nat) (C0 : Array Value) (X0 : Nat → Nat → Pt) (w : World) (hO : ∀ e ∈ L, e.Ok) (hA : Rd w g 33 A L.length (enL L)) (hLn : L.length ≤ 24) (hL : LaidS w) (hLm : Laid w) (hR : ∀ e ∈ L, e.right = true) (hv : 0 ≤ vul ∧ vul ≤ 3)
    (hall : ((itAll L f).length : Int) ≤ all ∧ 1 ≤ all ∧ all ≤ 24) (hg1 : 6 < g) (hg2 : 0 < g) (hg : w.heap[g]? = some (.cells C0 tg (0, 0))) (hG : GC C0 L.length X0) :
    Calls Tryz.prog 17 #[.slice A L.length c, .int .u8 f, .int .u8 vul, .int .i64 all, .slice (some ⟨g, 0, none⟩) L.length cg] w fun e w' => e = .returned (.int .i64 0) ∧ w.grownBy w' (some g) ∧ ∃ C1, w'.heap[g]? = some (.cells C1 tg (0, 0)) ∧ GC C1 L.length (stepX L f vul all X0 2) := by
  have HE := Lib.hid (fun W => fentries_any A L.length c f W)
  have HO := Lib.hid hO
  have hgl := blk_lt hg
  have HA := Lib.hid (hA.more (Nat.le_of_lt hgl))
  have HAg := Lib.hid hA
  have HL := Lib.hid hL
  have HLm := Lib.hid hLm
  have HR := Lib.hid hR
  have HGg := Lib.hid hg
  have HGC := Lib.hid hG
  have HAll := Lib.hid hall
  have HRr := Lib.hid (fldR_right L f vul hO hR hv)
  clear hO hA hL hR hg hG hLm hall
  refine (callsIn_wide (n := 5)).1 ?_
  refine callsIn_of_wp_marks Tryz.func17 rfl trivial ?_ rfl
  simp only [Tryz.ntmps17, List.size_toArray, List.length_cons, List.length_nil, Nat.reduceAdd, Nat.reduceSub, Array.replicate_succ, Array.replicate_zero, List.push_toArray, List.append_toArray, List.nil_append, List.cons_append]
  gi_wp2_with fail
  refine ⟨trivial, (callsIn_wide.2 (HE.out _)).mono ?_⟩
  rintro e w' ⟨rfl, rfl⟩
  gi_wp2_with fail
  obtain ⟨n, hn⟩ : ∃ n, w.heap.size = n := ⟨_, rfl⟩
  obtain ⟨W0, hW0⟩ : ∃ W0, ((((((w.alloc (.cells #[.int .u8 vul] 5)).alloc (.cells #[.slice (some ⟨g, 0, none⟩) L.length cg] 55)).alloc (.cells #[.int .i64 0] 26)).alloc (.cells #[.slice none 0 0, .slice none 0 0] 72)).alloc
    (.cells #[.slice A L.length c] 22)).alloc (.cells #[.int .u8 f] 5)) = W0 := ⟨_, rfl⟩
  have hsz : W0.heap.size = n + 6 := by rw [← hW0]; simp [hn]
  have hI0 : CmpI L f vul A c g cg n w [] W0 := by
    rw [← hW0]
    refine ⟨?_, ?_, ?_, ?_, ?_, ⟨none, 0, none, 0, [], [], ?_, CmpS.nil_⟩, ?_⟩
    · repeat (first | exact blk_new _ hn.symm | refine blk_alloc ?_ _)
    · repeat (first | exact blk_new _ (by simp; omega) | refine blk_alloc ?_ _)
    · repeat (first | exact blk_new _ (by simp; omega) | refine blk_alloc ?_ _)
    · repeat (first | exact blk_new _ (by simp; omega) | refine blk_alloc ?_ _)
    · repeat (first | exact blk_new _ (by simp; omega) | refine blk_alloc ?_ _)
    · repeat (first | exact blk_new _ (by simp; omega) | refine blk_alloc ?_ _)
    · rw [← hn]; exact (by repeat (first | exact Below.refl _ _ | assumption | refine Below.drew ?_ | refine below_drewN ?_ _ | refine Below.alloc ?_ (by first | omega | (simp; done) | (simp; omega)) _ | refine Below.setCell ?_ (by first | omega | (simp; done) | (simp; omega)) _))
  rw [hW0, hn]
  clear hW0
  have hn0 : n ≤ w.heap.size := by omega
  have hA1 : ∀ b off, keyA L.length A = some ⟨b, off, none⟩ → b < n := by rw [← hn]; exact keyA_lt HA.out
  have hb0 : Below w.heap.size w W0 := by rw [hn]; exact hI0.2.2.2.2.2.2
  have hAW : Rd W0 W0.heap.size 33 A L.length (enL L) := (HA.out.below hb0).more hb0.size
  refine wpIn_rangeFunc_ownH (F := Fence.wide) rfl (by decide) (gf := 35) (lb := #[.pointer (some ⟨n + 1 + 1 + 1 + 1, 0, none⟩), .pointer (some ⟨n + 1 + 1 + 1 + 1 + 1, 0, none⟩)]) rfl trivial (enters_of Tryz.func35 (by kernel_rfl) rfl)
    (fentries_stops 4 (by decide) (n + 1 + 1 + 1 + 1) (n + 1 + 1 + 1 + 1 + 1) L HO.out (by omega) A c f W0 hI0.2.2.2.1 hI0.2.2.2.2.1 hAW) keepE_t (keepE_b (by omega) (by omega) (fun b off e => by have := hA1 b off e; omega)) (Below.refl _ _) (fun _ => rfl)
    (CmpI L f vul A c g cg n w) (fun _ _ _ => False) (cmpI_own hn0 (by omega)) (fun _ _ _ _ _ hs _ _ => hs) hI0
    (CmpA L f n (fun Bx x => { tmps := #[.slice A L.length c, .int .u8 f, .int .u8 vul, .int .i64 all, .slice (some ⟨g, 0, none⟩) L.length cg, undef, undef, .pointer (some ⟨n, 0, none⟩), undef, .pointer (some ⟨n + 1, 0, none⟩), .pointer (some ⟨n + 1 + 1, 0, none⟩), .pointer (some ⟨n + 1 + 1 + 1, 0, none⟩), undef, .pointer (some ⟨Bx, 0, none⟩), undef, undef, undef, undef, undef, undef, undef, undef, undef, .slice A L.length c, .int .u8 f, .func (.func 35) #[] #[.pointer (some ⟨n + 1 + 1 + 1 + 1, 0, none⟩), .pointer (some ⟨n + 1 + 1 + 1 + 1 + 1, 0, none⟩)], .int .i64 (x.1.1 : Int), .agg (L[x.1.1]).C, undef, undef, undef, undef, undef, undef, undef, undef, undef, undef, undef, undef, undef, undef, undef, undef, undef, undef, undef, undef, undef, undef, undef, undef, undef, undef, undef, undef, undef, undef, undef, undef, undef, undef, undef, undef, undef, undef, undef, undef, undef, undef, undef, undef, undef, undef, undef, undef, undef, undef, undef, undef, undef], defers := [] })) (fun x a' => cmpA_own x a') ?assign ?body ?done ?stop
  case assign =>
    intro l pre x W K hi hK
    have hok := HO.out _ (List.getElem_mem x.1.2)
    have hI := Lib.hid (hok.1.size)
    have h33 := Lib.hid (hok.1.1)
    have hone := Lib.hid (hok.2.1)
    have HI := Lib.hid hi
    have HK := Lib.hid hK
    clear hok hi hK hI0
    go_simp
    gi_wp2_with (first | (refine round_alloc_to rfl 51 rfl enZ enZ_zero ?_) | (refine round_store_new rfl 51 _ _ rfl (L[x.1.1]).C _ _ rfl rfl hI.out (by rw [h33.out]; rfl) hone.out ?_))
    refine HK.out _ _ ((KeepsOthers.alloc _ _).from _) ?_ ?_ ⟨W.heap.size, ?_, blk_new _ rfl, rfl⟩
    · exact cmpI_keep HI.out ((cmpI_own (B := n) hn0 (Nat.le_refl _)).alloc _ HI.out) hA1
    · exact (cmpI_own (B := n) hn0 (Nat.le_refl _)).alloc _ HI.out
    · have := blk_lt HI.out.2.2.2.2.1; omega
  case body =>
    rintro l pre x a' W hl ⟨r, hr⟩ hi ⟨Bx, hBx, bX, rfl⟩ hlt
    dsimp only
    have hok := HO.out _ (List.getElem_mem x.1.2)
    have hI := Lib.hid (hok.1.size)
    have HS := Lib.hid (fun W hW => fsides_any L[x.1.1] hok (HR.out _ (List.getElem_mem x.1.2)) (sel_k (HR.out _ (List.getElem_mem x.1.2)) x.2) vul hv W hW)
    have HM0 := Lib.hid (show (pre ++ [x]).map (fun x => resE vul 0 L[x.1.1]) = pre.map (fun x => resE vul 0 L[x.1.1]) ++ [resE vul 0 L[x.1.1]] by rw [List.map_append]; rfl)
    have HM1 := Lib.hid (show (pre ++ [x]).map (fun x => resE vul 1 L[x.1.1]) = pre.map (fun x => resE vul 1 L[x.1.1]) ++ [resE vul 1 L[x.1.1]] by rw [List.map_append]; rfl)
    have HI := Lib.hid hi
    obtain ⟨i0, i1, i2, i4, i5, ⟨A0, c0, A1, c1, xs0, xs1, i3, hS⟩, hB⟩ := hi
    have KX := Lib.hid bX
    have HSS := Lib.hid hS
    have HB := Lib.hid hB
    have cv := blk_cell i0 0
    have hnW : n + 6 ≤ W.heap.size := by have := blk_lt i5; omega
    have hsB : Below W.heap.size W W := Below.refl _ _
    clear hok bX hS hB i0 i1 i2 i4 i5 hI0 hsB
    generalize resE vul 0 L[x.1.1] = r0 at HS HM0
    generalize resE vul 1 L[x.1.1] = r1 at HS HM1
    gi_wp2_with (refine round_load_row rfl 51 (.tmp 13) rfl Bx rfl 51 (L[x.1.1]).C _ _ KX.out Tryz.underlying51 rfl hI.out ?_)
    refine ⟨trivial, (CallsIn.inRound l (callsIn_wide.2 (HS.out _ (HL.out.go ((show Below w.heap.size w W from by rw [hn]; exact HB.out)))))).mono ?_⟩
    rintro e w3 ⟨A3, c3, A4, c4, rfl, s3, s4, o1, o2, ap12, hb3⟩
    have q3 := blk_below i3 hb3 (blk_lt i3)
    have HQ3 := Lib.hid q3
    have d0 := blk_cell q3 0
    have HO1 := Lib.hid o1
    have HO2 := Lib.hid o2
    have HS3 := Lib.hid (HSS.out.grow (grown_below23 hb3) (fun k e => by cases e))
    have HB3 := Lib.hid hb3
    have hn3 : n + 6 ≤ w3.heap.size := Nat.le_trans hnW hb3.size
    obtain ⟨ir, hir, hz0, hz1, hz2⟩ := info_parts info_res
    have hpl : pre.length ≤ 24 := by have := itTo_len L f L.length (Nat.le_refl _); unfold itAll at hlt; omega
    have HX := Lib.hid (And.intro s3 (And.intro s4 ap12))
    clear o1 o2 s3 s4 ap12 hb3 q3
    gi_wp2_with (gi_at_builtin; refine round_append_lies (by rfl) (.tmp 39) (.tmp 41) 71 (by rfl) (n + 6) 74 ir (.slice none 0 0) 1 24 Tryz.underlying71 hir hz0 hz1 hz2 rfl (by decide) (.slice A0 pre.length c0) pre.length xs0 (by rfl) ?b1 ⟨w3.heap.size, 0, none⟩ 1 1 [.slice A3 r0.length c3] (by rfl) rfl ?b2 ?b3 (by decide) ?b4 ?b5 ?b6 (w3.heap.size + 1) ?b7 ?_)
    case b1 => exact own_grow HS3.out.1 (grown_alloc23 _ _) (fun k e => by cases e)
    case b2 => exact cell_one_at _ _ _ _ rfl
    case b3 => intro u hu; rw [List.mem_singleton.1 hu]; rfl
    case b4 => unfold maxLen; omega
    case b5 => omega
    case b6 => simp; omega
    case b7 => simp
    intro g4 cap4 w4 hown4 hgr4 hat4 hlt4
    obtain ⟨Wa, hWa⟩ : ∃ Wa, w3.alloc (.cells #[.slice A3 r0.length c3] 74) = Wa := ⟨_, rfl⟩
    have HSa : CmpS (n + 6) pre.length pre.length (.slice A0 pre.length c0) (.slice A1 pre.length c1) xs0 xs1 (pre.map fun x => resE vul 0 L[x.1.1]) (pre.map fun x => resE vul 1 L[x.1.1]) Wa := by rw [← hWa]; exact HS3.out.grow (grown_alloc23 _ _) (fun k e => by cases e)
    have hsa : Wa.heap.size = w3.heap.size + 1 := by rw [← hWa]; simp
    have hba : Below w3.heap.size w3 Wa := by rw [← hWa]; exact (by repeat (first | exact Below.refl _ _ | assumption | refine Below.drew ?_ | refine below_drewN ?_ _ | refine Below.alloc ?_ (by first | omega | (simp; done) | (simp; omega)) _ | refine Below.setCell ?_ (by first | omega | (simp; done) | (simp; omega)) _))
    rw [hWa] at hgr4
    have O1a := own_below HO1.out hba (Nat.le_refl _)
    have O2a := own_below HO2.out hba (Nat.le_refl _)
    have a01 : apart2 (.slice A0 pre.length c0) (.slice A3 r0.length c3) := apart_new HSS.out.1 HO1.out (Nat.le_refl _)
    have a11 : apart2 (.slice A1 pre.length c1) (.slice A3 r0.length c3) := apart_new HSS.out.2.1 HO1.out (Nat.le_refl _)
    have a02 : apart2 (.slice A0 pre.length c0) (.slice A4 r1.length c4) := apart_new HSS.out.1 HO2.out (Nat.le_refl _)
    have a12 : apart2 (.slice A1 pre.length c1) (.slice A4 r1.length c4) := apart_new HSS.out.2.1 HO2.out (Nat.le_refl _)
    have hat4' : (Value.slice (some ⟨g4, 0, none⟩) (pre.length + 1) cap4).ownBlock = (Value.slice A0 pre.length c0).ownBlock ∨ (Value.slice (some ⟨g4, 0, none⟩) (pre.length + 1) cap4).ownBlock = some Wa.heap.size := by
      rcases hat4 with h | h
      · exact .inl h.symm
      · exact .inr (by rw [hsa, ← h]; rfl)
    have hS4 := HSa.push HX.out.1 (own_mono O1a hnW) a01 a11 hgr4 hat4' hown4
    obtain ⟨O2b, a02b⟩ := own_two O2a hgr4 a02 hat4'
    have hb4 := below_grown23 HSa.1 hgr4 (by omega)
    have hk4 := ((keeps_below23 HB3.out).trans (keeps_below23 hba)).trans (keeps_grown23 HSa.1 hgr4)
    have q4 := blk_below (blk_below HQ3.out hba (by omega)) hb4 (by omega)
    have HL4 := Lib.hid (show Below (n + 6) W w4 from ((HB3.out.mono hnW).trans (hba.mono hn3)).trans hb4)
    have HSS4 := Lib.hid hS4
    have HO4 := Lib.hid O2b
    have HA4 := Lib.hid (And.intro a02b a12)
    have HB4 := Lib.hid hb4
    have HK4 := Lib.hid hk4
    have HQ4 := Lib.hid q4
    have hn4 : n + 6 ≤ w4.heap.size := by have := hb4.size; omega
    have e0 := blk_cell q4 0
    have f0 := blk_free q4 0
    clear hS4 O2b a02b a12 hb4 hk4 q4 hown4 hgr4 hat4 hat4' hlt4 hWa HSa hsa hba O1a O2a a01 a11 a02 d0 HQ3 HO1 HO2 HS3 hir hz0 hz1 hz2
    gi_upto_region 8 with fail
    obtain ⟨W5, hW5⟩ : ∃ W5, w4.setCell ⟨n + 1 + 1 + 1, 0, none⟩ (.slice (some ⟨g4, 0, none⟩) (pre.length + 1) cap4) = W5 := ⟨_, rfl⟩
    have q5 : W5.heap[n + 1 + 1 + 1]? = some (.cells #[.slice (some ⟨g4, 0, none⟩) (pre.length + 1) cap4, .slice A1 pre.length c1] 72 (0, 0)) := by rw [← hW5]; exact blk_set HQ4.out 0 _
    have hg5 : w4.grownBy W5 (some (n + 1 + 1 + 1)) := by rw [← hW5]; exact grown_setCell23 _ _ _
    have hr5 : ∀ k, some (n + 1 + 1 + 1) = some k → k < n + 6 ∨ ∃ o : Obj, w4.heap[k]? = some o ∧ o.isCells = false := fun k e => by cases e; exact .inl (by omega)
    have HSS5 := Lib.hid (HSS4.out.grow hg5 hr5).swap
    have HO5 := Lib.hid (own_grow (base := n + 6) (own_mono HO4.out hnW) hg5 hr5)
    have HL5 := Lib.hid (show ∀ k, k < n + 6 → k ≠ n + 1 + 1 + 1 → W5.heap[k]? = W.heap[k]? from fun k h1 h2 => by rw [← hW5]; exact (blk_far rfl (by show k ≠ n + 1 + 1 + 1; exact h2) _).trans (HL4.out.block k h1))
    have HN5 := Lib.hid (show Below n W W5 by rw [← hW5]; exact (HL4.out.mono (by omega)).setCell (p := ⟨n + 1 + 1 + 1, 0, none⟩) (by show n ≤ n + 1 + 1 + 1; omega) _)
    have HK5 := Lib.hid (show KeepsOthers W W5 by rw [← hW5]; exact HK4.out.trans (KeepsOthers.setCell _ _ _))
    have HQ5 := Lib.hid q5
    have hn5 : n + 6 ≤ W5.heap.size := Nat.le_trans hn4 hg5.size
    have e1 := blk_cell q5 1
    rw [hW5]
    clear e0 f0 hg5 hr5 q5 hW5
    obtain ⟨ir, hir, hz0, hz1, hz2⟩ := info_parts info_res
    gi_wp2_with (gi_at_builtin; refine round_append_lies (by rfl) (.tmp 45) (.tmp 47) 71 (by rfl) (n + 6) 74 ir (.slice none 0 0) 1 24 Tryz.underlying71 hir hz0 hz1 hz2 rfl (by decide) (.slice A1 pre.length c1) pre.length xs1 (by rfl) ?d1 ⟨W5.heap.size, 0, none⟩ 1 1 [.slice A4 r1.length c4] (by rfl) rfl ?d2 ?d3 (by decide) ?d4 ?d5 ?d6 (W5.heap.size + 1) ?d7 ?_)
    case d1 => exact own_grow HSS5.out.1 (grown_alloc23 _ _) (fun k e => by cases e)
    case d2 => exact cell_one_at _ _ _ _ rfl
    case d3 => intro u hu; rw [List.mem_singleton.1 hu]; rfl
    case d4 => unfold maxLen; omega
    case d5 => omega
    case d6 => simp; omega
    case d7 => simp
    intro g6 cap6 w6 hown6 hgr6 hat6 hlt6
    obtain ⟨Wb, hWb⟩ : ∃ Wb, W5.alloc (.cells #[.slice A4 r1.length c4] 74) = Wb := ⟨_, rfl⟩
    have HSb := HSS5.out.grow (W' := Wb) (row := none) (by rw [← hWb]; exact grown_alloc23 _ _) (fun k e => by cases e)
    have hsb : Wb.heap.size = W5.heap.size + 1 := by rw [← hWb]; simp
    have hbb : Below W5.heap.size W5 Wb := by rw [← hWb]; exact (by repeat (first | exact Below.refl _ _ | assumption | refine Below.drew ?_ | refine below_drewN ?_ _ | refine Below.alloc ?_ (by first | omega | (simp; done) | (simp; omega)) _ | refine Below.setCell ?_ (by first | omega | (simp; done) | (simp; omega)) _))
    rw [hWb] at hgr6
    have O2c := own_below HO5.out hbb (Nat.le_refl _)
    have hat6' : (Value.slice (some ⟨g6, 0, none⟩) (pre.length + 1) cap6).ownBlock = (Value.slice A1 pre.length c1).ownBlock ∨ (Value.slice (some ⟨g6, 0, none⟩) (pre.length + 1) cap6).ownBlock = some Wb.heap.size := by
      rcases hat6 with h | h
      · exact .inl h.symm
      · exact .inr (by rw [hsb, ← h]; rfl)
    have hS6 := (HSb.push HX.out.2.1 O2c HA4.out.2 HA4.out.1 hgr6 hat6' hown6).swap
    rw [← HM0.out, ← HM1.out] at hS6
    have hb6 := below_grown23 HSb.1 hgr6 (by omega)
    have q6 := blk_below (blk_below HQ5.out hbb (by omega)) hb6 (by omega)
    have hb56 : Below (n + 6) W5 w6 := (hbb.mono hn5).trans hb6
    have HL6 := Lib.hid (show ∀ k, k < n + 6 → k ≠ n + 1 + 1 + 1 → w6.heap[k]? = W.heap[k]? from fun k h1 h2 => (hb56.block k h1).trans (HL5.out k h1 h2))
    have HN6 := Lib.hid (show Below n W w6 from HN5.out.trans (hb56.mono (by omega)))
    have HSS6 := Lib.hid hS6
    have HK6 := Lib.hid ((HK5.out.trans (keeps_below23 hbb)).trans (keeps_grown23 HSb.1 hgr6))
    have HQ6 := Lib.hid q6
    have e1' := blk_cell q6 1
    have f1 := blk_free q6 1
    clear hS6 q6 hown6 hgr6 hat6 hat6' hlt6 hWb HSb hsb hbb O2c hir hz0 hz1 hz2 e1 hb6 hb56
    gi_wp2
    have hi7 := cmpI_end (x := x) HI.out HL6.out HN6.out HQ6.out HSS6.out
    exact ⟨(HK6.out.trans (KeepsOthers.setCell _ _ _)).from _, cmpI_keep HI.out hi7 hA1, hi7⟩
  case done =>
    rintro D0 ys W2 hD rfl ⟨-, i1, i2, -, -, ⟨A0, c0, A1, c1, xs0, xs1, i3, hS⟩, hB⟩ hK
    dsimp only
    obtain ⟨N, hN⟩ : ∃ N, (itAll L f).length = N := ⟨_, rfl⟩
    have hgn : g < n := by rw [← hn]; exact hgl
    have HRow : Hid (∀ j, j < 2 → ∃ Aj cj, (#[.slice A0 N c0, .slice A1 N c1] : Array Value)[j]? = some (.slice Aj N cj) ∧ ∀ W, W2.grownBy W (some g) → RdL W W.heap.size Aj (fldR L f vul j)) := Lib.hid (fun j hj => by
      rw [← hN]
      rcases (show j = 0 ∨ j = 1 by omega) with rfl | rfl
      · refine ⟨A0, c0, rfl, fun W hW => ?_⟩
        have h := hS.grow hW (fun k e => by cases e; exact .inl (by omega))
        have hl : (fldR L f vul 0).length = (itAll L f).length := fldR_len _ _ _ _
        exact rdl_of_own (by rw [hl]; exact h.1) (by rw [hl]; exact h.2.2.2.1)
      · refine ⟨A1, c1, rfl, fun W hW => ?_⟩
        have h := hS.grow hW (fun k e => by cases e; exact .inl (by omega))
        have hl : (fldR L f vul 1).length = (itAll L f).length := fldR_len _ _ _ _
        exact rdl_of_own (by rw [hl]; exact h.2.1) (by rw [hl]; exact h.2.2.2.2.2.2))
    have d0 := blk_cell i3 0
    have d1 := blk_cell i3 1
    rw [hN] at d0 d1
    have hH0 : CmpH L f vul all X0 tg g n W2 0 [D0] W2 := ⟨by omega, ⟨rfl, rfl, rfl, Nat.le_refl _, fun _ _ _ => rfl⟩, ⟨C0, (hB.block g hgn).trans HGg.out, by rw [stepX_zero]; exact HGC.out⟩, by simp, fun D hD => by
      rw [List.mem_singleton.1 hD]; exact ⟨by omega, hK⟩⟩
    have HB2 := Lib.hid hB
    have I1 := Lib.hid i1
    have I2 := Lib.hid i2
    clear i1 i2 hB
    gi_wp2
    refine wpIn_loop (fun a W => ∃ (j : Nat) (ds : List Nat) (u17 u18 u19 u20 u21 u52 u53 u54 u55 u56 u57 u58 u59 u60 u61 u62 u64 u65 u66 u80 : Value), a = { tmps := #[.slice A L.length c, .int .u8 f, .int .u8 vul, .int .i64 all, .slice (some ⟨g, 0, none⟩) L.length cg, undef, undef, .pointer (some ⟨n, 0, none⟩), undef, .pointer (some ⟨n + 1, 0, none⟩), .pointer (some ⟨n + 1 + 1, 0, none⟩), .pointer (some ⟨n + 1 + 1 + 1, 0, none⟩), undef, undef, undef, undef, undef, u17, u18, u19, u20, u21, undef, .slice A L.length c, .int .u8 f, .func (.func 35) #[] #[.pointer (some ⟨n + 1 + 1 + 1 + 1, 0, none⟩), .pointer (some ⟨n + 1 + 1 + 1 + 1 + 1, 0, none⟩)], undef, undef, undef, undef, undef, undef, undef, undef, undef, undef, undef, undef, undef, undef, undef, undef, undef, undef, undef, undef, undef, undef, undef, undef, .agg #[.slice A0 N c0, .slice A1 N c1], .int .i64 (j : Int), u52, u53, u54, u55, u56, u57, u58, u59, u60, u61, u62, undef, u64, u65, u66, undef, undef, undef, undef, undef, undef, undef, undef, undef, undef, undef, undef, undef, u80], defers := marks ds } ∧ CmpH L f vul all X0 tg g n W2 j ds W)
      (fun a _ => 2 - (intOf (a.tmps.getD 51 undef)).toNat) ⟨0, [D0], undef, undef, undef, undef, undef, undef, undef, undef, undef, undef, undef, undef, undef, undef, undef, undef, undef, undef, undef, undef, rfl, hH0⟩ ?_
    rintro a W ⟨j, ds, u17, u18, u19, u20, u21, u52, u53, u54, u55, u56, u57, u58, u59, u60, u61, u62, u64, u65, u66, u80, rfl, hH⟩
    have HH := Lib.hid hH
    have hj2 := hH.1
    clear hH hH0 d0 d1
    by_cases hlt : j < 2
    · obtain ⟨Aj, cj, hix, hRd⟩ := HRow.out j hlt
      have hixr : ∀ w, (Instr.index 72 (.agg #[.slice A0 N c0, .slice A1 N c1]) (.int .i64 (j : Int))).run Tryz.prog w = .ok (.slice Aj N cj) w := fun w => run_index_one _ _ 2 _ _ j _ Tryz.underlying72 (by kernel_rfl) (fun w => by kernel_rfl) hix hlt
      gi_wp2_with fail
      obtain ⟨-, hgr, ⟨CG, hCG, hGC⟩, hM⟩ := HH.out
      obtain ⟨P, hP⟩ : ∃ P, W.heap.size = P := ⟨_, rfl⟩
      obtain ⟨Wa, hWa⟩ : ∃ Wa, W.alloc (.cells #[.int .i64 (j : Int)] 3) = Wa := ⟨_, rfl⟩
      have hga : W2.grownBy Wa (some g) := by rw [← hWa]; exact hgr.trans ((grown_alloc23 _ _).but _)
      have hsa : Wa.heap.size = P + 1 := by rw [← hWa]; simp [hP]
      have hba : Below W.heap.size W Wa := by rw [← hWa]; exact (by repeat (first | exact Below.refl _ _ | assumption | refine Below.drew ?_ | refine below_drewN ?_ _ | refine Below.alloc ?_ (by first | omega | (simp; done) | (simp; omega)) _ | refine Below.setCell ?_ (by first | omega | (simp; done) | (simp; omega)) _))
      have ka : Wa.heap[P]? = some (.cells #[.int .i64 (j : Int)] 3) := by rw [← hWa]; exact blk_new _ hP.symm
      have hl : (fldR L f vul j).length = N := (fldR_len _ _ _ _).trans hN
      have hW2n : n + 6 < W2.heap.size := by have := (Array.getElem?_eq_some_iff.1 hK).1; omega
      have hLaid : Laid Wa := by
        obtain ⟨t, fr, h⟩ := HLm.out
        refine ⟨t, fr, (hga.block _ (by omega) (fun e => by cases e; omega)).trans ((HB2.out.block _ (by omega)).trans h)⟩
      have hNl : N ≤ 24 := by have := itTo_len L f L.length (Nat.le_refl _); unfold itAll at hN; omega
      have HF := Lib.hid (nfield (fldR L f vul j) Aj cj all Wa hLaid (hRd Wa hga) (by rw [hl, ← hN]; exact HAll.out.1) HAll.out.2 (HRr.out j))
      rw [hl] at HF
      have hPl := adjL_len (fldR L f vul j) all
      rw [hl] at hPl
      have HPut := Lib.hid (fun X (h : PutOk (stepX L f vul all X0 j) j (adjL (fldR L f vul j) all) (idxAll L f) X) i t hi => put_all h i t hi)
      generalize hpts : adjL (fldR L f vul j) all = pts at HF hPl HPut
      rw [hWa, hP]
      have hPW2 : W2.heap.size ≤ P := by rw [← hP]; exact hgr.size
      clear hpts hl hLaid hWa
      refine ⟨trivial, (callsIn_wide.2 HF.out).mono ?_⟩
      rintro e w3 ⟨v, rfl, o3, hb3⟩
      obtain ⟨Ap, cp, rfl⟩ := own_form o3
      clear HF
      gi_wp2_with fail
      refine ⟨trivial, (callsIn_wide.2 (HE.out _)).mono ?_⟩
      rintro e w' ⟨rfl, rfl⟩
      gi_wp2_with fail
      obtain ⟨Q, hQ⟩ : ∃ Q, w3.heap.size = Q := ⟨_, rfl⟩
      have hPQ : P + 1 ≤ Q := by rw [← hQ, ← hsa]; exact hb3.size
      obtain ⟨W4, hW4⟩ : ∃ W4, (((w3.alloc (.cells #[.slice Ap N cp] 77)).alloc (.cells #[.int .i64 0] 3)).alloc (.cells #[.slice A L.length c] 22)).alloc (.cells #[.int .u8 f] 5) = W4 := ⟨_, rfl⟩
      have hs4 : W4.heap.size = Q + 4 := by rw [← hW4]; simp [hQ]
      have hb4 : Below w3.heap.size w3 W4 := by rw [← hW4]; exact (by repeat (first | exact Below.refl _ _ | assumption | refine Below.drew ?_ | refine below_drewN ?_ _ | refine Below.alloc ?_ (by first | omega | (simp; done) | (simp; omega)) _ | refine Below.setCell ?_ (by first | omega | (simp; done) | (simp; omega)) _))
      have kq0 : W4.heap[Q]? = some (.cells #[.slice Ap N cp] 77) := by rw [← hW4]; repeat (first | exact blk_new _ hQ.symm | exact blk_new _ (by simp; omega) | refine blk_alloc ?_ _)
      have kq1 : W4.heap[Q + 1]? = some (.cells #[.int .i64 0] 3) := by rw [← hW4]; repeat (first | exact blk_new _ hQ.symm | exact blk_new _ (by simp; omega) | refine blk_alloc ?_ _)
      have kq2 : W4.heap[Q + 1 + 1]? = some (.cells #[.slice A L.length c] 22) := by rw [← hW4]; repeat (first | exact blk_new _ hQ.symm | exact blk_new _ (by simp; omega) | refine blk_alloc ?_ _)
      have kq3 : W4.heap[Q + 1 + 1 + 1]? = some (.cells #[.int .u8 f] 5) := by rw [← hW4]; repeat (first | exact blk_new _ hQ.symm | exact blk_new _ (by simp; omega) | refine blk_alloc ?_ _)
      rw [hW4, hQ]
      clear hW4
      have hb34 : Below Wa.heap.size Wa W4 := hb3.trans (hb4.mono hb3.size)
      have kp : W4.heap[P]? = some (.cells #[.int .i64 (j : Int)] 3) := blk_below ka hb34 (by omega)
      have hg4 : W2.grownBy W4 (some g) := hga.trans ((grown_below23 hb34).but _)
      have hCG4 : W4.heap[g]? = some (.cells CG tg (0, 0)) := blk_below (blk_below hCG hba (blk_lt hCG)) hb34 (by omega)
      have hpt : Rd W4 W4.heap.size 2 Ap N (pC pts) := (Rd.of_own o3).go hb4
      have kn1 : W4.heap[n + 1]? = some (.cells #[.slice (some ⟨g, 0, none⟩) L.length cg] 55 (0, 0)) := (hg4.block _ (by omega) (fun e => by cases e; omega)).trans I1.out
      have hM4 : Marked (n + 5) ds W4 := (hM.keep (keeps_below23 hba)).keep (keeps_below23 hb34)
      have hbw4 : ∀ k, k < n → k ≠ g → W4.heap[k]? = w.heap[k]? := fun k h1 h2 => (hg4.block k (by omega) (fun e => by cases e; exact h2 rfl)).trans (HB2.out.block k h1)
      have hAW4 : Rd W4 W4.heap.size 33 A L.length (enL L) := by
        refine ⟨HAg.out.1, fun h0 => ?_⟩
        obtain ⟨b, off, e1, e2, e3⟩ := HAg.out.pos h0
        exact ⟨b, off, e1, by omega, fun k hk => (World.cell?_of_block (hbw4 b (by omega) (by omega))).trans (e3 k hk)⟩
      have hAg : ∀ b off, keyA L.length A = some ⟨b, off, none⟩ → b < g := keyA_lt HAg.out
      have hJ0 : CmpJ L f (stepX L f vul all X0 j) pts tg g (Q + 1) j W4 [] W4 := ⟨kx_refl, kq1, CG, _, hCG4, hGC, PutOk.nil_⟩
      have Hpt := Lib.hid hpt
      have HM4 := Lib.hid hM4
      have Hg4 := Lib.hid hg4
      have KP := Lib.hid kp
      have KN1 := Lib.hid kn1
      have KQ0 := Lib.hid kq0
      have o3b := o3.1
      have hog : ∀ b, Ap = some ⟨b, 0, none⟩ → P + 1 ≤ b ∧ b < Q := fun b e => by
        have := o3.lt b (by rw [e]; rfl)
        omega
      have hofs : Hid (0 < N → ∃ b, Ap = some ⟨b, 0, none⟩) := Lib.hid (fun h0 => by
        rcases o3.2 with ⟨_, h⟩ | ⟨b, cap, cur, h, _⟩
        · omega
        · injection h with h1; exact ⟨b, h1⟩)
      clear hgr hCG hGC hM hga hba hRd o3 hb3 hb4 hb34 kp hg4 hCG4 hpt kn1 hM4 hbw4 ka kq0 kq1 o3b
      refine wpIn_rangeFunc_ownG (F := Fence.wide) rfl (by decide) (gf := 35) (lb := #[.pointer (some ⟨Q + 1 + 1, 0, none⟩), .pointer (some ⟨Q + 1 + 1 + 1, 0, none⟩)]) rfl trivial (enters_of Tryz.func35 (by kernel_rfl) rfl)
        (fentries_stops 4 (by decide) (Q + 1 + 1) (Q + 1 + 1 + 1) L HO.out (by omega) A c f W4 kq2 kq3 hAW4) keepE_t (keepE_b (by omega) (by omega) (fun b off e => by have := hAg b off e; omega)) (Below.refl _ _) (fun _ => rfl)
        (CmpJ L f (stepX L f vul all X0 j) pts tg g (Q + 1) j W4) (fun _ _ _ => False) (cmpJ_own (Nat.le_refl _)) (fun _ _ _ _ _ hs _ _ => hs) hJ0
        (fun x => { tmps := #[.slice A L.length c, .int .u8 f, .int .u8 vul, .int .i64 all, .slice (some ⟨g, 0, none⟩) L.length cg, undef, undef, .pointer (some ⟨n, 0, none⟩), undef, .pointer (some ⟨n + 1, 0, none⟩), .pointer (some ⟨n + 1 + 1, 0, none⟩), .pointer (some ⟨n + 1 + 1 + 1, 0, none⟩), undef, undef, undef, undef, undef, .pointer (some ⟨P, 0, none⟩), .slice Aj N cj, .pointer (some ⟨Q, 0, none⟩), .int .i64 0, .pointer (some ⟨Q + 1, 0, none⟩), .int .i64 (x.1.1 : Int), .slice A L.length c, .int .u8 f, .func (.func 35) #[] #[.pointer (some ⟨n + 1 + 1 + 1 + 1, 0, none⟩), .pointer (some ⟨n + 1 + 1 + 1 + 1 + 1, 0, none⟩)], undef, undef, undef, undef, undef, undef, undef, undef, undef, undef, undef, undef, undef, undef, undef, undef, undef, undef, undef, undef, undef, undef, undef, undef, .agg #[.slice A0 N c0, .slice A1 N c1], .int .i64 (j : Int), .bool true, .int .i64 (j : Int), .slice Aj N cj, .tuple #[.slice Ap N cp, .int .i64 0], .slice Aj N cj, .int .i64 all, .tuple #[.slice Ap N cp, .int .i64 0], .slice Ap N cp, .int .i64 0, .int .i64 0, .bool false, undef, .slice A L.length c, .int .u8 f, .func (.func 35) #[] #[.pointer (some ⟨Q + 1 + 1, 0, none⟩), .pointer (some ⟨Q + 1 + 1 + 1, 0, none⟩)], .int .i64 (x.1.1 : Int), .agg (L[x.1.1]).C, undef, undef, undef, undef, undef, undef, undef, undef, undef, undef, undef, u80], defers := [] }) ?assign2 ?body2 ?done2 ?stop2
      case assign2 =>
        intro l x W K hK
        go_simp
        gi_wp2
        exact hK
      case body2 =>
        rintro l pre x W5 hJ hlen
        have HJ := Lib.hid hJ
        obtain ⟨⟨x1, hx1⟩, hx2⟩ := x
        obtain ⟨⟨-, -, -, hs5, hk5⟩, hp5, CH, X, hCH, hGX, hPO⟩ := hJ
        rw [hN] at hlen
        obtain ⟨b, rfl⟩ := hofs.out (by omega)
        obtain ⟨hb1, hb2⟩ := hog b rfl
        obtain ⟨b', off', e1, e2, e3⟩ := Hpt.out.pos (by omega)
        obtain ⟨rfl, rfl⟩ : b = b' ∧ 0 = off' := by injection e1 with e1; injection e1 with e1 e1'; exact ⟨e1, e1'⟩
        have hget := pC_get pts pre.length (by omega)
        have HPp : pts[pre.length]? = some (pts[pre.length]'(by omega)) := List.getElem?_eq_getElem _
        have hpl := pC_len pts
        have c9 := blk_cell ((hk5 (n + 1) (by omega) (by omega) (by omega)).trans KN1.out) 0
        have c17 := blk_cell ((hk5 P (by omega) (by omega) (by omega)).trans KP.out) 0
        have c19 := blk_cell ((hk5 Q (by omega) (by omega) (by omega)).trans KQ0.out) 0
        have c21 := blk_cell hp5 0
        have d0 : W5.cell? ⟨b, pre.length * 2, none⟩ = some (.int .i64 (pts[pre.length]'(by omega)).1) := by
          have h := (World.cell?_of_block (a := ⟨b, 0 + pre.length * 2, none⟩) (hk5 b (by omega) (by omega) (by omega))).trans ((e3 (pre.length * 2) (by omega)).trans hget.1)
          rwa [Nat.zero_add] at h
        have d1 : W5.cell? ⟨b, pre.length * 2 + 1, none⟩ = some (.int .i64 (pts[pre.length]'(by omega)).2) := by
          have h := (World.cell?_of_block (a := ⟨b, 0 + (pre.length * 2 + 1), none⟩) (hk5 b (by omega) (by omega) (by omega))).trans ((e3 (pre.length * 2 + 1) (by omega)).trans hget.2)
          rwa [Nat.zero_add] at h
        obtain ⟨g1, g2⟩ := hGX.2 x1 j hx1 hlt
        have w0 := (blk_cell hCH (x1 * 4 + j * 2)).trans g1
        have w1 := (blk_cell hCH (x1 * 4 + j * 2 + 1)).trans g2
        have f0 := blk_free hCH (x1 * 4 + j * 2)
        have f1 := blk_free hCH (x1 * 4 + j * 2 + 1)
        have m0 : (0 : Int) ≤ (pre.length : Int) := by omega
        have m1 : (pre.length : Int) < (N : Int) := by omega
        have m2 : (0 : Int) ≤ (x1 : Int) := by omega
        have m3 : (x1 : Int) < (L.length : Int) := by omega
        have m4 : (0 : Int) ≤ (j : Int) := by omega
        have m5 : (j : Int) < 2 := by omega
        clear e1 e2 e3 hget hpl hCH hGX hPO hk5 hp5 hs5 g1 g2
        generalize pts[pre.length]'_ = pt at d0 d1 HPp
        obtain ⟨p1, p2⟩ := pt
        dsimp only at d0 d1 ⊢
        have hmx : Tryz.prog.follows .mixedOrders = true := by kernel_rfl
        gi_wp2
        refine region_round (S := (fun w1 => w1.cell? ⟨n + 1, 0, none⟩ = some (.slice (some ⟨g, 0, none⟩) L.length cg) ∧ w1.cell? ⟨P, 0, none⟩ = some (.int .i64 (j : Int)) ∧ w1.cell? ⟨Q, 0, none⟩ = some (.slice (some ⟨b, 0, none⟩) N cp) ∧ w1.cell? ⟨Q + 1, 0, none⟩ = some (.int .i64 (pre.length : Int)) ∧ w1.cell? ⟨b, pre.length * 2, none⟩ = some (.int .i64 p1) ∧ w1.cell? ⟨b, pre.length * 2 + 1, none⟩ = some (.int .i64 p2))) hmx (by kernel_rfl) (fun ⟨_, _, h⟩ => h) ⟨c9, c17, c19, c21, d0, d1⟩ (fun hHeld => ?_)
        refine take_named23 (i := 0) (d := 69) (v := ?v0) rfl (by kernel_rfl) (by kernel_rfl) (by kernel_rfl) (by kernel_rfl) (fun _ _ _ h => h) (Or.inl ⟨by kernel_rfl, ?y0⟩) (by assumption) ?_
        case y0 => intro wq hSw; (try dsimp only at hSw); go_simp; (try with_reducible rfl)
        (try simp only [Act.put, List.setIfInBounds_toArray, List.set_cons_zero, List.set_cons_succ])
        refine take_named23 (i := 1) (d := 70) (v := ?v1) rfl (by kernel_rfl) (by kernel_rfl) (by kernel_rfl) (by kernel_rfl) (fun _ _ _ h => h) (Or.inl ⟨by kernel_rfl, ?y1⟩) (by assumption) ?_
        case y1 => intro wq hSw; (try dsimp only at hSw); go_simp; (try with_reducible rfl)
        (try simp only [Act.put, List.setIfInBounds_toArray, List.set_cons_zero, List.set_cons_succ])
        refine take_named23 (i := 2) (d := 71) (v := ?v2) rfl (by kernel_rfl) (by kernel_rfl) (by kernel_rfl) (by kernel_rfl) (fun _ _ _ h => h) (Or.inl ⟨by kernel_rfl, ?y2⟩) (by assumption) ?_
        case y2 => intro wq hSw; (try dsimp only at hSw); go_simp; (try with_reducible rfl)
        (try simp only [Act.put, List.setIfInBounds_toArray, List.set_cons_zero, List.set_cons_succ])
        refine take_named23 (i := 3) (d := 72) (v := ?v3) rfl (by kernel_rfl) (by kernel_rfl) (by kernel_rfl) (by kernel_rfl) (fun _ _ _ h => h) (Or.inl ⟨by kernel_rfl, ?y3⟩) (by assumption) ?_
        case y3 => intro wq hSw; (try dsimp only at hSw); go_simp; (try with_reducible rfl)
        (try simp only [Act.put, List.setIfInBounds_toArray, List.set_cons_zero, List.set_cons_succ])
        refine take_named23 (i := 4) (d := 73) (v := ?v4) rfl (by kernel_rfl) (by kernel_rfl) (by kernel_rfl) (by kernel_rfl) (fun _ _ _ h => h) (Or.inl ⟨by kernel_rfl, ?y4⟩) (by assumption) ?_
        case y4 => intro wq hSw; (try dsimp only at hSw); go_simp; (try with_reducible rfl)
        (try simp only [Act.put, List.setIfInBounds_toArray, List.set_cons_zero, List.set_cons_succ])
        refine take_named23 (i := 5) (d := 74) (v := ?v5) rfl (by kernel_rfl) (by kernel_rfl) (by kernel_rfl) (by kernel_rfl) (fun _ _ _ h => h) (Or.inl ⟨by kernel_rfl, ?y5⟩) (by assumption) ?_
        case y5 => intro wq hSw; (try dsimp only at hSw); go_simp; (try with_reducible rfl)
        (try simp only [Act.put, List.setIfInBounds_toArray, List.set_cons_zero, List.set_cons_succ])
        refine take_named23 (i := 6) (d := 75) (v := ?v6) rfl (by kernel_rfl) (by kernel_rfl) (by kernel_rfl) (by kernel_rfl) (fun _ _ _ h => h) (Or.inl ⟨by kernel_rfl, ?y6⟩) (by assumption) ?_
        case y6 => intro wq hSw; (try dsimp only at hSw); go_simp; (try with_reducible rfl)
        (try simp only [Act.put, List.setIfInBounds_toArray, List.set_cons_zero, List.set_cons_succ])
        refine take_named23 (i := 7) (d := 76) (v := ?v7) rfl (by kernel_rfl) (by kernel_rfl) (by kernel_rfl) (by kernel_rfl) (fun _ _ _ h => h) (Or.inl ⟨by kernel_rfl, ?y7⟩) (by assumption) ?_
        case y7 => intro wq hSw; (try dsimp only at hSw); go_simp; (try with_reducible rfl)
        (try simp only [Act.put, List.setIfInBounds_toArray, List.set_cons_zero, List.set_cons_succ])
        refine take_named23 (i := 8) (d := 77) (v := ?v8) rfl (by kernel_rfl) (by kernel_rfl) (by kernel_rfl) (by kernel_rfl) (fun _ _ _ h => h) (Or.inl ⟨by kernel_rfl, ?y8⟩) (by assumption) ?_
        case y8 => intro wq hSw; (try dsimp only at hSw); go_simp; (try with_reducible rfl)
        (try simp only [Act.put, List.setIfInBounds_toArray, List.set_cons_zero, List.set_cons_succ])
        have far : ∀ (q : Addr) (u v : Value), q.block ≠ g → (((W5.setCell ⟨g, x1 * 4 + j * 2, none⟩ u).setCell ⟨g, x1 * 4 + j * 2 + 1, none⟩ v).drew).cell? q = W5.cell? q := fun q u v h => World.cell?_of_block (blk_far (blk_far rfl h _) h _)
        have HSn := Lib.hid (fun u v => (And.intro ((far ⟨n + 1, 0, none⟩ u v (by show n + 1 ≠ g; omega)).trans c9) (And.intro ((far ⟨P, 0, none⟩ u v (by show P ≠ g; omega)).trans c17) (And.intro ((far ⟨Q, 0, none⟩ u v (by show Q ≠ g; omega)).trans c19) (And.intro ((far ⟨Q + 1, 0, none⟩ u v (by show Q + 1 ≠ g; omega)).trans c21) (And.intro ((far ⟨b, pre.length * 2, none⟩ u v (by show b ≠ g; omega)).trans d0) ((far ⟨b, pre.length * 2 + 1, none⟩ u v (by show b ≠ g; omega)).trans d1)))))))
        have hf6 : W5.frozen? ⟨Q + 1, 0, none⟩ = false := blk_free HJ.out.2.1 0
        have ff : ∀ (u v : Value), (((W5.setCell ⟨g, x1 * 4 + j * 2, none⟩ u).setCell ⟨g, x1 * 4 + j * 2 + 1, none⟩ v).drew).frozen? ⟨Q + 1, 0, none⟩ = false := fun u v => (World.frozen?_of_block (blk_far (blk_far rfl (by show Q + 1 ≠ g; omega) _) (by show Q + 1 ≠ g; omega) _)).trans hf6
        have Hff := Lib.hid ff
        have Hc21 := Lib.hid (fun u v => (far ⟨Q + 1, 0, none⟩ u v (by show Q + 1 ≠ g; omega)).trans c21)
        clear far hf6 ff
        refine wpAnyH_ready (rs := [9]) (by kernel_rfl) (by simp) ?_
        refine AllReadyH.cons rfl (fun K hK => ?_) AllReadyH.nil
        go_simp
        refine hK.out _ _ (HSn.out _ _) (fun hHeld1 => ?_)
        clear hK K hHeld hHeld1
        (try simp only [Act.put, List.setIfInBounds_toArray, List.set_cons_zero, List.set_cons_succ])
        refine wpAnyH_done (by kernel_rfl) ?_ _
        have b21 := Hc21.out (.int .i64 p1) (.int .i64 p2)
        have bf := Hff.out (.int .i64 p1) (.int .i64 p2)
        have HStep := Lib.hid (fun Bs Bf hq => cmpJ_step (B := W4.heap.size) HJ.out ⟨⟨x1, hx1⟩, hx2⟩ (p1, p2) HPp hlt (show g < Q + 1 by omega) hAg Bs Bf hq)
        have hpl2 : (pre.length : Int) ≤ 1000000 := by omega
        generalize ((W5.setCell ⟨g, x1 * 4 + j * 2, none⟩ (.int .i64 p1)).setCell ⟨g, x1 * 4 + j * 2 + 1, none⟩ (.int .i64 p2)).drew = W6 at b21 bf HStep
        clear c9 c17 c19 c21 d0 d1 w0 w1 f0 f1 HSn Hff Hc21
        gi_wp2
        exact HStep.out (Q + 1 + 1) (Q + 1 + 1 + 1) (by omega)
      case done2 =>
        rintro D ys W5 hD rfl hJ hK2
        obtain ⟨⟨hk1, hk2, hk3, hs5, hk5⟩, hp5, CH, X, hCH, hGX, hPO⟩ := hJ
        have hne : ∀ E ∈ ds, E ≠ Q + 1 := fun E hE e => by
          have h1 := (HM4.out.2 E hE).2
          rw [e, hJ0.2.1] at h1
          cases h1
        have hM5 : Marked (n + 5) ds W5 := ⟨HM4.out.1, fun E hE => by
          obtain ⟨h1, h2⟩ := HM4.out.2 E hE
          exact ⟨h1, (hk5 E (Array.getElem?_eq_some_iff.1 h2).1 (by omega) (hne E hE)).trans h2⟩⟩
        have hDn : D ∉ ds := fun hE => by
          have h1 := (Array.getElem?_eq_some_iff.1 (HM4.out.2 D hE).2).1
          omega
        have hH5 : CmpH L f vul all X0 tg g n W2 (j + 1) (D :: ds) W5 := by
          refine ⟨by omega, ⟨hk1.trans Hg4.out.os, hk2.trans Hg4.out.tape, hk3.trans Hg4.out.output, Nat.le_trans Hg4.out.size hs5, fun k h1 h2 => ?_⟩, ⟨CH, hCH, hGX.congr (fun i s hi hs => HPut.out X hPO i s hi)⟩, hM5.push hK2 (by omega) hDn⟩
          exact (hk5 k (by omega) (fun e => h2 (by rw [e])) (by omega)).trans (Hg4.out.block k h1 h2)
        have HH5 := Lib.hid hH5
        clear hk1 hk2 hk3 hs5 hk5 hp5 hCH hGX hPO hne hM5 hDn hH5 hK2 hJ0
        dsimp only
        gi_wp2
        refine ⟨⟨j + 1, D :: ds, _, _, _, _, _, _, _, _, _, _, _, _, _, _, _, _, _, _, _, _, rfl, HH5.out⟩, ?_⟩
        simp [intOf]
        omega
      case stop2 =>
        rintro D c pre W _ _ h _
        exact h.elim
    · obtain rfl : j = 2 := by omega
      obtain ⟨-, hgr, ⟨CG, hCG, hGC⟩, hM⟩ := HH.out
      have hW2n : n + 6 < W2.heap.size := by have := (Array.getElem?_eq_some_iff.1 hK).1; omega
      have k2 : W.heap[n + 1 + 1]? = some (.cells #[.int .i64 0] 26 (0, 0)) := (hgr.block _ (by omega) (fun e => by cases e; omega)).trans I2.out
      have HEnd := Lib.hid (cmp_end hn hgn HB2.out hgr (by omega) hCG hM k2)
      have HC := Lib.hid hGC
      have c10 := blk_cell k2 0
      have f10 := blk_free k2 0
      clear hgr hCG hGC hM k2
      gi_wp2
      obtain ⟨e1, e2, e3, e4, e5⟩ := HEnd.out
      have r0 := blk_cell e3 0
      refine leaves_marks ds _ e1 e2 ?_
      refine ⟨.int .i64 0, ?_, rfl, e4, CG, e5, HC.out⟩
      simp [results, Tryz.f17, go_sem, r0]
  case stop =>
    rintro D c pre W _ _ h _
    exact h.elim

end Go.Proofs.YtchklobblkddhaaGreatDoor
