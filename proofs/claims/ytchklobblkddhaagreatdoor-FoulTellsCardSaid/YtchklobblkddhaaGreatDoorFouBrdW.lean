/- The walk of foul.Board. -/
import Derived.Test.YtchklobblkddhaaGreatDoorFouCmpW
import Derived.Test.YtchklobblkddhaaGreatDoorFouVal
namespace Go.Proofs.YtchklobblkddhaaGreatDoor
open Go.RowKit Go.Shelf

/-- A whole variable in a region that draws. -/
theorem yieldsIf_load_row23 {P : Program} {ops : Array Oper} {S : World → Prop} {op : Oper} {a : Act} (hw : Region.wanted op (yielded ops a.tmps) = true) (ty : TypeId) (x : Operand) (ho : op.op = .load ty x)
    (g : Nat) (hx : a.eval x = .pointer (some ⟨g, 0, none⟩)) (t : TypeId) (cs : Array Value) (fr : Nat × Nat) (d : TypeDesc) (hS : ∀ w, S w → w.heap[g]? = some (.cells cs t fr))
    (hu : P.underlying ty = some d) (hd : (match d with | .struct _ | .array _ _ => true | _ => false) = true) (hi : (P.info? ty).map (·.size) = some cs.size) : YieldsIf P ops S op (.agg cs) a :=
  .inl ⟨hw, fun w hw' => by
    unfold execOp
    simp only [ho, hx, Instr.loadAt, Instr.sureAddr, Sem.run_bind, Sem.run_pure, Result.andThen_ok, run_loadVar_row w g t ty cs fr d (hS w hw') hu hd hi]⟩
theorem info_pair : (Tryz.prog.info? 56).map (fun i => (i.zero, i.size, i.bytes)) = some (some (.agg #[.int .i64 0, .int .i64 0, .int .i64 0, .int .i64 0]), 4, 32) := by kernel_rfl
theorem info_line : (Tryz.prog.info? 41).map (fun i => (i.zero, i.size, i.bytes)) = some (some (.agg #[.int .i64 0, .int .i64 0, .int .i64 0, .int .i64 0, .bool false]), 5, 40) := by kernel_rfl
/-- The cells of n entries that get nothing yet. -/
def pairZ (n : Nat) : Array Value := madeCells #[.int .i64 0, .int .i64 0, .int .i64 0, .int .i64 0] (n * 4)
theorem pairZ_gc (n : Nat) : GC (pairZ n) n (fun _ _ => (0, 0)) := by
  refine ⟨by simp [pairZ, size_madeCells], fun i s hi hs => ?_⟩
  have key : ∀ j, j < n * 4 → (pairZ n)[j]? = some (.int .i64 0) := fun j hj => by
    have h2 : j < (pairZ n).size := by simp [pairZ, size_madeCells]; exact hj
    rw [Array.getElem?_eq_getElem h2]
    simp [pairZ, madeCells]
    have hm := Nat.mod_lt j (show 0 < 4 by decide)
    rcases (show j % 4 = 0 ∨ j % 4 = 1 ∨ j % 4 = 2 ∨ j % 4 = 3 by omega) with h | h | h | h <;> simp [h]
  exact ⟨key _ (by omega), key _ (by omega)⟩
theorem make_pairs (W : World) (n : Nat) (hn : n ≤ 65536) : (Instr.makeSlice 55 (.int .i64 (n : Int)) (.int .i64 (n : Int))).run Tryz.prog W = .ok (.slice (some ⟨W.heap.size, 0, none⟩) n n) (W.alloc (.cells (pairZ n) 56)) := by
  obtain ⟨i0, hi, hz0, hz1, hz2⟩ := info_parts info_pair
  have hr := run_make (P := Tryz.prog) W 55 56 i0 _ Tryz.underlying55 hi hz0 .i64 .i64 (n : Int) (n : Int) (by omega) (by omega) (by rw [hz2]; omega) (by omega)
  rw [hr, hz1]
  rfl
def lineZ (n : Nat) : Array Value := madeCells #[.int .i64 0, .int .i64 0, .int .i64 0, .int .i64 0, .bool false] (n * 5)
theorem lineZ_size (n : Nat) : (lineZ n).size = n * 5 := size_madeCells _ _
theorem make_lines (W : World) (n : Nat) (hn : n ≤ 65536) : (Instr.makeSlice 25 (.int .i64 0) (.int .i64 (n : Int))).run Tryz.prog W = .ok (.slice (some ⟨W.heap.size, 0, none⟩) 0 n) (W.alloc (.cells (lineZ n) 41)) := by
  obtain ⟨i0, hi, hz0, hz1, hz2⟩ := info_parts info_line
  have hr := run_make (P := Tryz.prog) W 25 41 i0 _ Tryz.underlying25 hi hz0 .i64 .i64 0 (n : Int) (by omega) (by omega) (by rw [hz2]; omega) (by omega)
  rw [hr, hz1]
  rfl

set_option maxRecDepth 100000 in
set_option maxHeartbeats 1000000 in
theorem fboard_vul (L : List Ent) (A : Option Addr) (c : Nat) (vul : Int) (w : World) (hv : 3 < vul) :
    Calls Tryz.prog 6 #[.slice A L.length c, .int .u8 vul] w fun e w' => e = .returned (.tuple #[.slice none 0 0, .int .i64 2]) ∧ Below w.heap.size w w' := by
  go_enter Tryz.func6, Tryz.ntmps6
  go_wp2
  go_ret2
  exact ⟨rfl, Below.refl _ _⟩

set_option maxRecDepth 100000 in
set_option maxHeartbeats 1000000 in
theorem fboard_bad (L : List Ent) (A : Option Addr) (c : Nat) (vul : Int) (w : World) (hO : ∀ e ∈ L, e.Ok) (hA : Rd w w.heap.size 33 A L.length (enL L)) (hLn : L.length ≤ 1000000) (hL : LaidS w) (h0 : chkE L ≠ 0) (hv : vul ≤ 3) :
    Calls Tryz.prog 6 #[.slice A L.length c, .int .u8 vul] w fun e w' => e = .returned (.tuple #[.slice none 0 0, .int .i64 (chkE L)]) ∧ Below w.heap.size w w' := by
  have HC := Lib.hid (fall_bad L A c w hO hA hLn hL h0)
  generalize chkE L = N at *
  have t0 : (N == 0) = false := beq_eq_false_iff_ne.2 h0
  have t1 : (N != 0) = true := by rw [bne, t0]; rfl
  have hv' : ¬ 3 < vul := by omega
  clear hO hA hL
  go_enter Tryz.func6, Tryz.ntmps6
  go_wp2_with fail
  refine HC.out.mono ?_
  rintro ee w2 ⟨rfl, hb⟩
  go_wp2
  go_ret2
  exact ⟨rfl, hb.alloc hb.size _⟩

set_option maxRecDepth 100000 in
set_option maxHeartbeats 2000000 in
theorem fboard_ok (L : List Ent) (A : Option Addr) (c : Nat) (vul : Int) (w : World) (hO : ∀ e ∈ L, e.Ok) (hA : Rd w w.heap.size 33 A L.length (enL L)) (hLn : L.length ≤ 24) (hL : LaidS w) (hLm : Laid w) (hR : ∀ e ∈ L, e.right = true) (hv : 0 ≤ vul ∧ vul ≤ 3) :
    Calls Tryz.prog 6 #[.slice A L.length c, .int .u8 vul] w fun e w' => ∃ v, e = .returned (.tuple #[v, .int .i64 0]) ∧ w'.ownsRow w.heap.size 41 5 v L.length (lnC (boardTo L vul L.length)) ∧ Below w.heap.size w w' := by
  have hchk : chkE L = 0 := by unfold chkE; rw [if_pos (List.all_eq_true.2 hR), if_neg (by omega)]
  have hC := fall_ok L A c w hO hA (by omega) hL hchk
  unfold cntC at hC
  have HC := Lib.hid hC
  have hv' : ¬ 3 < vul := by omega
  have HO := Lib.hid hO
  have HA := Lib.hid hA
  have HL := Lib.hid hL
  have HLm := Lib.hid hLm
  have HR := Lib.hid hR
  clear hO hA hL hLm hR hchk hC
  go_enter Tryz.func6, Tryz.ntmps6
  go_wp2_with fail
  refine HC.out.mono ?_
  rintro ee w2 ⟨rfl, hb⟩
  have hmk := fun W => make_pairs W L.length (by omega)
  go_wp2_with fail
  obtain ⟨g, hg⟩ : ∃ g, w2.heap.size + 1 = g := ⟨_, rfl⟩
  obtain ⟨W1, hW1⟩ : ∃ V, (w2.alloc (.cells #[.int .i64 (inField L 0 : Int), .int .i64 (inField L 1 : Int), .int .i64 (inField L 2 : Int), .int .i64 (inField L 3 : Int)] 32)).alloc (.cells (pairZ L.length) 56) = V := ⟨_, rfl⟩
  have kg : W1.heap[g]? = some (.cells (pairZ L.length) 56 (0, 0)) := by rw [← hW1]; exact blk_new _ (by simp [hg])
  have hB1 : Below w.heap.size w W1 := by rw [← hW1]; exact (hb.alloc hb.size _).alloc (by have := hb.size; simp; omega) _
  have hgw : w.heap.size < g := by have := hb.size; omega
  obtain ⟨nv, hnv⟩ : ∃ nv, notVoid L = nv := ⟨_, rfl⟩
  have hnvl : nv ≤ L.length := by rw [← hnv]; exact List.length_filter_le _ _
  rw [hW1, hnv, hg]
  clear hmk HC hb hW1
  have Hg := Lib.hid hg
  have hgl1 := blk_lt kg
  have Hnv := Lib.hid hnv
  clear hg hnv
  go_loopw [34] (fun i wr => ∃ (k : Nat) (C : Array Value), k ≤ L.length ∧ i = .int .i64 (k : Int) ∧ W1.grownBy wr (some g) ∧ wr.heap[g]? = some (.cells C 56 (0, 0)) ∧ GC C L.length (X1to L (nv : Int) k)) (fun i _ => L.length - (intOf i).toNat)
  case atStart => exact ⟨0, pairZ L.length, Nat.zero_le _, rfl, ⟨rfl, rfl, rfl, Nat.le_refl _, fun _ _ _ => rfl⟩, kg, (pairZ_gc L.length).congr (fun i s _ _ => (X1to_zero L _ i s).symm)⟩
  case round =>
    obtain ⟨k, C, hk, rfl, hgr, hbk, hgc⟩ := hrel
    have Hgr := Lib.hid hgr
    have Hbk := Lib.hid hbk
    have Hgc := Lib.hid hgc
    clear hgr hbk hgc kg
    by_cases hlt : k < L.length
    · obtain ⟨b, off, rfl, hbw, hr⟩ := rd_e (fun e he => (HO.out e he).1.1) HA.out k hlt
      have hr2 := Lib.hid (show wr.rangeAt b (off + k * 33) (L[k]).C.toList from fun j v hv => (World.cell?_of_block (Hgr.out.block b (Nat.lt_of_lt_of_le hbw hB1.size) (fun e => by cases e; omega))).trans ((range_below hr hB1 hbw) j v hv))
      have hok := HO.out _ (List.getElem_mem hlt)
      have hI := Lib.hid (hok.1.size)
      have h33 := Lib.hid (hok.1.1)
      have hone := Lib.hid (hok.2.1)
      have c1 : (0 : Int) ≤ (k : Int) := by omega
      have c2 : (k : Int) < (L.length : Int) := by omega
      have hc4 := hok.1.2.1
      have HX0 := Lib.hid (X1_get L (nv : Int) k 0 hlt)
      have HX1 := Lib.hid (X1_get L (nv : Int) k 1 hlt)
      clear hr
      go_upto_region 10 with (first | (refine wpList_load_ent rfl 51 (.tmp 37) rfl b (off + k * 33) rfl _ _ hr2.out Tryz.underlying51 rfl hI.out ?_) | (refine plain_alloc_to rfl 51 rfl enZ enZ_zero ?_) | (refine wpList_store_new23 rfl 51 _ _ rfl (L[k]).C _ _ rfl rfl hI.out (by rw [h33.out]; rfl) hone.out ?_))
      obtain ⟨W5, hW5⟩ : ∃ V, wr.alloc (.cells (L[k]).C 51) = V := ⟨_, rfl⟩
      obtain ⟨G, hG⟩ : ∃ g, wr.heap.size = g := ⟨_, rfl⟩
      have KG := Lib.hid (show W5.heap[G]? = some (.cells (L[k]).C 51 (0, 0)) by rw [← hW5]; exact blk_new _ hG.symm)
      have Hgr5 := Lib.hid (show W1.grownBy W5 (some g) by rw [← hW5]; exact Hgr.out.trans ((grown_alloc23 _ _).but _))
      have Hbk5 := Lib.hid (show W5.heap[g]? = some (.cells C 56 (0, 0)) by rw [← hW5]; exact blk_alloc Hbk.out _)
      have q4 := (blk_cell KG.out 4).trans hc4
      rw [hW5, hG]
      clear hW5 hG hc4 hr2 Hgr Hbk
      by_cases h0 : (L[k]).k = 0
      · rw [h0] at q4
        have e0 : X1 L (nv : Int) k 0 = (0, 0) := by rw [HX0.out, if_pos h0]
        have e1 : X1 L (nv : Int) k 1 = (0, 0) := by rw [HX1.out, if_pos h0]
        have Hend := Lib.hid (Hgc.out.congr (Y := X1to L (nv : Int) (k + 1)) (fun i s _ hs => by
          rcases (show s = 0 ∨ s = 1 by omega) with rfl | rfl
          · exact (X1to_same L _ k i 0 hlt e0).symm
          · exact (X1to_same L _ k i 1 hlt e1).symm))
        clear e0 e1 h0
        go_wp2
        go_roundw
        case rel => exact ⟨k + 1, C, hlt, by go_num, Hgr5.out, Hbk5.out, Hend.out⟩
        case measure => simp [intOf]; omega
      · have t0 : ((L[k]).k == 0) = false := beq_eq_false_iff_ne.2 h0
        by_cases ha : (nv : Int) = 1
        · have t1 : ((nv : Int) == 1) = true := by rw [ha]; rfl
          have HE := Lib.hid ((Hgc.out.set4 k hlt (0, 1) (0, 1)).congr (fun i s _ hs => X1to_upd L _ k i s hs _ _ (by rw [HX0.out, if_neg h0, if_pos ha]) (by rw [HX1.out, if_neg h0, if_pos ha])))
          obtain ⟨g0, g1, g2, g3⟩ := Hgc.out.get4 k hlt
          have w0 := (blk_cell Hbk5.out (k * 4)).trans g0
          have w1 := (blk_cell Hbk5.out (k * 4 + 1)).trans g1
          have w2' := (blk_cell Hbk5.out (k * 4 + 2)).trans g2
          have w3 := (blk_cell Hbk5.out (k * 4 + 3)).trans g3
          have f0 := blk_free Hbk5.out (k * 4)
          have f1 := blk_free Hbk5.out (k * 4 + 1)
          have f2 := blk_free Hbk5.out (k * 4 + 2)
          have f3 := blk_free Hbk5.out (k * 4 + 3)
          clear ha h0 g0 g1 g2 g3
          go_wp2
          go_roundw
          case rel => exact ⟨k + 1, _, hlt, by go_num, (((Hgr5.out.trans (grown_setCell23 _ ⟨g, k * 4, none⟩ _)).trans (grown_setCell23 _ ⟨g, k * 4 + 1, none⟩ _)).trans (grown_setCell23 _ ⟨g, k * 4 + 2, none⟩ _)).trans (grown_setCell23 _ ⟨g, k * 4 + 3, none⟩ _), blk_set (blk_set (blk_set (blk_set Hbk5.out (k * 4) _) (k * 4 + 1) _) (k * 4 + 2) _) (k * 4 + 3) _, HE.out⟩
          case measure => simp [intOf]; omega
        · have t1 : ((nv : Int) == 1) = false := beq_eq_false_iff_ne.2 ha
          by_cases h4 : (L[k]).k = 4
          · have hnb : 1 ≤ (nv : Int) ∧ (nv : Int) ≤ 24 := by
              have := notVoid_one L k hlt h0
              rw [Hnv.out] at this
              omega
            have HAw := Lib.hid (fun W hW => award_some (L[k]).C (L[k]).f (L[k]).a0 (L[k]).a1 (nv : Int) (L[k]).o (h4 ▸ hok.1) hok.2.2.1 hok.2.2.2.1 hnb (by have := HR.out _ (List.getElem_mem hlt); unfold Ent.right at this; rwa [h4] at this) W hW)
            have HE := Lib.hid (fun (p q : Pt) (e0 : awardF (L[k]).a0 (nv : Int) = p) (e1 : awardF (L[k]).a1 (nv : Int) = q) => (Hgc.out.set4 k hlt p q).congr (fun i s _ hs => X1to_upd L _ k i s hs p q (by rw [HX0.out, if_neg h0, if_neg ha, if_pos h4, ← e0]; rfl) (by rw [HX1.out, if_neg h0, if_neg ha, if_pos h4, ← e1]; rfl)))
            have HE2 := Lib.hid (HE.out _ _ rfl rfl)
            clear HE
            generalize awardF (L[k]).a0 (nv : Int) = mp at HAw HE2
            generalize awardF (L[k]).a1 (nv : Int) = mr at HAw HE2
            obtain ⟨m1, m2⟩ := mp
            obtain ⟨m3, m4⟩ := mr
            unfold fV at HAw
            dsimp only at HAw HE2
            rw [h4] at q4
            obtain ⟨g0, g1, g2, g3⟩ := Hgc.out.get4 k hlt
            have hLW5 : LaidS W5 := by
              have hb5 : Below g W1 W5 := Below.grown (Below.refl _ _) Hgr5.out (Nat.le_of_lt hgl1) (fun k e => by cases e; exact Nat.le_refl _)
              exact (HL.out.below (hB1.trans (hb5.mono (Nat.le_of_lt hgw))) HL.out.lt)
            have HLW5 := Lib.hid hLW5
            have hgG : g ≠ G := fun e => by rw [e] at Hbk5; have h1 := Hbk5.out.symm.trans KG.out; injection h1 with h1; injection h1 with _ h2; cases h2
            have hgl5 := blk_lt Hbk5.out
            have hGl5 := blk_lt KG.out
            clear ha h0 h4 hLW5 hok
            go_wp2
            refine wp_region_held_drew (S := (fun w1 => w1.heap[G]? = some (.cells (L[k]).C 51 (0, 0)))) (by kernel_rfl) KG.out (fun hHeld => ?_)
            refine take_named23 (i := 0) (d := 57) (v := ?v0) rfl (by kernel_rfl) (by kernel_rfl) (by kernel_rfl) (by kernel_rfl) (fun _ _ _ h => h) (Or.inl ⟨by kernel_rfl, ?y0⟩) (by assumption) ?_
            case y0 => intro wq hSw; (try dsimp only at hSw); go_simp; (try with_reducible rfl)
            (try simp only [Act.put, List.setIfInBounds_toArray, List.set_cons_zero, List.set_cons_succ])
            refine take_named23 (i := 1) (d := 58) (v := ?v1) rfl (by kernel_rfl) (by kernel_rfl) (by kernel_rfl) (by kernel_rfl) (fun _ _ _ h => h) (Or.inl ⟨by kernel_rfl, ?y1⟩) (by assumption) ?_
            case y1 => intro wq hSw; (try dsimp only at hSw); go_simp; (try with_reducible rfl)
            (try simp only [Act.put, List.setIfInBounds_toArray, List.set_cons_zero, List.set_cons_succ])
            refine take_named23 (i := 2) (d := 59) (v := ?v2) rfl (by kernel_rfl) (by kernel_rfl) (by kernel_rfl) (by kernel_rfl) (fun _ _ _ h => h) (Or.inl ⟨by kernel_rfl, ?y2⟩) (by assumption) ?_
            case y2 => intro wq hSw; (try dsimp only at hSw); go_simp; (try with_reducible rfl)
            (try simp only [Act.put, List.setIfInBounds_toArray, List.set_cons_zero, List.set_cons_succ])
            refine take_named23 (i := 3) (d := 60) (v := ?v3) rfl (by kernel_rfl) (by kernel_rfl) (by kernel_rfl) (by kernel_rfl) (fun _ _ _ h => h) (Or.inl ⟨by kernel_rfl, ?y3⟩) (by assumption) ?_
            case y3 => intro wq hSw; (try dsimp only at hSw); go_simp; (try with_reducible rfl)
            (try simp only [Act.put, List.setIfInBounds_toArray, List.set_cons_zero, List.set_cons_succ])
            refine take_named23 (i := 4) (d := 61) (v := .agg (L[k]).C) rfl (by kernel_rfl) (by kernel_rfl) (by kernel_rfl) (by kernel_rfl) (fun _ _ _ h => h) (yieldsIf_load_row23 (by kernel_rfl) 51 (.tmp 11) rfl G rfl 51 (L[k]).C (0, 0) _ (fun w h => h) Tryz.underlying51 rfl hI.out) (by assumption) ?_
            (try simp only [Act.put, List.setIfInBounds_toArray, List.set_cons_zero, List.set_cons_succ])
            refine take_named23 (i := 5) (d := 62) (v := ?v5) rfl (by kernel_rfl) (by kernel_rfl) (by kernel_rfl) (by kernel_rfl) (fun _ _ _ h => h) (Or.inl ⟨by kernel_rfl, ?y5⟩) (by assumption) ?_
            case y5 => intro wq hSw; (try dsimp only at hSw); go_simp; (try with_reducible rfl)
            (try simp only [Act.put, List.setIfInBounds_toArray, List.set_cons_zero, List.set_cons_succ])
            refine take_named23 (i := 11) (d := 67) (v := ?v11) rfl (by kernel_rfl) (by kernel_rfl) (by kernel_rfl) (by kernel_rfl) (fun _ _ _ h => h) (Or.inl ⟨by kernel_rfl, ?y11⟩) (by assumption) ?_
            case y11 => intro wq hSw; (try dsimp only at hSw); go_simp; (try with_reducible rfl)
            (try simp only [Act.put, List.setIfInBounds_toArray, List.set_cons_zero, List.set_cons_succ])
            refine take_named23 (i := 14) (d := 69) (v := ?v14) rfl (by kernel_rfl) (by kernel_rfl) (by kernel_rfl) (by kernel_rfl) (fun _ _ _ h => h) (Or.inl ⟨by kernel_rfl, ?y14⟩) (by assumption) ?_
            case y14 => intro wq hSw; (try dsimp only at hSw); go_simp; (try with_reducible rfl)
            (try simp only [Act.put, List.setIfInBounds_toArray, List.set_cons_zero, List.set_cons_succ])
            refine wpAnyH_ready (rs := [6]) (by kernel_rfl) (by simp) ?_
            refine AllReadyH.cons rfl (fun K hK => ?_) AllReadyH.nil
            go_simp
            refine (HAw.out W5.drew (show LaidS W5.drew from HLW5.out)).mono ?_
            rintro ee wa ⟨rfl, hbd⟩
            have hba : Below W5.heap.size W5 wa := ⟨hbd.os, hbd.tape, hbd.output, hbd.size, hbd.block⟩
            clear hbd
            refine hK.out _ _ (blk_below KG.out hba hGl5) (fun hHeld6 => ?_)
            clear hK K hHeld
            (try simp only [Act.put, List.setIfInBounds_toArray, List.set_cons_zero, List.set_cons_succ])
            have Hka := Lib.hid (show wa.heap[g]? = some (.cells C 56 (0, 0)) from blk_below Hbk5.out hba hgl5)
            have Hga := Lib.hid (show W1.grownBy wa (some g) from Hgr5.out.trans ((grown_below23 hba).but _))
            refine take_named23 (i := 7) (d := 56) (v := ?v7) rfl (by kernel_rfl) (by kernel_rfl) (by kernel_rfl) (by kernel_rfl) (fun _ _ _ h => h) (Or.inl ⟨by kernel_rfl, ?y7⟩) (by assumption) ?_
            case y7 => intro wq hSw; (try dsimp only at hSw); go_simp; (try with_reducible rfl)
            (try simp only [Act.put, List.setIfInBounds_toArray, List.set_cons_zero, List.set_cons_succ])
            refine take_named23 (i := 8) (d := 64) (v := ?v8) rfl (by kernel_rfl) (by kernel_rfl) (by kernel_rfl) (by kernel_rfl) (fun _ _ _ h => h) (Or.inl ⟨by kernel_rfl, ?y8⟩) (by assumption) ?_
            case y8 => intro wq hSw; (try dsimp only at hSw); go_simp; (try with_reducible rfl)
            (try simp only [Act.put, List.setIfInBounds_toArray, List.set_cons_zero, List.set_cons_succ])
            refine take_named23 (i := 9) (d := 65) (v := ?v9) rfl (by kernel_rfl) (by kernel_rfl) (by kernel_rfl) (by kernel_rfl) (fun _ _ _ h => h) (Or.inl ⟨by kernel_rfl, ?y9⟩) (by assumption) ?_
            case y9 => intro wq hSw; (try dsimp only at hSw); go_simp; (try with_reducible rfl)
            (try simp only [Act.put, List.setIfInBounds_toArray, List.set_cons_zero, List.set_cons_succ])
            refine take_named23 (i := 10) (d := 66) (v := ?v10) rfl (by kernel_rfl) (by kernel_rfl) (by kernel_rfl) (by kernel_rfl) (fun _ _ _ h => h) (Or.inl ⟨by kernel_rfl, ?y10⟩) (by assumption) ?_
            case y10 => intro wq hSw; (try dsimp only at hSw); go_simp; (try with_reducible rfl)
            (try simp only [Act.put, List.setIfInBounds_toArray, List.set_cons_zero, List.set_cons_succ])
            refine take_named23 (i := 12) (d := 68) (v := ?v12) rfl (by kernel_rfl) (by kernel_rfl) (by kernel_rfl) (by kernel_rfl) (fun _ _ _ h => h) (Or.inl ⟨by kernel_rfl, ?y12⟩) (by assumption) ?_
            case y12 => intro wq hSw; (try dsimp only at hSw); go_simp; (try with_reducible rfl)
            (try simp only [Act.put, List.setIfInBounds_toArray, List.set_cons_zero, List.set_cons_succ])
            have w0 := (blk_cell Hka.out (k * 4)).trans g0
            have w1 := (blk_cell Hka.out (k * 4 + 1)).trans g1
            have f0 := blk_free Hka.out (k * 4)
            have f1 := blk_free Hka.out (k * 4 + 1)
            refine wpAnyH_ready (rs := [13]) (by kernel_rfl) (by simp) ?_
            refine AllReadyH.cons rfl (fun K hK => ?_) AllReadyH.nil
            go_simp
            refine hK.out _ _ (blk_far (blk_far hHeld6 (by show G ≠ g; exact fun e => hgG e.symm) _) (by show G ≠ g; exact fun e => hgG e.symm) _) (fun hHeld13 => ?_)
            clear hK K 
            (try simp only [Act.put, List.setIfInBounds_toArray, List.set_cons_zero, List.set_cons_succ])
            obtain ⟨Wb, hWb⟩ : ∃ V, (wa.setCell ⟨g, k * 4, none⟩ (.int .i64 m1)).setCell ⟨g, k * 4 + 1, none⟩ (.int .i64 m2) = V := ⟨_, rfl⟩
            have Hkb := Lib.hid (show Wb.heap[g]? = some (.cells ((C.setIfInBounds (k * 4) (.int .i64 m1)).setIfInBounds (k * 4 + 1) (.int .i64 m2)) 56 (0, 0)) by rw [← hWb]; exact blk_set (blk_set Hka.out (k * 4) (.int .i64 m1)) (k * 4 + 1) (.int .i64 m2))
            have Hgb := Lib.hid (show W1.grownBy Wb (some g) by rw [← hWb]; exact (Hga.out.trans (grown_setCell23 _ ⟨g, k * 4, none⟩ _)).trans (grown_setCell23 _ ⟨g, k * 4 + 1, none⟩ _))
            rw [hWb] at hHeld13
            rw [hWb]
            have w2b := (blk_cell Hkb.out (k * 4 + 2)).trans ((by rw [Array.getElem?_setIfInBounds_ne (by omega), Array.getElem?_setIfInBounds_ne (by omega)] : ((C.setIfInBounds (k * 4) (.int .i64 m1)).setIfInBounds (k * 4 + 1) (.int .i64 m2))[k * 4 + 2]? = C[k * 4 + 2]?).trans g2)
            have w3b := (blk_cell Hkb.out (k * 4 + 3)).trans ((by rw [Array.getElem?_setIfInBounds_ne (by omega), Array.getElem?_setIfInBounds_ne (by omega)] : ((C.setIfInBounds (k * 4) (.int .i64 m1)).setIfInBounds (k * 4 + 1) (.int .i64 m2))[k * 4 + 3]? = C[k * 4 + 3]?).trans g3)
            have f2 := blk_free Hkb.out (k * 4 + 2)
            have f3 := blk_free Hkb.out (k * 4 + 3)
            clear hWb w0 w1 f0 f1 g0 g1 g2 g3
            refine take_named23 (i := 15) (d := 70) (v := ?v15) rfl (by kernel_rfl) (by kernel_rfl) (by kernel_rfl) (by kernel_rfl) (fun _ _ _ h => h) (Or.inl ⟨by kernel_rfl, ?y15⟩) (by assumption) ?_
            case y15 => intro wq hSw; (try dsimp only at hSw); go_simp; (try with_reducible rfl)
            (try simp only [Act.put, List.setIfInBounds_toArray, List.set_cons_zero, List.set_cons_succ])
            refine wpAnyH_ready (rs := [16]) (by kernel_rfl) (by simp) ?_
            refine AllReadyH.cons rfl (fun K hK => ?_) AllReadyH.nil
            go_simp
            refine hK.out _ _ (blk_far (blk_far hHeld13 (by show G ≠ g; exact fun e => hgG e.symm) _) (by show G ≠ g; exact fun e => hgG e.symm) _) (fun hHeld16 => ?_)
            clear hK K 
            (try simp only [Act.put, List.setIfInBounds_toArray, List.set_cons_zero, List.set_cons_succ])
            refine take_named23 (i := 17) (d := 8) (v := ?v17) rfl (by kernel_rfl) (by kernel_rfl) (by kernel_rfl) (by kernel_rfl) (fun _ _ _ h => h) (Or.inl ⟨by kernel_rfl, ?y17⟩) (by assumption) ?_
            case y17 => intro wq hSw; (try dsimp only at hSw); go_simp; (try with_reducible rfl)
            (try simp only [Act.put, List.setIfInBounds_toArray, List.set_cons_zero, List.set_cons_succ])
            refine wpAnyH_done (by kernel_rfl) ?_ _
            obtain ⟨Wc, hWc⟩ : ∃ V, (Wb.setCell ⟨g, k * 4 + 2, none⟩ (.int .i64 m3)).setCell ⟨g, k * 4 + 3, none⟩ (.int .i64 m4) = V := ⟨_, rfl⟩
            have Hkc := Lib.hid (show Wc.heap[g]? = some (.cells ((((C.setIfInBounds (k * 4) (.int .i64 m1)).setIfInBounds (k * 4 + 1) (.int .i64 m2)).setIfInBounds (k * 4 + 2) (.int .i64 m3)).setIfInBounds (k * 4 + 3) (.int .i64 m4)) 56 (0, 0)) by rw [← hWc]; exact blk_set (blk_set Hkb.out (k * 4 + 2) _) (k * 4 + 3) _)
            have Hgc2 := Lib.hid (show W1.grownBy Wc (some g) by rw [← hWc]; exact (Hgb.out.trans (grown_setCell23 _ ⟨g, k * 4 + 2, none⟩ _)).trans (grown_setCell23 _ ⟨g, k * 4 + 3, none⟩ _))
            rw [hWc]
            clear hWc w2b w3b f2 f3
            go_wp2
            go_roundw
            case rel => exact ⟨k + 1, _, hlt, by go_num, Hgc2.out, Hkc.out, HE2.out⟩
            case measure => simp [intOf]; omega
          · have t4 : ((L[k]).k == 4) = false := beq_eq_false_iff_ne.2 h4
            have e0 : X1 L (nv : Int) k 0 = (0, 0) := by rw [HX0.out, if_neg h0, if_neg ha, if_neg h4]
            have e1 : X1 L (nv : Int) k 1 = (0, 0) := by rw [HX1.out, if_neg h0, if_neg ha, if_neg h4]
            have Hend := Lib.hid (Hgc.out.congr (Y := X1to L (nv : Int) (k + 1)) (fun i s _ hs => by
              rcases (show s = 0 ∨ s = 1 by omega) with rfl | rfl
              · exact (X1to_same L _ k i 0 hlt e0).symm
              · exact (X1to_same L _ k i 1 hlt e1).symm))
            clear e0 e1 h0 ha h4
            go_wp2
            go_roundw
            case rel => exact ⟨k + 1, C, hlt, by go_num, Hgr5.out, Hbk5.out, Hend.out⟩
            case measure => simp [intOf]; omega
    · obtain rfl : k = L.length := by omega
      go_wp2
      go_loopw [75] (fun i wx => ∃ (j : Nat) (C : Array Value), j ≤ 4 ∧ i = .int .i64 (j : Int) ∧ W1.grownBy wx (some g) ∧ wx.heap[g]? = some (.cells C 56 (0, 0)) ∧ GC C L.length (XF L vul (nv : Int) j) ∧ (nv < 2 → j = 0)) (fun i _ => 4 - (intOf i).toNat)
      case atStart => exact ⟨0, C, by omega, rfl, Hgr.out, Hbk.out, Hgc.out, fun _ => rfl⟩
      case round =>
        obtain ⟨j, C, hj, rfl, hgr, hbk, hgc, hj0⟩ := hrel
        rename World => wx
        have Hgr := Lib.hid hgr
        have Hbk := Lib.hid hbk
        have Hgc := Lib.hid hgc
        clear hgr hbk hgc
        by_cases hlt : j < 4 ∧ ¬ nv < 2
        · obtain ⟨hlt, hnv2⟩ := hlt
          have hc1 : (j : Int) < 4 := by omega
          have hc2 : ¬ (nv : Int) < 2 := by omega
          have hwr : IntKind.u8.wrap (j : Int) = (j : Int) := IntWalk.u8_in _ (by omega)
          have hbx : Below g W1 wx := Below.grown (Below.refl _ _) Hgr.out (Nat.le_of_lt hgl1) (fun k e => by cases e; exact Nat.le_refl _)
          have hbw : Below w.heap.size w wx := hB1.trans (hbx.mono (Nat.le_of_lt hgw))
          have HCm := Lib.hid (fcompare_any L A c (j : Int) vul (nv : Int) g L.length 56 C (XF L vul (nv : Int) j) wx HO.out ((HA.out.below hbw).more (Nat.le_of_lt hgw)) hLn (HL.out.below hbw HL.out.lt) (HLm.out.below hbw HLm.out.lt) HR.out hv
            (by rw [itAll_cnt]; have := inField_le L (j : Int); rw [Hnv.out] at this; omega) (Nat.lt_trans HL.out.lt hgw) (Nat.lt_trans HLm.out.lt hgw) Hbk.out Hgc.out)
          clear hbx hbw
          go_wp2_with fail
          refine HCm.out.mono ?_
          rintro ee wy ⟨rfl, hgy, C1, hC1, hgc1⟩
          have HF := Lib.hid (And.intro (Hgr.out.trans hgy) (And.intro hC1 hgc1))
          clear hgy hC1 hgc1 HCm hj0
          go_wp2
          go_roundw
          case rel => exact ⟨j + 1, C1, hlt, by go_num, HF.out.1, HF.out.2.1, HF.out.2.2, fun h => absurd h hnv2⟩
          case measure => simp [intOf]; omega
        · have hfin : GC C L.length (XB L vul (nv : Int)) := by
            by_cases h2 : nv < 2
            · obtain rfl : j = 0 := hj0 h2
              exact Hgc.out.congr (fun i s hi _ => by rw [← Hnv.out]; exact X1_low L vul i s hi (by rw [Hnv.out]; exact h2))
            · obtain rfl : j = 4 := by omega
              exact Hgc.out.congr (fun i s hi hs => XF_four L vul _ i s hi hs HO.out HR.out (by omega))
          have HFin := Lib.hid hfin
          have hway : (j = 0 ∧ nv < 2) ∨ (j = 4 ∧ ¬ nv < 2) := by
            by_cases h2 : nv < 2
            · exact .inl ⟨hj0 h2, h2⟩
            · exact .inr ⟨by omega, h2⟩
          have hml := fun W => make_lines W L.length (by omega)
          clear hfin hlt hj0 Hgc hj
          rcases hway with ⟨rfl, hnv2⟩ | ⟨rfl, hnv2⟩
          · have hc2 : (nv : Int) < 2 := by omega
            go_wp2
            clear hc2 hnv2
            obtain ⟨b3, hb3⟩ : ∃ b, wx.heap.size = b := ⟨_, rfl⟩
            obtain ⟨W3, hW3⟩ : ∃ V, wx.alloc (.cells (lineZ L.length) 41) = V := ⟨_, rfl⟩
            have hgl3 : g < b3 := by rw [← hb3]; exact blk_lt Hbk.out
            have kg3 : W3.heap[g]? = some (.cells C 56 (0, 0)) := by rw [← hW3]; exact blk_alloc Hbk.out _
            have hbx : Below g W1 wx := Below.grown (Below.refl _ _) Hgr.out (Nat.le_of_lt hgl1) (fun k e => by cases e; exact Nat.le_refl _)
            have hB3 : Below w.heap.size w W3 := by rw [← hW3]; exact (hB1.trans (hbx.mono (Nat.le_of_lt hgw))).alloc (by have := hbx.size; omega) _
            have hown0 : W3.ownsRow b3 41 5 (.slice (some ⟨b3, 0, none⟩) 0 L.length) 0 (lnC (boardTo L vul 0)) := by rw [← hW3]; exact own_room _ _ _ _ _ _ hb3.symm (by unfold maxLen; omega) (lineZ_size _)
            have hb3s : b3 ≤ W3.heap.size := by rw [← hW3]; simp; omega
            obtain ⟨i0, hi, hz0, hz1, hz2⟩ := info_parts info_line
            rw [hW3, hb3]
            have KG3 := Lib.hid kg3
            have HB3 := Lib.hid hB3
            have hwb : w.heap.size ≤ b3 := by have := hbx.size; omega
            clear hW3 hb3 hml Hgr Hbk hbx kg3 hB3
            go_loopw [14, 96] (fun v i wr => ∃ (k : Nat), k ≤ L.length ∧ i = .int .i64 (k : Int) ∧ wr.ownsRow b3 41 5 v k (lnC (boardTo L vul k)) ∧ Below b3 W3 wr) (fun _ i _ => L.length - (intOf i).toNat)
            case atStart => exact ⟨0, Nat.zero_le _, rfl, hown0, Below.refl _ _⟩
            case round =>
              obtain ⟨k, hk, rfl, hown, hbel⟩ := hrel
              have Hown := Lib.hid hown
              have Hbel := Lib.hid hbel
              clear hown hbel hown0
              by_cases hlt : k < L.length
              · obtain ⟨b, off, rfl, hbw, hr⟩ := rd_e (fun e he => (HO.out e he).1.1) HA.out k hlt
                have hr2 := Lib.hid (show wr.rangeAt b (off + k * 33) (L[k]).C.toList from range_below (range_below hr HB3.out hbw) Hbel.out (Nat.lt_of_lt_of_le hbw hwb))
                have hok := HO.out _ (List.getElem_mem hlt)
                have hI := Lib.hid (hok.1.size)
                have h33 := Lib.hid (hok.1.1)
                have hone := Lib.hid (hok.2.1)
                have c1 : (0 : Int) ≤ (k : Int) := by omega
                have c2 : (k : Int) < (L.length : Int) := by omega
                have hc4 := hok.1.2.1
                obtain ⟨cb, hcb⟩ : ∃ cb, (decide ((L[k]).k ≠ 0) && decide ((nv : Int) > 1)) = cb := ⟨_, rfl⟩
                have HLn := Lib.hid (show lineE L vul k = (XB L vul (nv : Int) k 0, XB L vul (nv : Int) k 1, cb) by unfold lineE; rw [Hnv.out, List.getElem?_eq_getElem hlt]; show (_, _, (decide ((L[k]).k ≠ 0) && decide ((nv : Int) > 1))) = _; rw [hcb])
                have HCb := Lib.hid hcb
                obtain ⟨g0, g1, g2, g3⟩ := HFin.out.get4 k hlt
                have HG4 := Lib.hid (And.intro g0 (And.intro g1 (And.intro g2 g3)))
                clear hr hok hcb g0 g1 g2 g3
                go_upto_region 30 with (first | (refine wpList_load_ent rfl 51 (.tmp 99) rfl b (off + k * 33) rfl _ _ hr2.out Tryz.underlying51 rfl hI.out ?_) | (refine plain_alloc_to rfl 51 rfl enZ enZ_zero ?_) | (refine wpList_store_new23 rfl 51 _ _ rfl (L[k]).C _ _ rfl rfl hI.out (by rw [h33.out]; rfl) hone.out ?_))
                obtain ⟨W5, hW5⟩ : ∃ V, wr.alloc (.cells (L[k]).C 51) = V := ⟨_, rfl⟩
                obtain ⟨G, hG⟩ : ∃ g, wr.heap.size = g := ⟨_, rfl⟩
                have KG := Lib.hid (show W5.heap[G]? = some (.cells (L[k]).C 51 (0, 0)) by rw [← hW5]; exact blk_new _ hG.symm)
                have hbel5 : Below b3 W3 W5 := by rw [← hW5]; exact Hbel.out.alloc (by have := Hbel.out.size; omega) _
                have HBel5 := Lib.hid hbel5
                have HOwn5 := Lib.hid (show W5.ownsRow b3 41 5 u14 k (lnC (boardTo L vul k)) by rw [← hW5]; exact Hown.out.alloc _)
                have K5 := Lib.hid (blk_below KG3.out hbel5 hgl3)
                have q4 := (blk_cell KG.out 4).trans hc4
                rw [hW5, hG]
                clear hW5 hG hc4 hr2 Hown Hbel hbel5
                go_frame
                go_cut [17] (fun v wz => v = .bool cb ∧ W5 = wz)
                case first =>
                  by_cases h0 : (L[k]).k = 0
                  · obtain rfl : cb = false := by rw [← HCb.out, h0]; rfl
                    rw [h0] at q4
                    clear h0
                    go_wp2_with fail
                    go_meet
                    exact ⟨rfl, rfl⟩
                  · have t0 : ((L[k]).k == 0) = false := beq_eq_false_iff_ne.2 h0
                    have t0n : ((L[k]).k != 0) = true := by rw [bne, t0]; rfl
                    have e0 : decide ((L[k]).k ≠ 0) = true := decide_eq_true h0
                    by_cases h1 : (nv : Int) > 1
                    · obtain rfl : cb = true := by rw [← HCb.out, e0, decide_eq_true h1]; rfl
                      have h1 : (1 : Int) < (nv : Int) := h1
                      clear h0 e0
                      go_wp2_with fail
                      go_meet
                      exact ⟨rfl, rfl⟩
                    · obtain rfl : cb = false := by rw [← HCb.out, e0, decide_eq_false h1]; rfl
                      have h1 : ¬ (1 : Int) < (nv : Int) := h1
                      clear h0 e0
                      go_wp2_with fail
                      go_meet
                      exact ⟨rfl, rfl⟩
                case rest =>
                  obtain ⟨rfl, rfl⟩ := hcut
                  have hS0 : W5.cell? ⟨g, k * 4, none⟩ = some (.int .i64 (XB L vul (nv : Int) k 0).1) ∧ W5.cell? ⟨g, k * 4 + 1, none⟩ = some (.int .i64 (XB L vul (nv : Int) k 0).2) ∧ W5.cell? ⟨g, k * 4 + 2, none⟩ = some (.int .i64 (XB L vul (nv : Int) k 1).1) ∧ W5.cell? ⟨g, k * 4 + 3, none⟩ = some (.int .i64 (XB L vul (nv : Int) k 1).2) := ⟨(blk_cell K5.out _).trans HG4.out.1, (blk_cell K5.out _).trans HG4.out.2.1, (blk_cell K5.out _).trans HG4.out.2.2.1, (blk_cell K5.out _).trans HG4.out.2.2.2⟩
                  have HSu := Lib.hid (boardTo_succ L vul k)
                  generalize XB L vul (nv : Int) k 0 = p at hS0 HLn HG4
                  generalize XB L vul (nv : Int) k 1 = q at hS0 HLn HG4
                  obtain ⟨p1, p2⟩ := p
                  obtain ⟨r1, r2⟩ := q
                  dsimp only at hS0 HLn HG4
                  have m1 : k ≤ 24 := by omega
                  go_wp2
                  refine wp_region_held_drew (S := (fun w1 => w1.cell? ⟨g, k * 4, none⟩ = some (.int .i64 p1) ∧ w1.cell? ⟨g, k * 4 + 1, none⟩ = some (.int .i64 p2) ∧ w1.cell? ⟨g, k * 4 + 2, none⟩ = some (.int .i64 r1) ∧ w1.cell? ⟨g, k * 4 + 3, none⟩ = some (.int .i64 r2))) (by kernel_rfl) hS0 (fun hHeld => ?_)
                  refine take_named23 (i := 0) (d := 108) (v := ?vb0) rfl (by kernel_rfl) (by kernel_rfl) (by kernel_rfl) (by kernel_rfl) (fun _ _ _ h => h) (Or.inl ⟨by kernel_rfl, ?yb0⟩) (by assumption) ?_
                  case yb0 => intro wq hSw; (try dsimp only at hSw); go_simp; (try with_reducible rfl)
                  (try simp only [Act.put, List.setIfInBounds_toArray, List.set_cons_zero, List.set_cons_succ])
                  refine take_named23 (i := 1) (d := 109) (v := ?vb1) rfl (by kernel_rfl) (by kernel_rfl) (by kernel_rfl) (by kernel_rfl) (fun _ _ _ h => h) (Or.inl ⟨by kernel_rfl, ?yb1⟩) (by assumption) ?_
                  case yb1 => intro wq hSw; (try dsimp only at hSw); go_simp; (try with_reducible rfl)
                  (try simp only [Act.put, List.setIfInBounds_toArray, List.set_cons_zero, List.set_cons_succ])
                  refine take_named23 (i := 2) (d := 110) (v := ?vb2) rfl (by kernel_rfl) (by kernel_rfl) (by kernel_rfl) (by kernel_rfl) (fun _ _ _ h => h) (Or.inl ⟨by kernel_rfl, ?yb2⟩) (by assumption) ?_
                  case yb2 => intro wq hSw; (try dsimp only at hSw); go_simp; (try with_reducible rfl)
                  (try simp only [Act.put, List.setIfInBounds_toArray, List.set_cons_zero, List.set_cons_succ])
                  refine take_named23 (i := 3) (d := 111) (v := ?vb3) rfl (by kernel_rfl) (by kernel_rfl) (by kernel_rfl) (by kernel_rfl) (fun _ _ _ h => h) (Or.inl ⟨by kernel_rfl, ?yb3⟩) (by assumption) ?_
                  case yb3 => intro wq hSw; (try dsimp only at hSw); go_simp; (try with_reducible rfl)
                  (try simp only [Act.put, List.setIfInBounds_toArray, List.set_cons_zero, List.set_cons_succ])
                  refine take_named23 (i := 4) (d := 112) (v := ?vb4) rfl (by kernel_rfl) (by kernel_rfl) (by kernel_rfl) (by kernel_rfl) (fun _ _ _ h => h) (Or.inl ⟨by kernel_rfl, ?yb4⟩) (by assumption) ?_
                  case yb4 => intro wq hSw; (try dsimp only at hSw); go_simp; (try with_reducible rfl)
                  (try simp only [Act.put, List.setIfInBounds_toArray, List.set_cons_zero, List.set_cons_succ])
                  refine take_named23 (i := 5) (d := 113) (v := ?vb5) rfl (by kernel_rfl) (by kernel_rfl) (by kernel_rfl) (by kernel_rfl) (fun _ _ _ h => h) (Or.inl ⟨by kernel_rfl, ?yb5⟩) (by assumption) ?_
                  case yb5 => intro wq hSw; (try dsimp only at hSw); go_simp; (try with_reducible rfl)
                  (try simp only [Act.put, List.setIfInBounds_toArray, List.set_cons_zero, List.set_cons_succ])
                  refine take_named23 (i := 6) (d := 114) (v := ?vb6) rfl (by kernel_rfl) (by kernel_rfl) (by kernel_rfl) (by kernel_rfl) (fun _ _ _ h => h) (Or.inl ⟨by kernel_rfl, ?yb6⟩) (by assumption) ?_
                  case yb6 => intro wq hSw; (try dsimp only at hSw); go_simp; (try with_reducible rfl)
                  (try simp only [Act.put, List.setIfInBounds_toArray, List.set_cons_zero, List.set_cons_succ])
                  refine take_named23 (i := 7) (d := 115) (v := ?vb7) rfl (by kernel_rfl) (by kernel_rfl) (by kernel_rfl) (by kernel_rfl) (fun _ _ _ h => h) (Or.inl ⟨by kernel_rfl, ?yb7⟩) (by assumption) ?_
                  case yb7 => intro wq hSw; (try dsimp only at hSw); go_simp; (try with_reducible rfl)
                  (try simp only [Act.put, List.setIfInBounds_toArray, List.set_cons_zero, List.set_cons_succ])
                  refine take_named23 (i := 8) (d := 116) (v := ?vb8) rfl (by kernel_rfl) (by kernel_rfl) (by kernel_rfl) (by kernel_rfl) (fun _ _ _ h => h) (Or.inl ⟨by kernel_rfl, ?yb8⟩) (by assumption) ?_
                  case yb8 => intro wq hSw; (try dsimp only at hSw); go_simp; (try with_reducible rfl)
                  (try simp only [Act.put, List.setIfInBounds_toArray, List.set_cons_zero, List.set_cons_succ])
                  refine take_named23 (i := 9) (d := 117) (v := ?vb9) rfl (by kernel_rfl) (by kernel_rfl) (by kernel_rfl) (by kernel_rfl) (fun _ _ _ h => h) (Or.inl ⟨by kernel_rfl, ?yb9⟩) (by assumption) ?_
                  case yb9 => intro wq hSw; (try dsimp only at hSw); go_simp; (try with_reducible rfl)
                  (try simp only [Act.put, List.setIfInBounds_toArray, List.set_cons_zero, List.set_cons_succ])
                  refine take_named23 (i := 10) (d := 118) (v := ?vb10) rfl (by kernel_rfl) (by kernel_rfl) (by kernel_rfl) (by kernel_rfl) (fun _ _ _ h => h) (Or.inl ⟨by kernel_rfl, ?yb10⟩) (by assumption) ?_
                  case yb10 => intro wq hSw; (try dsimp only at hSw); go_simp; (try with_reducible rfl)
                  (try simp only [Act.put, List.setIfInBounds_toArray, List.set_cons_zero, List.set_cons_succ])
                  refine take_named23 (i := 11) (d := 119) (v := ?vb11) rfl (by kernel_rfl) (by kernel_rfl) (by kernel_rfl) (by kernel_rfl) (fun _ _ _ h => h) (Or.inl ⟨by kernel_rfl, ?yb11⟩) (by assumption) ?_
                  case yb11 => intro wq hSw; (try dsimp only at hSw); go_simp; (try with_reducible rfl)
                  (try simp only [Act.put, List.setIfInBounds_toArray, List.set_cons_zero, List.set_cons_succ])
                  refine take_named23 (i := 12) (d := 120) (v := ?vb12) rfl (by kernel_rfl) (by kernel_rfl) (by kernel_rfl) (by kernel_rfl) (fun _ _ _ h => h) (Or.inl ⟨by kernel_rfl, ?yb12⟩) (by assumption) ?_
                  case yb12 => intro wq hSw; (try dsimp only at hSw); go_simp; (try with_reducible rfl)
                  (try simp only [Act.put, List.setIfInBounds_toArray, List.set_cons_zero, List.set_cons_succ])
                  refine wpAnyH_ready (rs := [13]) (by kernel_rfl) (by simp) ?_
                  refine AllReadyH.cons rfl (fun K hK => ?_) AllReadyH.nil
                  go_simp
                  obtain ⟨W6, hW6⟩ : ∃ V, (W5.alloc (.cells #[.int .i64 p1, .int .i64 p2, .int .i64 r1, .int .i64 r2, .bool cb] 41)).drew = V := ⟨_, rfl⟩
                  have hb6 : Below W5.heap.size W5 W6 := by rw [← hW6]; exact ((Below.refl _ _).alloc (Nat.le_refl _) _).drew
                  have hK6 : W6.heap[W5.heap.size]? = some (.cells #[.int .i64 p1, .int .i64 p2, .int .i64 r1, .int .i64 r2, .bool cb] 41 (0, 0)) := by rw [← hW6]; exact blk_new _ rfl
                  have HN6 := Lib.hid (World.news_of_block hK6)
                  have HO6 := Lib.hid (own_below HOwn5.out hb6 (Nat.le_refl _))
                  have hbs5 := HBel5.out.size
                  have HB6 := Lib.hid (HBel5.out.trans (hb6.mono (by omega)))
                  have hs6 : b3 ≤ W6.heap.size := by have := hb6.size; omega
                  have k6 := blk_below K5.out hb6 (blk_lt K5.out)
                  have HK6 := Lib.hid k6
                  have hgl6 := blk_lt k6
                  have hS6 : W6.cell? ⟨g, k * 4, none⟩ = some (.int .i64 p1) ∧ W6.cell? ⟨g, k * 4 + 1, none⟩ = some (.int .i64 p2) ∧ W6.cell? ⟨g, k * 4 + 2, none⟩ = some (.int .i64 r1) ∧ W6.cell? ⟨g, k * 4 + 3, none⟩ = some (.int .i64 r2) := ⟨(blk_cell k6 _).trans HG4.out.1, (blk_cell k6 _).trans HG4.out.2.1, (blk_cell k6 _).trans HG4.out.2.2.1, (blk_cell k6 _).trans HG4.out.2.2.2⟩
                  rw [hW6]
                  clear hW6 hb6 hK6 k6 hbs5
                  refine hK.out _ _ hS6 (fun hHeld13 => ?_)
                  clear hK K hHeld hS0 hS6
                  (try simp only [Act.put, List.setIfInBounds_toArray, List.set_cons_zero, List.set_cons_succ])
                  have HS13 := Lib.hid hHeld13
                  refine wpAnyH_ready (rs := [14]) (by kernel_rfl) (by simp) ?_
                  refine AllReadyH.cons rfl (fun K hK => ?_) AllReadyH.nil
                  refine step_append_lies _ (by rfl) (.tmp 108) (.tmp 121) 25 (by rfl) b3 41 i0 (.agg #[.int .i64 0, .int .i64 0, .int .i64 0, .int .i64 0, .bool false]) 5 40 Tryz.underlying25 hi hz0 hz1 hz2 (by rfl) (by decide) u14 k (lnC (boardTo L vul k)) (by rfl) HO6.out ⟨W5.heap.size, 0, none⟩ 1 1 [.int .i64 p1, .int .i64 p2, .int .i64 r1, .int .i64 r2, .bool cb] (by rfl) (by rfl) HN6.out (by simp [Value.oneCell']) (by decide) (by unfold maxLen; omega) (by omega) hs6 _ (by rfl) ?_
                  intro g6 cap6 w6 hown6 hgr6 hat6 hlt6
                  have hk7 := (hgr6.block g hgl6 (fun e => by have := (HO6.out.lt g e.symm).1; omega)).trans HK6.out
                  have HB7 := Lib.hid (HB6.out.trans (below_grown23 HO6.out hgr6 hs6))
                  have HO7 := Lib.hid hown6
                  refine hK.out _ _ ⟨(blk_cell hk7 _).trans HG4.out.1, (blk_cell hk7 _).trans HG4.out.2.1, (blk_cell hk7 _).trans HG4.out.2.2.1, (blk_cell hk7 _).trans HG4.out.2.2.2⟩ (fun hHeld14 => ?_)
                  clear hK K hHeld13 hown6 hgr6 hat6 hlt6 hk7
                  (try simp only [Act.put, List.setIfInBounds_toArray])
                  refine take_named23 (i := 15) (d := 14) (v := ?vb15) rfl (by kernel_rfl) (by kernel_rfl) (by kernel_rfl) (by kernel_rfl) (fun _ _ _ h => h) (Or.inl ⟨by kernel_rfl, ?yb15⟩) (by assumption) ?_
                  case yb15 => intro wq hSw; (try dsimp only at hSw); go_simp; (try with_reducible rfl)
                  (try simp only [Act.put])
                  refine wpAnyH_done (by kernel_rfl) ?_ _
                  clear hHeld14
                  go_wp2
                  go_roundw
                  case rel =>
                    have ho : w6.ownsRow b3 41 5 (.slice (some ⟨g6, 0, none⟩) (k + 1) cap6) (k + 1) (lnC (boardTo L vul (k + 1))) := by rw [HSu.out, lnC_app, HLn.out]; exact HO7.out
                    exact ⟨_, _, _, _, _, ⟨k + 1, hlt, rfl, ho, HB7.out⟩, rfl, rfl, rfl, rfl, by go_num⟩
                  case measure => simp [intOf]; omega
              · obtain rfl : k = L.length := by omega
                go_wp2
                go_ret2
                exact ⟨_, rfl, own_mono Hown.out hwb, HB3.out.trans (Hbel.out.mono hwb)⟩
          · go_wp2
            clear hnv2
            obtain ⟨b3, hb3⟩ : ∃ b, wx.heap.size = b := ⟨_, rfl⟩
            obtain ⟨W3, hW3⟩ : ∃ V, wx.alloc (.cells (lineZ L.length) 41) = V := ⟨_, rfl⟩
            have hgl3 : g < b3 := by rw [← hb3]; exact blk_lt Hbk.out
            have kg3 : W3.heap[g]? = some (.cells C 56 (0, 0)) := by rw [← hW3]; exact blk_alloc Hbk.out _
            have hbx : Below g W1 wx := Below.grown (Below.refl _ _) Hgr.out (Nat.le_of_lt hgl1) (fun k e => by cases e; exact Nat.le_refl _)
            have hB3 : Below w.heap.size w W3 := by rw [← hW3]; exact (hB1.trans (hbx.mono (Nat.le_of_lt hgw))).alloc (by have := hbx.size; omega) _
            have hown0 : W3.ownsRow b3 41 5 (.slice (some ⟨b3, 0, none⟩) 0 L.length) 0 (lnC (boardTo L vul 0)) := by rw [← hW3]; exact own_room _ _ _ _ _ _ hb3.symm (by unfold maxLen; omega) (lineZ_size _)
            have hb3s : b3 ≤ W3.heap.size := by rw [← hW3]; simp; omega
            obtain ⟨i0, hi, hz0, hz1, hz2⟩ := info_parts info_line
            rw [hW3, hb3]
            have KG3 := Lib.hid kg3
            have HB3 := Lib.hid hB3
            have hwb : w.heap.size ≤ b3 := by have := hbx.size; omega
            clear hW3 hb3 hml Hgr Hbk hbx kg3 hB3
            go_loopw [14, 96] (fun v i wr => ∃ (k : Nat), k ≤ L.length ∧ i = .int .i64 (k : Int) ∧ wr.ownsRow b3 41 5 v k (lnC (boardTo L vul k)) ∧ Below b3 W3 wr) (fun _ i _ => L.length - (intOf i).toNat)
            case atStart => exact ⟨0, Nat.zero_le _, rfl, hown0, Below.refl _ _⟩
            case round =>
              obtain ⟨k, hk, rfl, hown, hbel⟩ := hrel
              have Hown := Lib.hid hown
              have Hbel := Lib.hid hbel
              clear hown hbel hown0
              by_cases hlt : k < L.length
              · obtain ⟨b, off, rfl, hbw, hr⟩ := rd_e (fun e he => (HO.out e he).1.1) HA.out k hlt
                have hr2 := Lib.hid (show wr.rangeAt b (off + k * 33) (L[k]).C.toList from range_below (range_below hr HB3.out hbw) Hbel.out (Nat.lt_of_lt_of_le hbw hwb))
                have hok := HO.out _ (List.getElem_mem hlt)
                have hI := Lib.hid (hok.1.size)
                have h33 := Lib.hid (hok.1.1)
                have hone := Lib.hid (hok.2.1)
                have c1 : (0 : Int) ≤ (k : Int) := by omega
                have c2 : (k : Int) < (L.length : Int) := by omega
                have hc4 := hok.1.2.1
                obtain ⟨cb, hcb⟩ : ∃ cb, (decide ((L[k]).k ≠ 0) && decide ((nv : Int) > 1)) = cb := ⟨_, rfl⟩
                have HLn := Lib.hid (show lineE L vul k = (XB L vul (nv : Int) k 0, XB L vul (nv : Int) k 1, cb) by unfold lineE; rw [Hnv.out, List.getElem?_eq_getElem hlt]; show (_, _, (decide ((L[k]).k ≠ 0) && decide ((nv : Int) > 1))) = _; rw [hcb])
                have HCb := Lib.hid hcb
                obtain ⟨g0, g1, g2, g3⟩ := HFin.out.get4 k hlt
                have HG4 := Lib.hid (And.intro g0 (And.intro g1 (And.intro g2 g3)))
                clear hr hok hcb g0 g1 g2 g3
                go_upto_region 30 with (first | (refine wpList_load_ent rfl 51 (.tmp 99) rfl b (off + k * 33) rfl _ _ hr2.out Tryz.underlying51 rfl hI.out ?_) | (refine plain_alloc_to rfl 51 rfl enZ enZ_zero ?_) | (refine wpList_store_new23 rfl 51 _ _ rfl (L[k]).C _ _ rfl rfl hI.out (by rw [h33.out]; rfl) hone.out ?_))
                obtain ⟨W5, hW5⟩ : ∃ V, wr.alloc (.cells (L[k]).C 51) = V := ⟨_, rfl⟩
                obtain ⟨G, hG⟩ : ∃ g, wr.heap.size = g := ⟨_, rfl⟩
                have KG := Lib.hid (show W5.heap[G]? = some (.cells (L[k]).C 51 (0, 0)) by rw [← hW5]; exact blk_new _ hG.symm)
                have hbel5 : Below b3 W3 W5 := by rw [← hW5]; exact Hbel.out.alloc (by have := Hbel.out.size; omega) _
                have HBel5 := Lib.hid hbel5
                have HOwn5 := Lib.hid (show W5.ownsRow b3 41 5 u14 k (lnC (boardTo L vul k)) by rw [← hW5]; exact Hown.out.alloc _)
                have K5 := Lib.hid (blk_below KG3.out hbel5 hgl3)
                have q4 := (blk_cell KG.out 4).trans hc4
                rw [hW5, hG]
                clear hW5 hG hc4 hr2 Hown Hbel hbel5
                go_frame
                go_cut [17] (fun v wz => v = .bool cb ∧ W5 = wz)
                case first =>
                  by_cases h0 : (L[k]).k = 0
                  · obtain rfl : cb = false := by rw [← HCb.out, h0]; rfl
                    rw [h0] at q4
                    clear h0
                    go_wp2_with fail
                    go_meet
                    exact ⟨rfl, rfl⟩
                  · have t0 : ((L[k]).k == 0) = false := beq_eq_false_iff_ne.2 h0
                    have t0n : ((L[k]).k != 0) = true := by rw [bne, t0]; rfl
                    have e0 : decide ((L[k]).k ≠ 0) = true := decide_eq_true h0
                    by_cases h1 : (nv : Int) > 1
                    · obtain rfl : cb = true := by rw [← HCb.out, e0, decide_eq_true h1]; rfl
                      have h1 : (1 : Int) < (nv : Int) := h1
                      clear h0 e0
                      go_wp2_with fail
                      go_meet
                      exact ⟨rfl, rfl⟩
                    · obtain rfl : cb = false := by rw [← HCb.out, e0, decide_eq_false h1]; rfl
                      have h1 : ¬ (1 : Int) < (nv : Int) := h1
                      clear h0 e0
                      go_wp2_with fail
                      go_meet
                      exact ⟨rfl, rfl⟩
                case rest =>
                  obtain ⟨rfl, rfl⟩ := hcut
                  have hS0 : W5.cell? ⟨g, k * 4, none⟩ = some (.int .i64 (XB L vul (nv : Int) k 0).1) ∧ W5.cell? ⟨g, k * 4 + 1, none⟩ = some (.int .i64 (XB L vul (nv : Int) k 0).2) ∧ W5.cell? ⟨g, k * 4 + 2, none⟩ = some (.int .i64 (XB L vul (nv : Int) k 1).1) ∧ W5.cell? ⟨g, k * 4 + 3, none⟩ = some (.int .i64 (XB L vul (nv : Int) k 1).2) := ⟨(blk_cell K5.out _).trans HG4.out.1, (blk_cell K5.out _).trans HG4.out.2.1, (blk_cell K5.out _).trans HG4.out.2.2.1, (blk_cell K5.out _).trans HG4.out.2.2.2⟩
                  have HSu := Lib.hid (boardTo_succ L vul k)
                  generalize XB L vul (nv : Int) k 0 = p at hS0 HLn HG4
                  generalize XB L vul (nv : Int) k 1 = q at hS0 HLn HG4
                  obtain ⟨p1, p2⟩ := p
                  obtain ⟨r1, r2⟩ := q
                  dsimp only at hS0 HLn HG4
                  have m1 : k ≤ 24 := by omega
                  go_wp2
                  refine wp_region_held_drew (S := (fun w1 => w1.cell? ⟨g, k * 4, none⟩ = some (.int .i64 p1) ∧ w1.cell? ⟨g, k * 4 + 1, none⟩ = some (.int .i64 p2) ∧ w1.cell? ⟨g, k * 4 + 2, none⟩ = some (.int .i64 r1) ∧ w1.cell? ⟨g, k * 4 + 3, none⟩ = some (.int .i64 r2))) (by kernel_rfl) hS0 (fun hHeld => ?_)
                  refine take_named23 (i := 0) (d := 108) (v := ?vc0) rfl (by kernel_rfl) (by kernel_rfl) (by kernel_rfl) (by kernel_rfl) (fun _ _ _ h => h) (Or.inl ⟨by kernel_rfl, ?yc0⟩) (by assumption) ?_
                  case yc0 => intro wq hSw; (try dsimp only at hSw); go_simp; (try with_reducible rfl)
                  (try simp only [Act.put, List.setIfInBounds_toArray, List.set_cons_zero, List.set_cons_succ])
                  refine take_named23 (i := 1) (d := 109) (v := ?vc1) rfl (by kernel_rfl) (by kernel_rfl) (by kernel_rfl) (by kernel_rfl) (fun _ _ _ h => h) (Or.inl ⟨by kernel_rfl, ?yc1⟩) (by assumption) ?_
                  case yc1 => intro wq hSw; (try dsimp only at hSw); go_simp; (try with_reducible rfl)
                  (try simp only [Act.put, List.setIfInBounds_toArray, List.set_cons_zero, List.set_cons_succ])
                  refine take_named23 (i := 2) (d := 110) (v := ?vc2) rfl (by kernel_rfl) (by kernel_rfl) (by kernel_rfl) (by kernel_rfl) (fun _ _ _ h => h) (Or.inl ⟨by kernel_rfl, ?yc2⟩) (by assumption) ?_
                  case yc2 => intro wq hSw; (try dsimp only at hSw); go_simp; (try with_reducible rfl)
                  (try simp only [Act.put, List.setIfInBounds_toArray, List.set_cons_zero, List.set_cons_succ])
                  refine take_named23 (i := 3) (d := 111) (v := ?vc3) rfl (by kernel_rfl) (by kernel_rfl) (by kernel_rfl) (by kernel_rfl) (fun _ _ _ h => h) (Or.inl ⟨by kernel_rfl, ?yc3⟩) (by assumption) ?_
                  case yc3 => intro wq hSw; (try dsimp only at hSw); go_simp; (try with_reducible rfl)
                  (try simp only [Act.put, List.setIfInBounds_toArray, List.set_cons_zero, List.set_cons_succ])
                  refine take_named23 (i := 4) (d := 112) (v := ?vc4) rfl (by kernel_rfl) (by kernel_rfl) (by kernel_rfl) (by kernel_rfl) (fun _ _ _ h => h) (Or.inl ⟨by kernel_rfl, ?yc4⟩) (by assumption) ?_
                  case yc4 => intro wq hSw; (try dsimp only at hSw); go_simp; (try with_reducible rfl)
                  (try simp only [Act.put, List.setIfInBounds_toArray, List.set_cons_zero, List.set_cons_succ])
                  refine take_named23 (i := 5) (d := 113) (v := ?vc5) rfl (by kernel_rfl) (by kernel_rfl) (by kernel_rfl) (by kernel_rfl) (fun _ _ _ h => h) (Or.inl ⟨by kernel_rfl, ?yc5⟩) (by assumption) ?_
                  case yc5 => intro wq hSw; (try dsimp only at hSw); go_simp; (try with_reducible rfl)
                  (try simp only [Act.put, List.setIfInBounds_toArray, List.set_cons_zero, List.set_cons_succ])
                  refine take_named23 (i := 6) (d := 114) (v := ?vc6) rfl (by kernel_rfl) (by kernel_rfl) (by kernel_rfl) (by kernel_rfl) (fun _ _ _ h => h) (Or.inl ⟨by kernel_rfl, ?yc6⟩) (by assumption) ?_
                  case yc6 => intro wq hSw; (try dsimp only at hSw); go_simp; (try with_reducible rfl)
                  (try simp only [Act.put, List.setIfInBounds_toArray, List.set_cons_zero, List.set_cons_succ])
                  refine take_named23 (i := 7) (d := 115) (v := ?vc7) rfl (by kernel_rfl) (by kernel_rfl) (by kernel_rfl) (by kernel_rfl) (fun _ _ _ h => h) (Or.inl ⟨by kernel_rfl, ?yc7⟩) (by assumption) ?_
                  case yc7 => intro wq hSw; (try dsimp only at hSw); go_simp; (try with_reducible rfl)
                  (try simp only [Act.put, List.setIfInBounds_toArray, List.set_cons_zero, List.set_cons_succ])
                  refine take_named23 (i := 8) (d := 116) (v := ?vc8) rfl (by kernel_rfl) (by kernel_rfl) (by kernel_rfl) (by kernel_rfl) (fun _ _ _ h => h) (Or.inl ⟨by kernel_rfl, ?yc8⟩) (by assumption) ?_
                  case yc8 => intro wq hSw; (try dsimp only at hSw); go_simp; (try with_reducible rfl)
                  (try simp only [Act.put, List.setIfInBounds_toArray, List.set_cons_zero, List.set_cons_succ])
                  refine take_named23 (i := 9) (d := 117) (v := ?vc9) rfl (by kernel_rfl) (by kernel_rfl) (by kernel_rfl) (by kernel_rfl) (fun _ _ _ h => h) (Or.inl ⟨by kernel_rfl, ?yc9⟩) (by assumption) ?_
                  case yc9 => intro wq hSw; (try dsimp only at hSw); go_simp; (try with_reducible rfl)
                  (try simp only [Act.put, List.setIfInBounds_toArray, List.set_cons_zero, List.set_cons_succ])
                  refine take_named23 (i := 10) (d := 118) (v := ?vc10) rfl (by kernel_rfl) (by kernel_rfl) (by kernel_rfl) (by kernel_rfl) (fun _ _ _ h => h) (Or.inl ⟨by kernel_rfl, ?yc10⟩) (by assumption) ?_
                  case yc10 => intro wq hSw; (try dsimp only at hSw); go_simp; (try with_reducible rfl)
                  (try simp only [Act.put, List.setIfInBounds_toArray, List.set_cons_zero, List.set_cons_succ])
                  refine take_named23 (i := 11) (d := 119) (v := ?vc11) rfl (by kernel_rfl) (by kernel_rfl) (by kernel_rfl) (by kernel_rfl) (fun _ _ _ h => h) (Or.inl ⟨by kernel_rfl, ?yc11⟩) (by assumption) ?_
                  case yc11 => intro wq hSw; (try dsimp only at hSw); go_simp; (try with_reducible rfl)
                  (try simp only [Act.put, List.setIfInBounds_toArray, List.set_cons_zero, List.set_cons_succ])
                  refine take_named23 (i := 12) (d := 120) (v := ?vc12) rfl (by kernel_rfl) (by kernel_rfl) (by kernel_rfl) (by kernel_rfl) (fun _ _ _ h => h) (Or.inl ⟨by kernel_rfl, ?yc12⟩) (by assumption) ?_
                  case yc12 => intro wq hSw; (try dsimp only at hSw); go_simp; (try with_reducible rfl)
                  (try simp only [Act.put, List.setIfInBounds_toArray, List.set_cons_zero, List.set_cons_succ])
                  refine wpAnyH_ready (rs := [13]) (by kernel_rfl) (by simp) ?_
                  refine AllReadyH.cons rfl (fun K hK => ?_) AllReadyH.nil
                  go_simp
                  obtain ⟨W6, hW6⟩ : ∃ V, (W5.alloc (.cells #[.int .i64 p1, .int .i64 p2, .int .i64 r1, .int .i64 r2, .bool cb] 41)).drew = V := ⟨_, rfl⟩
                  have hb6 : Below W5.heap.size W5 W6 := by rw [← hW6]; exact ((Below.refl _ _).alloc (Nat.le_refl _) _).drew
                  have hK6 : W6.heap[W5.heap.size]? = some (.cells #[.int .i64 p1, .int .i64 p2, .int .i64 r1, .int .i64 r2, .bool cb] 41 (0, 0)) := by rw [← hW6]; exact blk_new _ rfl
                  have HN6 := Lib.hid (World.news_of_block hK6)
                  have HO6 := Lib.hid (own_below HOwn5.out hb6 (Nat.le_refl _))
                  have hbs5 := HBel5.out.size
                  have HB6 := Lib.hid (HBel5.out.trans (hb6.mono (by omega)))
                  have hs6 : b3 ≤ W6.heap.size := by have := hb6.size; omega
                  have k6 := blk_below K5.out hb6 (blk_lt K5.out)
                  have HK6 := Lib.hid k6
                  have hgl6 := blk_lt k6
                  have hS6 : W6.cell? ⟨g, k * 4, none⟩ = some (.int .i64 p1) ∧ W6.cell? ⟨g, k * 4 + 1, none⟩ = some (.int .i64 p2) ∧ W6.cell? ⟨g, k * 4 + 2, none⟩ = some (.int .i64 r1) ∧ W6.cell? ⟨g, k * 4 + 3, none⟩ = some (.int .i64 r2) := ⟨(blk_cell k6 _).trans HG4.out.1, (blk_cell k6 _).trans HG4.out.2.1, (blk_cell k6 _).trans HG4.out.2.2.1, (blk_cell k6 _).trans HG4.out.2.2.2⟩
                  rw [hW6]
                  clear hW6 hb6 hK6 k6 hbs5
                  refine hK.out _ _ hS6 (fun hHeld13 => ?_)
                  clear hK K hHeld hS0 hS6
                  (try simp only [Act.put, List.setIfInBounds_toArray, List.set_cons_zero, List.set_cons_succ])
                  have HS13 := Lib.hid hHeld13
                  refine wpAnyH_ready (rs := [14]) (by kernel_rfl) (by simp) ?_
                  refine AllReadyH.cons rfl (fun K hK => ?_) AllReadyH.nil
                  refine step_append_lies _ (by rfl) (.tmp 108) (.tmp 121) 25 (by rfl) b3 41 i0 (.agg #[.int .i64 0, .int .i64 0, .int .i64 0, .int .i64 0, .bool false]) 5 40 Tryz.underlying25 hi hz0 hz1 hz2 (by rfl) (by decide) u14 k (lnC (boardTo L vul k)) (by rfl) HO6.out ⟨W5.heap.size, 0, none⟩ 1 1 [.int .i64 p1, .int .i64 p2, .int .i64 r1, .int .i64 r2, .bool cb] (by rfl) (by rfl) HN6.out (by simp [Value.oneCell']) (by decide) (by unfold maxLen; omega) (by omega) hs6 _ (by rfl) ?_
                  intro g6 cap6 w6 hown6 hgr6 hat6 hlt6
                  have hk7 := (hgr6.block g hgl6 (fun e => by have := (HO6.out.lt g e.symm).1; omega)).trans HK6.out
                  have HB7 := Lib.hid (HB6.out.trans (below_grown23 HO6.out hgr6 hs6))
                  have HO7 := Lib.hid hown6
                  refine hK.out _ _ ⟨(blk_cell hk7 _).trans HG4.out.1, (blk_cell hk7 _).trans HG4.out.2.1, (blk_cell hk7 _).trans HG4.out.2.2.1, (blk_cell hk7 _).trans HG4.out.2.2.2⟩ (fun hHeld14 => ?_)
                  clear hK K hHeld13 hown6 hgr6 hat6 hlt6 hk7
                  (try simp only [Act.put, List.setIfInBounds_toArray])
                  refine take_named23 (i := 15) (d := 14) (v := ?vc15) rfl (by kernel_rfl) (by kernel_rfl) (by kernel_rfl) (by kernel_rfl) (fun _ _ _ h => h) (Or.inl ⟨by kernel_rfl, ?yc15⟩) (by assumption) ?_
                  case yc15 => intro wq hSw; (try dsimp only at hSw); go_simp; (try with_reducible rfl)
                  (try simp only [Act.put])
                  refine wpAnyH_done (by kernel_rfl) ?_ _
                  clear hHeld14
                  go_wp2
                  go_roundw
                  case rel =>
                    have ho : w6.ownsRow b3 41 5 (.slice (some ⟨g6, 0, none⟩) (k + 1) cap6) (k + 1) (lnC (boardTo L vul (k + 1))) := by rw [HSu.out, lnC_app, HLn.out]; exact HO7.out
                    exact ⟨_, _, _, _, _, ⟨k + 1, hlt, rfl, ho, HB7.out⟩, rfl, rfl, rfl, rfl, by go_num⟩
                  case measure => simp [intOf]; omega
              · obtain rfl : k = L.length := by omega
                go_wp2
                go_ret2
                exact ⟨_, rfl, own_mono Hown.out hwb, HB3.out.trans (Hbel.out.mono hwb)⟩

end Go.Proofs.YtchklobblkddhaaGreatDoor
