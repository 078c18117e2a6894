/- The walk of the statement FoulApart. -/
import Derived.Test.YtchklobblkddhaaDoorFouMadeW
import Derived.Test.YtchklobblkddhaaDoorFouApL
import Derived.Test.YtchklobblkddhaaDoorFouEqW
namespace Go.Proofs.YtchklobblkddhaaDoor
open Go.RowKit Go.Shelf

theorem eqLn (a b c d : Int) (e : Bool) (w : World) : (Op.equalIn 10000 49 (.agg #[.int .i64 a, .int .i64 b, .int .i64 c, .int .i64 d, .bool e]) (.agg #[.int .i64 a, .int .i64 b, .int .i64 c, .int .i64 d, .bool e])).run Tryd.prog w = .ok true w := by
  rw [run_equalIn_agg w 9999 49 _ _ (by kernel_rfl) (by kernel_rfl)]
  go_simp
theorem rd_ln {w : World} {B : Nat} {A : Option Addr} {l : List Ln} (h : Rd w B 5 A l.length (lnC l)) (k : Nat) (hk : k < l.length) :
    ∃ b off, A = some ⟨b, off, none⟩ ∧ b < B ∧ w.cell? ⟨b, off + k * 5, none⟩ = some (.int .i64 l[k].1.1) ∧ w.cell? ⟨b, off + k * 5 + 1, none⟩ = some (.int .i64 l[k].1.2) ∧ w.cell? ⟨b, off + k * 5 + 2, none⟩ = some (.int .i64 l[k].2.1.1) ∧ w.cell? ⟨b, off + k * 5 + 3, none⟩ = some (.int .i64 l[k].2.1.2) ∧ w.cell? ⟨b, off + k * 5 + 4, none⟩ = some (.bool l[k].2.2) := by
  obtain ⟨b, off, e, hb, hc⟩ := h.pos (by omega)
  obtain ⟨g0, g1, g2, g3, g4⟩ := lnC_get l k hk
  have hl := lnC_len l
  exact ⟨b, off, e, hb, (hc _ (by omega)).trans g0, (hc (k * 5 + 1) (by omega)).trans g1, (hc (k * 5 + 2) (by omega)).trans g2, (hc (k * 5 + 3) (by omega)).trans g3, (hc (k * 5 + 4) (by omega)).trans g4⟩
/-- The line of an entry, in a world. -/
def LnAt (w : World) (b o : Nat) (x : Ln) : Prop := w.cell? ⟨b, o, none⟩ = some (.int .i64 x.1.1) ∧ w.cell? ⟨b, o + 1, none⟩ = some (.int .i64 x.1.2) ∧ w.cell? ⟨b, o + 2, none⟩ = some (.int .i64 x.2.1.1) ∧ w.cell? ⟨b, o + 3, none⟩ = some (.int .i64 x.2.1.2) ∧ w.cell? ⟨b, o + 4, none⟩ = some (.bool x.2.2)
theorem LnAt.below {w w' : World} {B b o : Nat} {x : Ln} (h : LnAt w b o x) (hb : Below B w w') (hl : b < B) : LnAt w' b o x :=
  ⟨(bcell hb b _ hl).trans h.1, (bcell hb b _ hl).trans h.2.1, (bcell hb b _ hl).trans h.2.2.1, (bcell hb b _ hl).trans h.2.2.2.1, (bcell hb b _ hl).trans h.2.2.2.2⟩

set_option maxRecDepth 100000 in
set_option maxHeartbeats 4000000 in
theorem fapart_walk (S : List SmE) (A : Option Addr) (c : Nat) (vul : Int) (hvu : 0 ≤ vul ∧ vul ≤ 255) (w : World) (hL : LaidS w) (hLm : Laid w) (hA : Rd w w.heap.size 14 A S.length (smL S)) (hok : ∀ x ∈ S, x.Ok) (hc : S.length ≤ c) (hm : c ≤ 9223372036854775807) :
    Calls Tryd.prog 7 #[.slice A S.length c, .int .u8 vul] w fun e w' => e = .returned (.bool true) ∧ Below w.heap.size w w' := by
  have HM := Lib.hid (fmade23 S A c w hA hok hc hm)
  have HO := Lib.hid (madeLE_ok S hok)
  have HR := Lib.hid (madeLE_right S hok)
  have hl24 : (madeLE S).length ≤ 24 := by rw [madeLE_len]; omega
  have HE := Lib.hid (show ∀ e ∈ madeLE S, ∃ k f o a0 a1, e.C = enCells k f o a0 a1 from fun e he => by
    unfold madeLE at he
    obtain ⟨x, _, rfl⟩ := List.mem_map.1 he
    exact ⟨_, _, _, _, _, rfl⟩)
  generalize madeLE S = L at HM HO HR hl24 HE
  have HL := Lib.hid hL
  have HLm := Lib.hid hLm
  obtain ⟨V, hV⟩ : ∃ V, vul % 4 = V := ⟨_, rfl⟩
  have hVb : 0 ≤ V ∧ V ≤ 3 := by omega
  have hchk : chkE L = 0 := by unfold chkE; rw [if_pos (List.all_eq_true.2 HR.out), if_neg (by omega)]
  obtain ⟨nv, hnv⟩ : ∃ nv : Nat, notVoid L = nv := ⟨_, rfl⟩
  have hnvl : nv ≤ 24 := by have : notVoid L ≤ L.length := List.length_filter_le _ _; omega
  have Hnv := Lib.hid hnv
  clear hL hLm hA hok hc hm
  go_enter Tryd.func7, Tryd.ntmps7
  go_wp2_with fail
  refine HM.out.mono ?_
  rintro ee w1 ⟨v, rfl, ho1, hb1⟩
  obtain ⟨A1, c1, rfl⟩ := own_form ho1
  have HRd1 := Lib.hid (show Rd w1 w1.heap.size 33 A1 L.length (enL L) from Rd.of_own ho1)
  have HB1 := Lib.hid hb1
  clear ho1 hb1 HM
  go_wp2_with fail
  rw [hV]
  refine (fboard_ok L A1 c1 V w1 HO.out HRd1.out hl24 (HL.out.go HB1.out) (HLm.out.below HB1.out HLm.out.lt) HR.out hVb).mono ?_
  rintro ee w2 ⟨v, rfl, ho2, hb2⟩
  obtain ⟨A2, c2, rfl⟩ := own_form ho2
  have HRd2 := Lib.hid (HRd1.out.go hb2)
  have HB2 := Lib.hid (below_via HB1.out hb2)
  have HLn2 := Lib.hid (show Rd w2 w2.heap.size 5 A2 (boardTo L V L.length).length (lnC (boardTo L V L.length)) by rw [boardTo_len]; exact Rd.of_own ho2)
  clear ho2 hb2 HRd1 HB1
  go_wp2_with fail
  have HFA := Lib.hid (fall_ok L A1 c1 w2 HO.out HRd2.out (by omega) (HL.out.go HB2.out) hchk)
  rw [hnv] at HFA
  unfold cntC at HFA
  have hix : ∀ j : Nat, j < 4 → (#[.int .i64 (inField L 0 : Int), .int .i64 (inField L 1 : Int), .int .i64 (inField L 2 : Int), .int .i64 (inField L 3 : Int)] : Array Value)[j]? = some (.int .i64 (inField L (j : Int) : Int)) := fun j hj => by
    rcases (show j = 0 ∨ j = 1 ∨ j = 2 ∨ j = 3 by omega) with rfl | rfl | rfl | rfl <;> rfl
  have HIx := Lib.hid hix
  clear hnv hix
  refine HFA.out.mono ?_
  rintro ee w3 ⟨rfl, hb3⟩
  clear HFA
  go_upto_region 4 with fail
  obtain ⟨g9, hg9⟩ : ∃ g, w3.heap.size = g := ⟨_, rfl⟩
  obtain ⟨W3, hW3⟩ : ∃ V, w3.alloc (.cells #[.int .i64 (inField L 0 : Int), .int .i64 (inField L 1 : Int), .int .i64 (inField L 2 : Int), .int .i64 (inField L 3 : Int)] 34) = V := ⟨_, rfl⟩
  have k9 : W3.heap[g9]? = some (.cells #[.int .i64 (inField L 0 : Int), .int .i64 (inField L 1 : Int), .int .i64 (inField L 2 : Int), .int .i64 (inField L 3 : Int)] 34) := by rw [← hW3]; exact blk_new _ hg9.symm
  have hb23 : Below w2.heap.size w2 W3 := by rw [← hW3]; exact hb3.alloc hb3.size _
  have HB3 := Lib.hid (below_via HB2.out hb23)
  have HRd3 := Lib.hid (HRd2.out.go hb23)
  have HLn3 := Lib.hid (HLn2.out.go hb23)
  have HF9 := Lib.hid (fun (j : Nat) (hj : j < 4) => (blk_cell k9 j).trans (HIx.out j hj))
  have hg9l : g9 < W3.heap.size := blk_lt k9
  rw [hW3, hg9]
  clear hW3 hg9 k9 hb23 hb3 HRd2 HLn2 HB2 HIx
  obtain ⟨b3, hb3⟩ : ∃ b, W3.heap.size = b := ⟨_, rfl⟩
  rw [hb3] at hg9l
  have HB3s := Lib.hid hb3
  have hwb : w.heap.size ≤ b3 := by rw [← hb3]; exact HB3.out.size
  rw [hb3] at HRd3 HLn3
  clear hb3
  go_wp2
  go_loopw [42] (fun i wr => ∃ k : Nat, k ≤ L.length ∧ i = .int .i64 (k : Int) ∧ Below b3 W3 wr) (fun i _ => L.length - (intOf i).toNat)
  case atStart => exact ⟨0, by omega, rfl, Below.refl _ _⟩
  case round =>
    obtain ⟨k, hk, rfl, hbel⟩ := hrel
    have Hbel := Lib.hid hbel
    have hrs : b3 ≤ wr.heap.size := by rw [← HB3s.out]; exact hbel.size
    clear hbel
    by_cases hlt : k < L.length
    · obtain ⟨b, off, rfl, hbw, hr⟩ := rd_e (fun e he => (HO.out e he).1.1) HRd3.out k hlt
      have hr2 := Lib.hid (range_below hr Hbel.out hbw)
      have hm := List.getElem_mem hlt
      have hok := HO.out _ hm
      have hI := Lib.hid (hok.1.size)
      have h33 := Lib.hid (hok.1.1)
      have hone := Lib.hid (hok.2.1)
      have c1 : (0 : Int) ≤ (k : Int) := by omega
      have c2 : (k : Int) < (L.length : Int) := by omega
      have hc4 := hok.1.2.1
      have hc5 := hok.1.2.2.1
      have hf3 := right_f (HR.out _ hm)
      have hf0 := hok.2.2.2.1.1
      obtain ⟨bl, ol, hA2, hbl, l0, l1, l2, l3, l4⟩ := rd_ln HLn3.out k (by rw [boardTo_len]; exact hlt)
      subst hA2
      have hgetk : (boardTo L V L.length)[k]'(by rw [boardTo_len]; exact hlt) = lineE L V k := boardTo_get L V L.length k hlt
      rw [hgetk] at l0 l1 l2 l3 l4
      have HLk := Lib.hid (show LnAt W3 bl (ol + k * 5) (lineE L V k) from ⟨l0, l1, l2, l3, l4⟩)
      clear hr hm l0 l1 l2 l3 l4 hgetk
      go_upto_region 9 with (first | (refine wpList_load_ent rfl 32 (.tmp 45) rfl b (off + k * 33) rfl _ _ hr2.out Tryd.underlying32 rfl hI.out ?_) | (refine plain_alloc_to rfl 32 rfl enZ enZ_zero ?_) | (refine wpList_store_new23 rfl 32 _ _ rfl (L[k]).C _ _ rfl rfl hI.out (by rw [h33.out]; rfl) hone.out ?_))
      obtain ⟨W5, hW5⟩ : ∃ V, wr.alloc (.cells (L[k]).C 32) = V := ⟨_, rfl⟩
      obtain ⟨G, hG⟩ : ∃ g, wr.heap.size = g := ⟨_, rfl⟩
      have KG := Lib.hid (show W5.heap[G]? = some (.cells (L[k]).C 32 (0, 0)) by rw [← hW5]; exact blk_new _ hG.symm)
      have HB5 := Lib.hid (show Below b3 W3 W5 by rw [← hW5]; exact Hbel.out.alloc hrs _)
      have hGb : b3 ≤ G := by rw [← hG]; exact hrs
      have q4 := (blk_cell KG.out 4).trans hc4
      have q5 := (blk_cell KG.out 5).trans hc5
      have hGl := blk_lt KG.out
      rw [hW5, hG]
      clear hW5 hG hc4 hc5 hr2 Hbel hrs
      by_cases h0 : (L[k]).k = 0
      · rw [h0] at q4
        clear h0 q5
        go_wp2_with fail
        go_roundw
        case rel => exact ⟨k + 1, hlt, by go_num, HB5.out⟩
        case measure => simp [intOf]; omega
      · have t0 : ((L[k]).k == 0) = false := beq_eq_false_iff_ne.2 h0
        by_cases h4 : (L[k]).k = 4
        · rw [h4] at q4
          clear h0 t0 h4 q5
          go_wp2_with fail
          go_roundw
          case rel => exact ⟨k + 1, hlt, by go_num, HB5.out⟩
          case measure => simp [intOf]; omega
        · have t4 : ((L[k]).k == 4) = false := beq_eq_false_iff_ne.2 h4
          have hcmp : cmpB L[k] = true := decide_eq_true ⟨h0, h4⟩
          obtain ⟨j, hj⟩ : ∃ j : Nat, (L[k]).f = (j : Int) := ⟨(L[k]).f.toNat, by omega⟩
          have hj4 : j < 4 := by omega
          have d1 : (0 : Int) ≤ (j : Int) := by omega
          have d2 : (j : Int) < 4 := by omega
          have q9 := (bcell HB5.out g9 j hg9l).trans (HF9.out j hj4)
          have HLk5 := HLk.out.below HB5.out hbl
          have HQ := Lib.hid q23_any
          have HAl := Lib.hid (show inField L (j : Int) = 1 → lineE L V k = (((nv : Int) - 1, 1), ((nv : Int) - 1, 1), (lineE L V k).2.2) from fun h1 => by
            unfold lineE
            rw [Hnv.out, alone_XB L HO.out HR.out V hVb k hlt hcmp (by rw [hj]; exact h1), alone_XB L HO.out HR.out V hVb k hlt hcmp (by rw [hj]; exact h1)])
          rw [hj] at q5
          go_upto_region 10 with fail
          go_cut [81] (fun v wz => v = .bool false ∧ Below W5.heap.size W5 wz)
          case first =>
            by_cases h1 : inField L (j : Int) = 1
            · rw [h1] at q9
              rw [HAl.out h1] at HLk5
              obtain ⟨l0, l1, l2, l3, -⟩ := HLk5
              dsimp only at l0 l1 l2 l3
              have hS0 : W5.cell? ⟨G, 5, none⟩ = some (.int .u8 (j : Int)) ∧ W5.cell? ⟨g9, j, none⟩ = some (.int .i64 ((1 : Nat) : Int)) ∧ W5.cell? ⟨bl, ol + k * 5, none⟩ = some (.int .i64 ((nv : Int) - 1)) ∧ W5.cell? ⟨bl, ol + k * 5 + 1, none⟩ = some (.int .i64 1) ∧ W5.cell? ⟨bl, ol + k * 5 + 2, none⟩ = some (.int .i64 ((nv : Int) - 1)) ∧ W5.cell? ⟨bl, ol + k * 5 + 3, none⟩ = some (.int .i64 1) := ⟨q5, q9, l0, l1, l2, l3⟩
              have KS := Lib.hid (fun (wq : World) (hb : Below W5.heap.size W5 wq) => (show wq.cell? ⟨G, 5, none⟩ = some (.int .u8 (j : Int)) ∧ wq.cell? ⟨g9, j, none⟩ = some (.int .i64 ((1 : Nat) : Int)) ∧ wq.cell? ⟨bl, ol + k * 5, none⟩ = some (.int .i64 ((nv : Int) - 1)) ∧ wq.cell? ⟨bl, ol + k * 5 + 1, none⟩ = some (.int .i64 1) ∧ wq.cell? ⟨bl, ol + k * 5 + 2, none⟩ = some (.int .i64 ((nv : Int) - 1)) ∧ wq.cell? ⟨bl, ol + k * 5 + 3, none⟩ = some (.int .i64 1) from
                have hs : b3 ≤ W5.heap.size := by rw [← HB3s.out]; exact HB5.out.size
                ⟨(bcell hb G _ hGl).trans q5, (bcell hb g9 _ (by omega)).trans q9, (bcell hb bl _ (by omega)).trans l0, (bcell hb bl _ (by omega)).trans l1, (bcell hb bl _ (by omega)).trans l2, (bcell hb bl _ (by omega)).trans l3⟩))
              have hw1 : IntKind.i64.wrap ((nv : Int) - 1) = (nv : Int) - 1 := IntWalk.i64_in _ (by omega)
              clear h1 q5 q9 l0 l1 l2 l3
              refine wp_region_held_drew (S := (fun wq => Below W5.heap.size W5 wq ∧ wq.cell? ⟨G, 5, none⟩ = some (.int .u8 (j : Int)) ∧ wq.cell? ⟨g9, j, none⟩ = some (.int .i64 ((1 : Nat) : Int)) ∧ wq.cell? ⟨bl, ol + k * 5, none⟩ = some (.int .i64 ((nv : Int) - 1)) ∧ wq.cell? ⟨bl, ol + k * 5 + 1, none⟩ = some (.int .i64 1) ∧ wq.cell? ⟨bl, ol + k * 5 + 2, none⟩ = some (.int .i64 ((nv : Int) - 1)) ∧ wq.cell? ⟨bl, ol + k * 5 + 3, none⟩ = some (.int .i64 1))) (by kernel_rfl) ⟨(Below.refl _ _).drew, hS0⟩ (fun hHeldA => ?_)
              refine take_named23 (i := 0) (d := 55) (v := ?vA0) rfl (by kernel_rfl) (by kernel_rfl) (by kernel_rfl) (by kernel_rfl) (fun _ _ _ h => h) (Or.inl ⟨by kernel_rfl, ?yA0⟩) (by assumption) ?_
              case yA0 => intro wq hSw; (try dsimp only at hSw); go_simp; (try with_reducible rfl)
              (try simp only [Act.put, List.setIfInBounds_toArray, List.set_cons_zero, List.set_cons_succ])
              refine take_named23 (i := 1) (d := 56) (v := ?vA1) rfl (by kernel_rfl) (by kernel_rfl) (by kernel_rfl) (by kernel_rfl) (fun _ _ _ h => h) (Or.inl ⟨by kernel_rfl, ?yA1⟩) (by assumption) ?_
              case yA1 => intro wq hSw; (try dsimp only at hSw); go_simp; (try with_reducible rfl)
              (try simp only [Act.put, List.setIfInBounds_toArray, List.set_cons_zero, List.set_cons_succ])
              refine take_named23 (i := 2) (d := 57) (v := ?vA2) rfl (by kernel_rfl) (by kernel_rfl) (by kernel_rfl) (by kernel_rfl) (fun _ _ _ h => h) (Or.inl ⟨by kernel_rfl, ?yA2⟩) (by assumption) ?_
              case yA2 => intro wq hSw; (try dsimp only at hSw); go_simp; (try with_reducible rfl)
              (try simp only [Act.put, List.setIfInBounds_toArray, List.set_cons_zero, List.set_cons_succ])
              refine take_named23 (i := 3) (d := 58) (v := ?vA3) rfl (by kernel_rfl) (by kernel_rfl) (by kernel_rfl) (by kernel_rfl) (fun _ _ _ h => h) (Or.inl ⟨by kernel_rfl, ?yA3⟩) (by assumption) ?_
              case yA3 => intro wq hSw; (try dsimp only at hSw); go_simp; (try with_reducible rfl)
              (try simp only [Act.put, List.setIfInBounds_toArray, List.set_cons_zero, List.set_cons_succ])
              refine take_named23 (i := 4) (d := 59) (v := ?vA4) rfl (by kernel_rfl) (by kernel_rfl) (by kernel_rfl) (by kernel_rfl) (fun _ _ _ h => h) (Or.inl ⟨by kernel_rfl, ?yA4⟩) (by assumption) ?_
              case yA4 => intro wq hSw; (try dsimp only at hSw); go_simp; (try with_reducible rfl)
              (try simp only [Act.put, List.setIfInBounds_toArray, List.set_cons_zero, List.set_cons_succ])
              refine take_named23 (i := 5) (d := 60) (v := ?vA5) rfl (by kernel_rfl) (by kernel_rfl) (by kernel_rfl) (by kernel_rfl) (fun _ _ _ h => h) (Or.inl ⟨by kernel_rfl, ?yA5⟩) (by assumption) ?_
              case yA5 => intro wq hSw; (try dsimp only at hSw); go_simp; (try with_reducible rfl)
              (try simp only [Act.put, List.setIfInBounds_toArray, List.set_cons_zero, List.set_cons_succ])
              refine take_named23 (i := 6) (d := 61) (v := ?vA6) rfl (by kernel_rfl) (by kernel_rfl) (by kernel_rfl) (by kernel_rfl) (fun _ _ _ h => h) (Or.inl ⟨by kernel_rfl, ?yA6⟩) (by assumption) ?_
              case yA6 => intro wq hSw; (try dsimp only at hSw); go_simp; (try with_reducible rfl)
              (try simp only [Act.put, List.setIfInBounds_toArray, List.set_cons_zero, List.set_cons_succ])
              refine take_named23 (i := 7) (d := 62) (v := ?vA7) rfl (by kernel_rfl) (by kernel_rfl) (by kernel_rfl) (by kernel_rfl) (fun _ _ _ h => h) (Or.inl ⟨by kernel_rfl, ?yA7⟩) (by assumption) ?_
              case yA7 => intro wq hSw; (try dsimp only at hSw); go_simp; (try with_reducible rfl)
              (try simp only [Act.put, List.setIfInBounds_toArray, List.set_cons_zero, List.set_cons_succ])
              refine take_named23 (i := 8) (d := 63) (v := ?vA8) rfl (by kernel_rfl) (by kernel_rfl) (by kernel_rfl) (by kernel_rfl) (fun _ _ _ h => h) (Or.inl ⟨by kernel_rfl, ?yA8⟩) (by assumption) ?_
              case yA8 => intro wq hSw; (try dsimp only at hSw); go_simp; (try with_reducible rfl)
              (try simp only [Act.put, List.setIfInBounds_toArray, List.set_cons_zero, List.set_cons_succ])
              refine take_named23 (i := 9) (d := 64) (v := ?vA9) rfl (by kernel_rfl) (by kernel_rfl) (by kernel_rfl) (by kernel_rfl) (fun _ _ _ h => h) (Or.inl ⟨by kernel_rfl, ?yA9⟩) (by assumption) ?_
              case yA9 => intro wq hSw; (try dsimp only at hSw); go_simp; (try with_reducible rfl)
              (try simp only [Act.put, List.setIfInBounds_toArray, List.set_cons_zero, List.set_cons_succ])
              refine take_named23 (i := 10) (d := 65) (v := ?vA10) rfl (by kernel_rfl) (by kernel_rfl) (by kernel_rfl) (by kernel_rfl) (fun _ _ _ h => h) (Or.inl ⟨by kernel_rfl, ?yA10⟩) (by assumption) ?_
              case yA10 => intro wq hSw; (try dsimp only at hSw); go_simp; (try with_reducible rfl)
              (try simp only [Act.put, List.setIfInBounds_toArray, List.set_cons_zero, List.set_cons_succ])
              refine take_named23 (i := 11) (d := 66) (v := ?vA11) rfl (by kernel_rfl) (by kernel_rfl) (by kernel_rfl) (by kernel_rfl) (fun _ _ _ h => h) (Or.inl ⟨by kernel_rfl, ?yA11⟩) (by assumption) ?_
              case yA11 => intro wq hSw; (try dsimp only at hSw); go_simp; (try with_reducible rfl)
              (try simp only [Act.put, List.setIfInBounds_toArray, List.set_cons_zero, List.set_cons_succ])
              refine take_named23 (i := 12) (d := 67) (v := ?vA12) rfl (by kernel_rfl) (by kernel_rfl) (by kernel_rfl) (by kernel_rfl) (fun _ _ _ h => h) (Or.inl ⟨by kernel_rfl, ?yA12⟩) (by assumption) ?_
              case yA12 => intro wq hSw; (try dsimp only at hSw); go_simp; (try with_reducible rfl)
              (try simp only [Act.put, List.setIfInBounds_toArray, List.set_cons_zero, List.set_cons_succ])
              refine wpAnyH_ready (rs := [13]) (by kernel_rfl) (by simp) ?_
              refine AllReadyH.cons rfl (fun K hK => ?_) AllReadyH.nil
              go_simp
              refine (HQ.out _ _ _).mono ?_
              rintro ee wq1 ⟨rfl, hbq1⟩
              refine hK.out _ _ (⟨hHeldA.1.trans (hbq1.mono hHeldA.1.size), KS.out _ (hHeldA.1.trans (hbq1.mono hHeldA.1.size))⟩) (fun hHeldA13 => ?_)
              clear hK K hHeldA
              (try simp only [Act.put, List.setIfInBounds_toArray, List.set_cons_zero, List.set_cons_succ])
              refine take_named23 (i := 14) (d := 69) (v := ?vA14) rfl (by kernel_rfl) (by kernel_rfl) (by kernel_rfl) (by kernel_rfl) (fun _ _ _ h => h) (Or.inl ⟨by kernel_rfl, ?yA14⟩) (by assumption) ?_
              case yA14 => intro wq hSw; (try dsimp only at hSw); go_simp; (try with_reducible rfl)
              (try simp only [Act.put, List.setIfInBounds_toArray, List.set_cons_zero, List.set_cons_succ])
              refine take_named23 (i := 15) (d := 70) (v := ?vA15) rfl (by kernel_rfl) (by kernel_rfl) (by kernel_rfl) (by kernel_rfl) (fun _ _ _ h => h) (Or.inl ⟨by kernel_rfl, ?yA15⟩) (by assumption) ?_
              case yA15 => intro wq hSw; (try dsimp only at hSw); go_simp; (try with_reducible rfl)
              (try simp only [Act.put, List.setIfInBounds_toArray, List.set_cons_zero, List.set_cons_succ])
              refine take_named23 (i := 16) (d := 71) (v := ?vA16) rfl (by kernel_rfl) (by kernel_rfl) (by kernel_rfl) (by kernel_rfl) (fun _ _ _ h => h) (Or.inl ⟨by kernel_rfl, ?yA16⟩) (by assumption) ?_
              case yA16 => intro wq hSw; (try dsimp only at hSw); go_simp; (try with_reducible rfl)
              (try simp only [Act.put, List.setIfInBounds_toArray, List.set_cons_zero, List.set_cons_succ])
              refine take_named23 (i := 17) (d := 72) (v := ?vA17) rfl (by kernel_rfl) (by kernel_rfl) (by kernel_rfl) (by kernel_rfl) (fun _ _ _ h => h) (Or.inl ⟨by kernel_rfl, ?yA17⟩) (by assumption) ?_
              case yA17 => intro wq hSw; (try dsimp only at hSw); go_simp; (try with_reducible rfl)
              (try simp only [Act.put, List.setIfInBounds_toArray, List.set_cons_zero, List.set_cons_succ])
              refine take_named23 (i := 18) (d := 73) (v := ?vA18) rfl (by kernel_rfl) (by kernel_rfl) (by kernel_rfl) (by kernel_rfl) (fun _ _ _ h => h) (Or.inl ⟨by kernel_rfl, ?yA18⟩) (by assumption) ?_
              case yA18 => intro wq hSw; (try dsimp only at hSw); go_simp; (try with_reducible rfl)
              (try simp only [Act.put, List.setIfInBounds_toArray, List.set_cons_zero, List.set_cons_succ])
              refine take_named23 (i := 19) (d := 74) (v := ?vA19) rfl (by kernel_rfl) (by kernel_rfl) (by kernel_rfl) (by kernel_rfl) (fun _ _ _ h => h) (Or.inl ⟨by kernel_rfl, ?yA19⟩) (by assumption) ?_
              case yA19 => intro wq hSw; (try dsimp only at hSw); go_simp; (try with_reducible rfl)
              (try simp only [Act.put, List.setIfInBounds_toArray, List.set_cons_zero, List.set_cons_succ])
              refine take_named23 (i := 20) (d := 75) (v := ?vA20) rfl (by kernel_rfl) (by kernel_rfl) (by kernel_rfl) (by kernel_rfl) (fun _ _ _ h => h) (Or.inl ⟨by kernel_rfl, ?yA20⟩) (by assumption) ?_
              case yA20 => intro wq hSw; (try dsimp only at hSw); go_simp; (try with_reducible rfl)
              (try simp only [Act.put, List.setIfInBounds_toArray, List.set_cons_zero, List.set_cons_succ])
              refine take_named23 (i := 21) (d := 76) (v := ?vA21) rfl (by kernel_rfl) (by kernel_rfl) (by kernel_rfl) (by kernel_rfl) (fun _ _ _ h => h) (Or.inl ⟨by kernel_rfl, ?yA21⟩) (by assumption) ?_
              case yA21 => intro wq hSw; (try dsimp only at hSw); go_simp; (try with_reducible rfl)
              (try simp only [Act.put, List.setIfInBounds_toArray, List.set_cons_zero, List.set_cons_succ])
              refine take_named23 (i := 22) (d := 77) (v := ?vA22) rfl (by kernel_rfl) (by kernel_rfl) (by kernel_rfl) (by kernel_rfl) (fun _ _ _ h => h) (Or.inl ⟨by kernel_rfl, ?yA22⟩) (by assumption) ?_
              case yA22 => intro wq hSw; (try dsimp only at hSw); go_simp; (try with_reducible rfl)
              (try simp only [Act.put, List.setIfInBounds_toArray, List.set_cons_zero, List.set_cons_succ])
              refine wpAnyH_ready (rs := [23]) (by kernel_rfl) (by simp) ?_
              refine AllReadyH.cons rfl (fun K hK => ?_) AllReadyH.nil
              go_simp
              refine (HQ.out _ _ _).mono ?_
              rintro ee wq2 ⟨rfl, hbq2⟩
              refine hK.out _ _ (⟨hHeldA13.1.trans (hbq2.mono hHeldA13.1.size), KS.out _ (hHeldA13.1.trans (hbq2.mono hHeldA13.1.size))⟩) (fun hHeldA23 => ?_)
              clear hK K hHeldA13
              (try simp only [Act.put, List.setIfInBounds_toArray, List.set_cons_zero, List.set_cons_succ])
              refine take_named23 (i := 24) (d := 79) (v := ?vA24) rfl (by kernel_rfl) (by kernel_rfl) (by kernel_rfl) (by kernel_rfl) (fun _ _ _ h => h) (Or.inl ⟨by kernel_rfl, ?yA24⟩) (by assumption) ?_
              case yA24 => intro wq hSw; (try dsimp only at hSw); go_simp; (try with_reducible rfl)
              (try simp only [Act.put, List.setIfInBounds_toArray, List.set_cons_zero, List.set_cons_succ])
              refine take_named23 (i := 25) (d := 80) (v := ?vA25) rfl (by kernel_rfl) (by kernel_rfl) (by kernel_rfl) (by kernel_rfl) (fun _ _ _ h => h) (Or.inl ⟨by kernel_rfl, ?yA25⟩) (by assumption) ?_
              case yA25 => intro wq hSw; (try dsimp only at hSw); go_simp; (try with_reducible rfl)
              (try simp only [Act.put, List.setIfInBounds_toArray, List.set_cons_zero, List.set_cons_succ])
              refine take_named23 (i := 26) (d := 81) (v := ?vA26) rfl (by kernel_rfl) (by kernel_rfl) (by kernel_rfl) (by kernel_rfl) (fun _ _ _ h => h) (Or.inl ⟨by kernel_rfl, ?yA26⟩) (by assumption) ?_
              case yA26 => intro wq hSw; (try dsimp only at hSw); go_simp; (try with_reducible rfl)
              (try simp only [Act.put, List.setIfInBounds_toArray, List.set_cons_zero, List.set_cons_succ])
              have hA2 := hHeldA23.1
              refine wpAnyH_done (by kernel_rfl) ?_ _
              clear hHeldA23
              go_step
              go_step
              go_meet
              exact ⟨rfl, hA2⟩
            · obtain ⟨N, hN⟩ : ∃ N : Nat, inField L (j : Int) = N := ⟨_, rfl⟩
              rw [hN] at q9 h1
              have hN1 : ((N : Int) == 1) = false := by rw [beq_eq_false_iff_ne]; omega
              have hS0 : W5.cell? ⟨G, 5, none⟩ = some (.int .u8 (j : Int)) ∧ W5.cell? ⟨g9, j, none⟩ = some (.int .i64 (N : Int)) := ⟨q5, q9⟩
              clear h1 q5 q9 hN HLk5
              refine wp_region_held_drew (S := (fun wq => wq.cell? ⟨G, 5, none⟩ = some (.int .u8 (j : Int)) ∧ wq.cell? ⟨g9, j, none⟩ = some (.int .i64 (N : Int)))) (by kernel_rfl) hS0 (fun hHeldB => ?_)
              refine take_named23 (i := 0) (d := 55) (v := ?vB0) rfl (by kernel_rfl) (by kernel_rfl) (by kernel_rfl) (by kernel_rfl) (fun _ _ _ h => h) (Or.inl ⟨by kernel_rfl, ?yB0⟩) (by assumption) ?_
              case yB0 => intro wq hSw; (try dsimp only at hSw); go_simp; (try with_reducible rfl)
              (try simp only [Act.put, List.setIfInBounds_toArray, List.set_cons_zero, List.set_cons_succ])
              refine take_named23 (i := 1) (d := 56) (v := ?vB1) rfl (by kernel_rfl) (by kernel_rfl) (by kernel_rfl) (by kernel_rfl) (fun _ _ _ h => h) (Or.inl ⟨by kernel_rfl, ?yB1⟩) (by assumption) ?_
              case yB1 => intro wq hSw; (try dsimp only at hSw); go_simp; (try with_reducible rfl)
              (try simp only [Act.put, List.setIfInBounds_toArray, List.set_cons_zero, List.set_cons_succ])
              refine take_named23 (i := 2) (d := 57) (v := ?vB2) rfl (by kernel_rfl) (by kernel_rfl) (by kernel_rfl) (by kernel_rfl) (fun _ _ _ h => h) (Or.inl ⟨by kernel_rfl, ?yB2⟩) (by assumption) ?_
              case yB2 => intro wq hSw; (try dsimp only at hSw); go_simp; (try with_reducible rfl)
              (try simp only [Act.put, List.setIfInBounds_toArray, List.set_cons_zero, List.set_cons_succ])
              refine take_named23 (i := 3) (d := 58) (v := ?vB3) rfl (by kernel_rfl) (by kernel_rfl) (by kernel_rfl) (by kernel_rfl) (fun _ _ _ h => h) (Or.inl ⟨by kernel_rfl, ?yB3⟩) (by assumption) ?_
              case yB3 => intro wq hSw; (try dsimp only at hSw); go_simp; (try with_reducible rfl)
              (try simp only [Act.put, List.setIfInBounds_toArray, List.set_cons_zero, List.set_cons_succ])
              refine take_named23 (i := 4) (d := 59) (v := ?vB4) rfl (by kernel_rfl) (by kernel_rfl) (by kernel_rfl) (by kernel_rfl) (fun _ _ _ h => h) (Or.inl ⟨by kernel_rfl, ?yB4⟩) (by assumption) ?_
              case yB4 => intro wq hSw; (try dsimp only at hSw); go_simp; (try with_reducible rfl)
              (try simp only [Act.put, List.setIfInBounds_toArray, List.set_cons_zero, List.set_cons_succ])
              refine take_named23 (i := 5) (d := 60) (v := ?vB5) rfl (by kernel_rfl) (by kernel_rfl) (by kernel_rfl) (by kernel_rfl) (fun _ _ _ h => h) (Or.inl ⟨by kernel_rfl, ?yB5⟩) (by assumption) ?_
              case yB5 => intro wq hSw; (try dsimp only at hSw); go_simp; (try with_reducible rfl)
              (try simp only [Act.put, List.setIfInBounds_toArray, List.set_cons_zero, List.set_cons_succ])
              refine take_named23 (i := 6) (d := 61) (v := undef) rfl (by kernel_rfl) (by kernel_rfl) (by kernel_rfl) (by kernel_rfl) (fun _ _ _ h => h) (Or.inr ⟨by kernel_rfl, rfl⟩) (by assumption) ?_
              (try simp only [Act.put, List.setIfInBounds_toArray, List.set_cons_zero, List.set_cons_succ])
              refine take_named23 (i := 7) (d := 62) (v := undef) rfl (by kernel_rfl) (by kernel_rfl) (by kernel_rfl) (by kernel_rfl) (fun _ _ _ h => h) (Or.inr ⟨by kernel_rfl, rfl⟩) (by assumption) ?_
              (try simp only [Act.put, List.setIfInBounds_toArray, List.set_cons_zero, List.set_cons_succ])
              refine take_named23 (i := 8) (d := 63) (v := undef) rfl (by kernel_rfl) (by kernel_rfl) (by kernel_rfl) (by kernel_rfl) (fun _ _ _ h => h) (Or.inr ⟨by kernel_rfl, rfl⟩) (by assumption) ?_
              (try simp only [Act.put, List.setIfInBounds_toArray, List.set_cons_zero, List.set_cons_succ])
              refine take_named23 (i := 9) (d := 64) (v := undef) rfl (by kernel_rfl) (by kernel_rfl) (by kernel_rfl) (by kernel_rfl) (fun _ _ _ h => h) (Or.inr ⟨by kernel_rfl, rfl⟩) (by assumption) ?_
              (try simp only [Act.put, List.setIfInBounds_toArray, List.set_cons_zero, List.set_cons_succ])
              refine take_named23 (i := 10) (d := 65) (v := undef) rfl (by kernel_rfl) (by kernel_rfl) (by kernel_rfl) (by kernel_rfl) (fun _ _ _ h => h) (Or.inr ⟨by kernel_rfl, rfl⟩) (by assumption) ?_
              (try simp only [Act.put, List.setIfInBounds_toArray, List.set_cons_zero, List.set_cons_succ])
              refine take_named23 (i := 11) (d := 66) (v := undef) rfl (by kernel_rfl) (by kernel_rfl) (by kernel_rfl) (by kernel_rfl) (fun _ _ _ h => h) (Or.inr ⟨by kernel_rfl, rfl⟩) (by assumption) ?_
              (try simp only [Act.put, List.setIfInBounds_toArray, List.set_cons_zero, List.set_cons_succ])
              refine take_named23 (i := 12) (d := 67) (v := undef) rfl (by kernel_rfl) (by kernel_rfl) (by kernel_rfl) (by kernel_rfl) (fun _ _ _ h => h) (Or.inr ⟨by kernel_rfl, rfl⟩) (by assumption) ?_
              (try simp only [Act.put, List.setIfInBounds_toArray, List.set_cons_zero, List.set_cons_succ])
              refine take_named23 (i := 13) (d := 68) (v := undef) rfl (by kernel_rfl) (by kernel_rfl) (by kernel_rfl) (by kernel_rfl) (fun _ _ _ h => h) (Or.inr ⟨by kernel_rfl, rfl⟩) (by assumption) ?_
              (try simp only [Act.put, List.setIfInBounds_toArray, List.set_cons_zero, List.set_cons_succ])
              refine take_named23 (i := 14) (d := 69) (v := undef) rfl (by kernel_rfl) (by kernel_rfl) (by kernel_rfl) (by kernel_rfl) (fun _ _ _ h => h) (Or.inr ⟨by kernel_rfl, rfl⟩) (by assumption) ?_
              (try simp only [Act.put, List.setIfInBounds_toArray, List.set_cons_zero, List.set_cons_succ])
              refine take_named23 (i := 15) (d := 70) (v := undef) rfl (by kernel_rfl) (by kernel_rfl) (by kernel_rfl) (by kernel_rfl) (fun _ _ _ h => h) (Or.inr ⟨by kernel_rfl, rfl⟩) (by assumption) ?_
              (try simp only [Act.put, List.setIfInBounds_toArray, List.set_cons_zero, List.set_cons_succ])
              refine take_named23 (i := 16) (d := 71) (v := undef) rfl (by kernel_rfl) (by kernel_rfl) (by kernel_rfl) (by kernel_rfl) (fun _ _ _ h => h) (Or.inr ⟨by kernel_rfl, rfl⟩) (by assumption) ?_
              (try simp only [Act.put, List.setIfInBounds_toArray, List.set_cons_zero, List.set_cons_succ])
              refine take_named23 (i := 17) (d := 72) (v := undef) rfl (by kernel_rfl) (by kernel_rfl) (by kernel_rfl) (by kernel_rfl) (fun _ _ _ h => h) (Or.inr ⟨by kernel_rfl, rfl⟩) (by assumption) ?_
              (try simp only [Act.put, List.setIfInBounds_toArray, List.set_cons_zero, List.set_cons_succ])
              refine take_named23 (i := 18) (d := 73) (v := undef) rfl (by kernel_rfl) (by kernel_rfl) (by kernel_rfl) (by kernel_rfl) (fun _ _ _ h => h) (Or.inr ⟨by kernel_rfl, rfl⟩) (by assumption) ?_
              (try simp only [Act.put, List.setIfInBounds_toArray, List.set_cons_zero, List.set_cons_succ])
              refine take_named23 (i := 19) (d := 74) (v := undef) rfl (by kernel_rfl) (by kernel_rfl) (by kernel_rfl) (by kernel_rfl) (fun _ _ _ h => h) (Or.inr ⟨by kernel_rfl, rfl⟩) (by assumption) ?_
              (try simp only [Act.put, List.setIfInBounds_toArray, List.set_cons_zero, List.set_cons_succ])
              refine take_named23 (i := 20) (d := 75) (v := undef) rfl (by kernel_rfl) (by kernel_rfl) (by kernel_rfl) (by kernel_rfl) (fun _ _ _ h => h) (Or.inr ⟨by kernel_rfl, rfl⟩) (by assumption) ?_
              (try simp only [Act.put, List.setIfInBounds_toArray, List.set_cons_zero, List.set_cons_succ])
              refine take_named23 (i := 21) (d := 76) (v := undef) rfl (by kernel_rfl) (by kernel_rfl) (by kernel_rfl) (by kernel_rfl) (fun _ _ _ h => h) (Or.inr ⟨by kernel_rfl, rfl⟩) (by assumption) ?_
              (try simp only [Act.put, List.setIfInBounds_toArray, List.set_cons_zero, List.set_cons_succ])
              refine take_named23 (i := 22) (d := 77) (v := undef) rfl (by kernel_rfl) (by kernel_rfl) (by kernel_rfl) (by kernel_rfl) (fun _ _ _ h => h) (Or.inr ⟨by kernel_rfl, rfl⟩) (by assumption) ?_
              (try simp only [Act.put, List.setIfInBounds_toArray, List.set_cons_zero, List.set_cons_succ])
              refine take_named23 (i := 23) (d := 78) (v := undef) rfl (by kernel_rfl) (by kernel_rfl) (by kernel_rfl) (by kernel_rfl) (fun _ _ _ h => h) (Or.inr ⟨by kernel_rfl, rfl⟩) (by assumption) ?_
              (try simp only [Act.put, List.setIfInBounds_toArray, List.set_cons_zero, List.set_cons_succ])
              refine take_named23 (i := 24) (d := 79) (v := undef) rfl (by kernel_rfl) (by kernel_rfl) (by kernel_rfl) (by kernel_rfl) (fun _ _ _ h => h) (Or.inr ⟨by kernel_rfl, rfl⟩) (by assumption) ?_
              (try simp only [Act.put, List.setIfInBounds_toArray, List.set_cons_zero, List.set_cons_succ])
              refine take_named23 (i := 25) (d := 80) (v := undef) rfl (by kernel_rfl) (by kernel_rfl) (by kernel_rfl) (by kernel_rfl) (fun _ _ _ h => h) (Or.inr ⟨by kernel_rfl, rfl⟩) (by assumption) ?_
              (try simp only [Act.put, List.setIfInBounds_toArray, List.set_cons_zero, List.set_cons_succ])
              refine take_named23 (i := 26) (d := 81) (v := ?vB26) rfl (by kernel_rfl) (by kernel_rfl) (by kernel_rfl) (by kernel_rfl) (fun _ _ _ h => h) (Or.inl ⟨by kernel_rfl, ?yB26⟩) (by assumption) ?_
              case yB26 => intro wq hSw; (try dsimp only at hSw); go_simp; (try with_reducible rfl)
              (try simp only [Act.put, List.setIfInBounds_toArray, List.set_cons_zero, List.set_cons_succ])
              refine wpAnyH_done (by kernel_rfl) ?_ _
              clear hHeldB
              go_step
              go_step
              go_meet
              exact ⟨rfl, (Below.refl _ _).drew⟩
          case rest =>
            obtain ⟨rfl, hbc⟩ := hcut
            have HBC := Lib.hid hbc
            clear hbc q5 q9 HLk5 HAl q4
            go_wp2_with fail
            go_loopw [83] (fun i wr => ∃ k2 : Nat, k2 ≤ k ∧ i = .int .i64 (k2 : Int) ∧ Below W5.heap.size W5 wr) (fun i _ => k - (intOf i).toNat)
            case atStart => exact ⟨0, by omega, rfl, HBC.out⟩
            case round =>
              obtain ⟨k2, hk2, rfl, hbel2⟩ := hrel
              have Hb2 := Lib.hid hbel2
              clear hbel2
              by_cases hl2 : k2 < k
              · have e1 : (0 : Int) ≤ (k2 : Int) := by omega
                have e2 : (k2 : Int) < (k : Int) := by omega
                have e3 : (k2 : Int) < (L.length : Int) := by omega
                have hlk2 : k2 < L.length := by omega
                have hm2 := List.getElem_mem hlk2
                have hok2 := HO.out _ hm2
                have hI2 := Lib.hid (hok2.1.size)
                obtain ⟨r, HEq, hre⟩ : ∃ r : Bool, (∀ w, (Op.equalIn 10000 32 (.agg (L[k2]).C) (.agg (L[k]).C)).run Tryd.prog w = .ok r w) ∧ (r = true → (L[k2]).C = (L[k]).C) := by
                  obtain ⟨ka, fa, oa, xa, ya, h1⟩ := HE.out _ hm2
                  obtain ⟨kb, fb, ob, xb, yb, h2⟩ := HE.out _ (List.getElem_mem hlt)
                  rw [h1, h2]
                  exact eqE ka fa oa xa ya kb fb ob xb yb
                have HEq2 := Lib.hid HEq
                have Hre := Lib.hid hre
                clear HEq hre
                obtain ⟨b0, off0, hA0, hbw0, hr0⟩ := rd_e (fun e he => (HO.out e he).1.1) HRd3.out k2 hlk2
                obtain ⟨rfl, rfl⟩ : b = b0 ∧ off = off0 := by injection hA0 with hA0; injection hA0 with h1 h2; exact ⟨h1, h2⟩
                have hBr : Below b3 W3 wr := HB5.out.trans (Hb2.out.mono (by rw [← HB3s.out]; exact HB5.out.size))
                have hRa : wr.rangeAt b (off + k2 * 33) (L[k2]).C.toList := range_below hr0 hBr hbw0
                have hRb : wr.heap[G]? = some (.cells (L[k]).C 32 (0, 0)) := blk_below KG.out Hb2.out hGl
                have HSa := Lib.hid (And.intro hRa hRb)
                have HBr := Lib.hid hBr
                clear hA0 hbw0 hr0 hRa hRb hBr hok2 hm2
                go_upto_region 15 with fail
                cases r
                · clear Hre
                  have HEqf := HEq2.out
                  refine wp_region_held_drew (S := (fun wq => wq.rangeAt b (off + k2 * 33) (L[k2]).C.toList ∧ wq.heap[G]? = some (.cells (L[k]).C 32 (0, 0)))) (by kernel_rfl) HSa.out (fun hHeldC => ?_)
                  refine take_named23 (i := 0) (d := 86) (v := ?vC0) rfl (by kernel_rfl) (by kernel_rfl) (by kernel_rfl) (by kernel_rfl) (fun _ _ _ h => h) (Or.inl ⟨by kernel_rfl, ?yC0⟩) (by assumption) ?_
                  case yC0 => intro wq hSw; (try dsimp only at hSw); go_simp; (try with_reducible rfl)
                  (try simp only [Act.put, List.setIfInBounds_toArray, List.set_cons_zero, List.set_cons_succ])
                  refine take_named23 (i := 1) (d := 87) (v := ?vC1) rfl (by kernel_rfl) (by kernel_rfl) (by kernel_rfl) (by kernel_rfl) (fun _ _ _ h => h) (Or.inl ⟨by kernel_rfl, ?yC1⟩) (by assumption) ?_
                  case yC1 => intro wq hSw; (try dsimp only at hSw); go_simp; (try with_reducible rfl)
                  (try simp only [Act.put, List.setIfInBounds_toArray, List.set_cons_zero, List.set_cons_succ])
                  refine take_named23 (i := 2) (d := 88) (v := ?vC2) rfl (by kernel_rfl) (by kernel_rfl) (by kernel_rfl) (by kernel_rfl) (fun _ _ _ h => h) (Or.inl ⟨by kernel_rfl, ?yC2⟩) (by assumption) ?_
                  case yC2 => intro wq hSw; (try dsimp only at hSw); go_simp; (try with_reducible rfl)
                  (try simp only [Act.put, List.setIfInBounds_toArray, List.set_cons_zero, List.set_cons_succ])
                  refine take_named23 (i := 3) (d := 89) (v := .agg ((L[k2]).C.toList).toArray) rfl (by kernel_rfl) (by kernel_rfl) (by kernel_rfl) (by kernel_rfl) (fun _ _ _ h => h) (yieldsIf_load_mid (by kernel_rfl) 32 (.tmp 88) rfl b (off + k2 * 33) rfl ((L[k2]).C.toList) _ (fun w h => h.1) Tryd.underlying32 rfl hI2.out) (by assumption) ?_
                  (try simp only [Act.put, List.setIfInBounds_toArray, List.set_cons_zero, List.set_cons_succ])
                  (try simp only [Array.toArray_toList])
                  refine take_named23 (i := 4) (d := 90) (v := .agg (L[k]).C) rfl (by kernel_rfl) (by kernel_rfl) (by kernel_rfl) (by kernel_rfl) (fun _ _ _ h => h) (yieldsIf_load_row23 (by kernel_rfl) 32 (.tmp 12) rfl G rfl 32 (L[k]).C (0, 0) _ (fun w h => h.2) Tryd.underlying32 rfl hI.out) (by assumption) ?_
                  (try simp only [Act.put, List.setIfInBounds_toArray, List.set_cons_zero, List.set_cons_succ])
                  refine take_named23 (i := 5) (d := 91) (v := ?vC5) rfl (by kernel_rfl) (by kernel_rfl) (by kernel_rfl) (by kernel_rfl) (fun _ _ _ h => h) (Or.inl ⟨by kernel_rfl, ?yC5⟩) (by assumption) ?_
                  case yC5 => intro wq hSw; (try dsimp only at hSw); go_simp; (try with_reducible rfl)
                  (try simp only [Act.put, List.setIfInBounds_toArray, List.set_cons_zero, List.set_cons_succ])
                  refine take_named23 (i := 6) (d := 92) (v := ?vC6) rfl (by kernel_rfl) (by kernel_rfl) (by kernel_rfl) (by kernel_rfl) (fun _ _ _ h => h) (Or.inl ⟨by kernel_rfl, ?yC6⟩) (by assumption) ?_
                  case yC6 => intro wq hSw; (try dsimp only at hSw); go_simp; (try with_reducible rfl)
                  (try simp only [Act.put, List.setIfInBounds_toArray, List.set_cons_zero, List.set_cons_succ])
                  refine take_named23 (i := 7) (d := 93) (v := undef) rfl (by kernel_rfl) (by kernel_rfl) (by kernel_rfl) (by kernel_rfl) (fun _ _ _ h => h) (Or.inr ⟨by kernel_rfl, rfl⟩) (by assumption) ?_
                  (try simp only [Act.put, List.setIfInBounds_toArray, List.set_cons_zero, List.set_cons_succ])
                  refine take_named23 (i := 8) (d := 94) (v := undef) rfl (by kernel_rfl) (by kernel_rfl) (by kernel_rfl) (by kernel_rfl) (fun _ _ _ h => h) (Or.inr ⟨by kernel_rfl, rfl⟩) (by assumption) ?_
                  (try simp only [Act.put, List.setIfInBounds_toArray, List.set_cons_zero, List.set_cons_succ])
                  refine take_named23 (i := 9) (d := 95) (v := undef) rfl (by kernel_rfl) (by kernel_rfl) (by kernel_rfl) (by kernel_rfl) (fun _ _ _ h => h) (Or.inr ⟨by kernel_rfl, rfl⟩) (by assumption) ?_
                  (try simp only [Act.put, List.setIfInBounds_toArray, List.set_cons_zero, List.set_cons_succ])
                  refine take_named23 (i := 10) (d := 96) (v := undef) rfl (by kernel_rfl) (by kernel_rfl) (by kernel_rfl) (by kernel_rfl) (fun _ _ _ h => h) (Or.inr ⟨by kernel_rfl, rfl⟩) (by assumption) ?_
                  (try simp only [Act.put, List.setIfInBounds_toArray, List.set_cons_zero, List.set_cons_succ])
                  refine take_named23 (i := 11) (d := 97) (v := undef) rfl (by kernel_rfl) (by kernel_rfl) (by kernel_rfl) (by kernel_rfl) (fun _ _ _ h => h) (Or.inr ⟨by kernel_rfl, rfl⟩) (by assumption) ?_
                  (try simp only [Act.put, List.setIfInBounds_toArray, List.set_cons_zero, List.set_cons_succ])
                  refine take_named23 (i := 12) (d := 98) (v := undef) rfl (by kernel_rfl) (by kernel_rfl) (by kernel_rfl) (by kernel_rfl) (fun _ _ _ h => h) (Or.inr ⟨by kernel_rfl, rfl⟩) (by assumption) ?_
                  (try simp only [Act.put, List.setIfInBounds_toArray, List.set_cons_zero, List.set_cons_succ])
                  refine take_named23 (i := 13) (d := 99) (v := undef) rfl (by kernel_rfl) (by kernel_rfl) (by kernel_rfl) (by kernel_rfl) (fun _ _ _ h => h) (Or.inr ⟨by kernel_rfl, rfl⟩) (by assumption) ?_
                  (try simp only [Act.put, List.setIfInBounds_toArray, List.set_cons_zero, List.set_cons_succ])
                  refine take_named23 (i := 14) (d := 100) (v := undef) rfl (by kernel_rfl) (by kernel_rfl) (by kernel_rfl) (by kernel_rfl) (fun _ _ _ h => h) (Or.inr ⟨by kernel_rfl, rfl⟩) (by assumption) ?_
                  (try simp only [Act.put, List.setIfInBounds_toArray, List.set_cons_zero, List.set_cons_succ])
                  refine take_named23 (i := 15) (d := 101) (v := undef) rfl (by kernel_rfl) (by kernel_rfl) (by kernel_rfl) (by kernel_rfl) (fun _ _ _ h => h) (Or.inr ⟨by kernel_rfl, rfl⟩) (by assumption) ?_
                  (try simp only [Act.put, List.setIfInBounds_toArray, List.set_cons_zero, List.set_cons_succ])
                  refine take_named23 (i := 16) (d := 102) (v := ?vC16) rfl (by kernel_rfl) (by kernel_rfl) (by kernel_rfl) (by kernel_rfl) (fun _ _ _ h => h) (Or.inl ⟨by kernel_rfl, ?yC16⟩) (by assumption) ?_
                  case yC16 => intro wq hSw; (try dsimp only at hSw); go_simp; (try with_reducible rfl)
                  (try simp only [Act.put, List.setIfInBounds_toArray, List.set_cons_zero, List.set_cons_succ])
                  refine wpAnyH_done (by kernel_rfl) ?_ _
                  clear hHeldC
                  go_wp2_with fail
                  go_roundw
                  case rel => exact ⟨k2 + 1, by omega, by go_num, Hb2.out.drew⟩
                  case measure => simp [intOf]; omega
                · have hCe := Hre.out rfl
                  have hLe := line_same L HO.out V k2 k hlk2 hlt hCe
                  obtain ⟨bl2, ol2, hA2, hbl2, l0, l1, l2, l3, l4⟩ := rd_ln HLn3.out k2 (by rw [boardTo_len]; exact hlk2)
                  obtain ⟨rfl, rfl⟩ : bl = bl2 ∧ ol = ol2 := by injection hA2 with hA2; injection hA2 with h1 h2; exact ⟨h1, h2⟩
                  have hgetk : (boardTo L V L.length)[k2]'(by rw [boardTo_len]; exact hlk2) = lineE L V k2 := boardTo_get L V L.length k2 hlk2
                  rw [hgetk, hLe] at l0 l1 l2 l3 l4
                  have HLk2 := LnAt.below (x := lineE L V k) ⟨l0, l1, l2, l3, l4⟩ HBr.out hbl
                  have HLk3 := HLk.out.below HBr.out hbl
                  clear l0 l1 l2 l3 l4 hA2 hgetk hLe Hre
                  generalize lineE L V k = ln at HLk2 HLk3
                  obtain ⟨⟨x0, x1⟩, ⟨x2, x3⟩, x4⟩ := ln
                  have HEqf := HEq2.out
                  have HLnE := eqLn x0 x1 x2 x3 x4
                  have hS0 := And.intro HSa.out (And.intro HLk2 HLk3)
                  clear HLk2 HLk3 hCe
                  dsimp only [LnAt] at hS0
                  refine wp_region_held_drew (S := (fun wq => (wq.rangeAt b (off + k2 * 33) (L[k2]).C.toList ∧ wq.heap[G]? = some (.cells (L[k]).C 32 (0, 0))) ∧ (wq.cell? ⟨bl, ol + k2 * 5, none⟩ = some (.int .i64 x0) ∧ wq.cell? ⟨bl, ol + k2 * 5 + 1, none⟩ = some (.int .i64 x1) ∧ wq.cell? ⟨bl, ol + k2 * 5 + 2, none⟩ = some (.int .i64 x2) ∧ wq.cell? ⟨bl, ol + k2 * 5 + 3, none⟩ = some (.int .i64 x3) ∧ wq.cell? ⟨bl, ol + k2 * 5 + 4, none⟩ = some (.bool x4)) ∧ (wq.cell? ⟨bl, ol + k * 5, none⟩ = some (.int .i64 x0) ∧ wq.cell? ⟨bl, ol + k * 5 + 1, none⟩ = some (.int .i64 x1) ∧ wq.cell? ⟨bl, ol + k * 5 + 2, none⟩ = some (.int .i64 x2) ∧ wq.cell? ⟨bl, ol + k * 5 + 3, none⟩ = some (.int .i64 x3) ∧ wq.cell? ⟨bl, ol + k * 5 + 4, none⟩ = some (.bool x4)))) (by kernel_rfl) hS0 (fun hHeldD => ?_)
                  refine take_named23 (i := 0) (d := 86) (v := ?vD0) rfl (by kernel_rfl) (by kernel_rfl) (by kernel_rfl) (by kernel_rfl) (fun _ _ _ h => h) (Or.inl ⟨by kernel_rfl, ?yD0⟩) (by assumption) ?_
                  case yD0 => intro wq hSw; (try dsimp only at hSw); go_simp; (try with_reducible rfl)
                  (try simp only [Act.put, List.setIfInBounds_toArray, List.set_cons_zero, List.set_cons_succ])
                  refine take_named23 (i := 1) (d := 87) (v := ?vD1) rfl (by kernel_rfl) (by kernel_rfl) (by kernel_rfl) (by kernel_rfl) (fun _ _ _ h => h) (Or.inl ⟨by kernel_rfl, ?yD1⟩) (by assumption) ?_
                  case yD1 => intro wq hSw; (try dsimp only at hSw); go_simp; (try with_reducible rfl)
                  (try simp only [Act.put, List.setIfInBounds_toArray, List.set_cons_zero, List.set_cons_succ])
                  refine take_named23 (i := 2) (d := 88) (v := ?vD2) rfl (by kernel_rfl) (by kernel_rfl) (by kernel_rfl) (by kernel_rfl) (fun _ _ _ h => h) (Or.inl ⟨by kernel_rfl, ?yD2⟩) (by assumption) ?_
                  case yD2 => intro wq hSw; (try dsimp only at hSw); go_simp; (try with_reducible rfl)
                  (try simp only [Act.put, List.setIfInBounds_toArray, List.set_cons_zero, List.set_cons_succ])
                  refine take_named23 (i := 3) (d := 89) (v := .agg ((L[k2]).C.toList).toArray) rfl (by kernel_rfl) (by kernel_rfl) (by kernel_rfl) (by kernel_rfl) (fun _ _ _ h => h) (yieldsIf_load_mid (by kernel_rfl) 32 (.tmp 88) rfl b (off + k2 * 33) rfl ((L[k2]).C.toList) _ (fun w h => h.1.1) Tryd.underlying32 rfl hI2.out) (by assumption) ?_
                  (try simp only [Act.put, List.setIfInBounds_toArray, List.set_cons_zero, List.set_cons_succ])
                  (try simp only [Array.toArray_toList])
                  refine take_named23 (i := 4) (d := 90) (v := .agg (L[k]).C) rfl (by kernel_rfl) (by kernel_rfl) (by kernel_rfl) (by kernel_rfl) (fun _ _ _ h => h) (yieldsIf_load_row23 (by kernel_rfl) 32 (.tmp 12) rfl G rfl 32 (L[k]).C (0, 0) _ (fun w h => h.1.2) Tryd.underlying32 rfl hI.out) (by assumption) ?_
                  (try simp only [Act.put, List.setIfInBounds_toArray, List.set_cons_zero, List.set_cons_succ])
                  refine take_named23 (i := 5) (d := 91) (v := ?vD5) rfl (by kernel_rfl) (by kernel_rfl) (by kernel_rfl) (by kernel_rfl) (fun _ _ _ h => h) (Or.inl ⟨by kernel_rfl, ?yD5⟩) (by assumption) ?_
                  case yD5 => intro wq hSw; (try dsimp only at hSw); go_simp; (try with_reducible rfl)
                  (try simp only [Act.put, List.setIfInBounds_toArray, List.set_cons_zero, List.set_cons_succ])
                  refine take_named23 (i := 6) (d := 92) (v := ?vD6) rfl (by kernel_rfl) (by kernel_rfl) (by kernel_rfl) (by kernel_rfl) (fun _ _ _ h => h) (Or.inl ⟨by kernel_rfl, ?yD6⟩) (by assumption) ?_
                  case yD6 => intro wq hSw; (try dsimp only at hSw); go_simp; (try with_reducible rfl)
                  (try simp only [Act.put, List.setIfInBounds_toArray, List.set_cons_zero, List.set_cons_succ])
                  refine take_named23 (i := 7) (d := 93) (v := ?vD7) rfl (by kernel_rfl) (by kernel_rfl) (by kernel_rfl) (by kernel_rfl) (fun _ _ _ h => h) (Or.inl ⟨by kernel_rfl, ?yD7⟩) (by assumption) ?_
                  case yD7 => intro wq hSw; (try dsimp only at hSw); go_simp; (try with_reducible rfl)
                  (try simp only [Act.put, List.setIfInBounds_toArray, List.set_cons_zero, List.set_cons_succ])
                  refine take_named23 (i := 8) (d := 94) (v := ?vD8) rfl (by kernel_rfl) (by kernel_rfl) (by kernel_rfl) (by kernel_rfl) (fun _ _ _ h => h) (Or.inl ⟨by kernel_rfl, ?yD8⟩) (by assumption) ?_
                  case yD8 => intro wq hSw; (try dsimp only at hSw); go_simp; (try with_reducible rfl)
                  (try simp only [Act.put, List.setIfInBounds_toArray, List.set_cons_zero, List.set_cons_succ])
                  refine take_named23 (i := 9) (d := 95) (v := ?vD9) rfl (by kernel_rfl) (by kernel_rfl) (by kernel_rfl) (by kernel_rfl) (fun _ _ _ h => h) (Or.inl ⟨by kernel_rfl, ?yD9⟩) (by assumption) ?_
                  case yD9 => intro wq hSw; (try dsimp only at hSw); go_simp; (try with_reducible rfl)
                  (try simp only [Act.put, List.setIfInBounds_toArray, List.set_cons_zero, List.set_cons_succ])
                  refine take_named23 (i := 10) (d := 96) (v := ?vD10) rfl (by kernel_rfl) (by kernel_rfl) (by kernel_rfl) (by kernel_rfl) (fun _ _ _ h => h) (Or.inl ⟨by kernel_rfl, ?yD10⟩) (by assumption) ?_
                  case yD10 => intro wq hSw; (try dsimp only at hSw); go_simp; (try with_reducible rfl)
                  (try simp only [Act.put, List.setIfInBounds_toArray, List.set_cons_zero, List.set_cons_succ])
                  refine take_named23 (i := 11) (d := 97) (v := ?vD11) rfl (by kernel_rfl) (by kernel_rfl) (by kernel_rfl) (by kernel_rfl) (fun _ _ _ h => h) (Or.inl ⟨by kernel_rfl, ?yD11⟩) (by assumption) ?_
                  case yD11 => intro wq hSw; (try dsimp only at hSw); go_simp; (try with_reducible rfl)
                  (try simp only [Act.put, List.setIfInBounds_toArray, List.set_cons_zero, List.set_cons_succ])
                  refine take_named23 (i := 12) (d := 98) (v := ?vD12) rfl (by kernel_rfl) (by kernel_rfl) (by kernel_rfl) (by kernel_rfl) (fun _ _ _ h => h) (Or.inl ⟨by kernel_rfl, ?yD12⟩) (by assumption) ?_
                  case yD12 => intro wq hSw; (try dsimp only at hSw); go_simp; (try with_reducible rfl)
                  (try simp only [Act.put, List.setIfInBounds_toArray, List.set_cons_zero, List.set_cons_succ])
                  refine take_named23 (i := 13) (d := 99) (v := ?vD13) rfl (by kernel_rfl) (by kernel_rfl) (by kernel_rfl) (by kernel_rfl) (fun _ _ _ h => h) (Or.inl ⟨by kernel_rfl, ?yD13⟩) (by assumption) ?_
                  case yD13 => intro wq hSw; (try dsimp only at hSw); go_simp; (try with_reducible rfl)
                  (try simp only [Act.put, List.setIfInBounds_toArray, List.set_cons_zero, List.set_cons_succ])
                  refine take_named23 (i := 14) (d := 100) (v := ?vD14) rfl (by kernel_rfl) (by kernel_rfl) (by kernel_rfl) (by kernel_rfl) (fun _ _ _ h => h) (Or.inl ⟨by kernel_rfl, ?yD14⟩) (by assumption) ?_
                  case yD14 => intro wq hSw; (try dsimp only at hSw); go_simp; (try with_reducible rfl)
                  (try simp only [Act.put, List.setIfInBounds_toArray, List.set_cons_zero, List.set_cons_succ])
                  refine take_named23 (i := 15) (d := 101) (v := ?vD15) rfl (by kernel_rfl) (by kernel_rfl) (by kernel_rfl) (by kernel_rfl) (fun _ _ _ h => h) (Or.inl ⟨by kernel_rfl, ?yD15⟩) (by assumption) ?_
                  case yD15 => intro wq hSw; (try dsimp only at hSw); go_simp; (try with_reducible rfl)
                  (try simp only [Act.put, List.setIfInBounds_toArray, List.set_cons_zero, List.set_cons_succ])
                  refine take_named23 (i := 16) (d := 102) (v := ?vD16) rfl (by kernel_rfl) (by kernel_rfl) (by kernel_rfl) (by kernel_rfl) (fun _ _ _ h => h) (Or.inl ⟨by kernel_rfl, ?yD16⟩) (by assumption) ?_
                  case yD16 => intro wq hSw; (try dsimp only at hSw); go_simp; (try with_reducible rfl)
                  (try simp only [Act.put, List.setIfInBounds_toArray, List.set_cons_zero, List.set_cons_succ])
                  refine wpAnyH_done (by kernel_rfl) ?_ _
                  clear hHeldD
                  go_wp2_with fail
                  go_roundw
                  case rel => exact ⟨k2 + 1, by omega, by go_num, Hb2.out.drew⟩
                  case measure => simp [intOf]; omega
              · have e2 : ¬ ((k2 : Int) < (k : Int)) := by omega
                have hBr : Below b3 W3 wr := HB5.out.trans (Hb2.out.mono (by rw [← HB3s.out]; exact HB5.out.size))
                go_wp2_with fail
                go_roundw
                case rel => exact ⟨k + 1, hlt, by go_num, hBr⟩
                case measure => simp [intOf]; omega
    · obtain rfl : k = L.length := by omega
      have HBe := Lib.hid (show Below w.heap.size w wr from HB3.out.trans (Hbel.out.mono hwb))
      clear Hbel
      go_wp2_with fail
      refine (awake23 wr (HL.out.go HBe.out) (HLm.out.below HBe.out HLm.out.lt)).mono ?_
      rintro ee we ⟨rfl, hbe⟩
      go_wp2_with fail
      go_ret
      exact ⟨rfl, HBe.out.trans (hbe.mono HBe.out.size)⟩

end Go.Proofs.YtchklobblkddhaaDoor
