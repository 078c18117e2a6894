/- The walk of foul.add. What the matchpoints of a board sum to, in plain Lean. The walk of foul.Demand. -/
import Derived.Test.YtchklobblkddhaaGreatDoorFouVal
import Derived.Test.YtchklobblkddhaaGreatDoorFracMul
import Derived.Sort.CutIn
import Derived.Test.YtchklobblkddhaaGreatDoorFouBrdW
namespace Go.Proofs.YtchklobblkddhaaGreatDoor
open Go.RowKit Go.Shelf
open Go.RowKit

/-! ### The walk of foul.add. -/
/-- Two fractions a place, as cells. -/
def qC (l : List (Pt × Pt)) : List Value := l.flatMap fun x => [.int .i64 x.1.1, .int .i64 x.1.2, .int .i64 x.2.1, .int .i64 x.2.2]
theorem qC_len (l : List (Pt × Pt)) : (qC l).length = l.length * 4 := by
  induction l with
  | nil => rfl
  | cons a l ih =>
    have e : qC (a :: l) = [.int .i64 a.1.1, .int .i64 a.1.2, .int .i64 a.2.1, .int .i64 a.2.2] ++ qC l := rfl
    rw [e, List.length_append, ih]; simp; omega
theorem qC_app (l m : List (Pt × Pt)) : qC (l ++ m) = qC l ++ qC m := List.flatMap_append
theorem qC_get (l : List (Pt × Pt)) : ∀ (k : Nat) (h : k < l.length), (qC l)[k * 4]? = some (.int .i64 l[k].1.1) ∧ (qC l)[k * 4 + 1]? = some (.int .i64 l[k].1.2) ∧ (qC l)[k * 4 + 2]? = some (.int .i64 l[k].2.1) ∧ (qC l)[k * 4 + 3]? = some (.int .i64 l[k].2.2) := by
  induction l with
  | nil => intro k h; simp at h
  | cons a l ih =>
    intro k h
    have e : qC (a :: l) = .int .i64 a.1.1 :: .int .i64 a.1.2 :: .int .i64 a.2.1 :: .int .i64 a.2.2 :: qC l := rfl
    rw [e]
    cases k with
    | zero => exact ⟨rfl, rfl, rfl, rfl⟩
    | succ k =>
      have := ih k (by simpa using h)
      rw [show (k + 1) * 4 = k * 4 + 1 + 1 + 1 + 1 by omega]
      exact this
theorem rd_q {w : World} {B : Nat} {A : Option Addr} {l : List (Pt × Pt)} (h : Rd w B 4 A l.length (qC l)) (k : Nat) (hk : k < l.length) :
    ∃ b off, A = some ⟨b, off, none⟩ ∧ b < B ∧ w.cell? ⟨b, off + k * 4, none⟩ = some (.int .i64 l[k].1.1) ∧ w.cell? ⟨b, off + k * 4 + 1, none⟩ = some (.int .i64 l[k].1.2) ∧ w.cell? ⟨b, off + k * 4 + 2, none⟩ = some (.int .i64 l[k].2.1) ∧ w.cell? ⟨b, off + k * 4 + 3, none⟩ = some (.int .i64 l[k].2.2) := by
  obtain ⟨b, off, e, hb, hc⟩ := h.pos (by omega)
  obtain ⟨g0, g1, g2, g3⟩ := qC_get l k hk
  have hl := qC_len l
  exact ⟨b, off, e, hb, (hc _ (by omega)).trans g0, (hc (k * 4 + 1) (by omega)).trans g1, (hc (k * 4 + 2) (by omega)).trans g2, (hc (k * 4 + 3) (by omega)).trans g3⟩
/-- A side of two. -/
def sdP (s : Nat) (x : Pt × Pt) : Pt := if s = 0 then x.1 else x.2
/-- The sum of a side of the first k. -/
def sumS (l : List (Pt × Pt)) (s k : Nat) : Pt := sumK (l.map (sdP s)) k
theorem sumS_succ (l : List (Pt × Pt)) (s k : Nat) (h : k < l.length) : sumS l s (k + 1) = addF (sumS l s k) (sdP s l[k]) := by
  unfold sumS
  rw [sumK_succ _ k (by rw [List.length_map]; exact h), List.getElem_map]
def sumX (l : List (Pt × Pt)) (k j : Nat) (_ s : Nat) : Pt := if s < j then sumS l s (k + 1) else sumS l s k
theorem lt_alloc23 {W : World} {n : Nat} (h : n < W.heap.size) (o : Obj) : n < (W.alloc o).heap.size := by simp; omega
theorem ne_new23 {W : World} {n : Nat} (h : n < W.heap.size) : W.heap.size ≠ n := by omega
def AddCut (W : World) (q0 q1 : Int) (v9 v10 : Value) (wz : World) : Prop := ∃ q : Nat, v9 = .pointer (some ⟨q, 0, none⟩) ∧ v10 = .int .i64 0 ∧ W.heap.size ≤ q ∧ wz.heap[q]? = some (.cells #[.int .i64 q0, .int .i64 q1] 36 (0, 0)) ∧ Below W.heap.size W wz

set_option maxRecDepth 100000 in
set_option maxHeartbeats 2000000 in
theorem fadd23 (l : List (Pt × Pt)) (A : Option Addr) (c : Nat) (w : World) (hl : Rd w w.heap.size 4 A l.length (qC l)) (hn : l.length ≤ 1000) (h1 : ∀ f ∈ l, ∀ s, smF (sdP s f)) (h2 : ∀ s k, s < 2 → k ≤ l.length → smF (sumS l s k)) :
    Calls Tryz.prog 25 #[.slice A l.length c] w fun e w' => e = .returned (.tuple #[.agg #[.int .i64 (sumS l 0 l.length).1, .int .i64 (sumS l 0 l.length).2, .int .i64 (sumS l 1 l.length).1, .int .i64 (sumS l 1 l.length).2], .int .i64 0]) ∧ Below w.heap.size w w' := by
  have Hl := Lib.hid hl
  have H1 := Lib.hid h1
  have H2 := Lib.hid h2
  clear hl h1 h2
  go_enter Tryz.func25, Tryz.ntmps25
  go_wp2
  obtain ⟨r, hr⟩ : ∃ r, w.heap.size = r := ⟨_, rfl⟩
  obtain ⟨H, hH⟩ : ∃ H, w.heap.size + 1 = H := ⟨_, rfl⟩
  obtain ⟨W0, hW0⟩ : ∃ V, (w.alloc (.cells #[.int .i64 0, .int .i64 0, .int .i64 0, .int .i64 0] 56)).alloc (.cells #[.int .i64 0, .int .i64 1, .int .i64 0, .int .i64 1] 56) = V := ⟨_, rfl⟩
  have k0 : W0.heap[r]? = some (.cells #[.int .i64 0, .int .i64 0, .int .i64 0, .int .i64 0] 56) := by rw [← hW0]; exact blk_alloc (blk_new _ hr.symm) _
  have kH : W0.heap[H]? = some (.cells #[.int .i64 0, .int .i64 1, .int .i64 0, .int .i64 1] 56) := by rw [← hW0]; exact blk_new _ (by simp [hH])
  have hB0 : Below w.heap.size w W0 := by rw [← hW0]; exact (by repeat (first | exact Below.refl _ _ | assumption | refine Below.drew ?_ | refine below_drewN ?_ _ | refine Below.alloc ?_ (by first | omega | (simp; done) | (simp; omega)) _ | refine Below.setCell ?_ (by first | omega | (simp; done) | (simp; omega)) _))
  have hrH : r < H := by omega
  have hwH : w.heap.size ≤ H := by omega
  have hwr : w.heap.size = r := hr
  rw [hW0, hH, hr]
  have K0 := Lib.hid k0
  clear hW0 k0
  have hG0 : GC #[.int .i64 0, .int .i64 1, .int .i64 0, .int .i64 1] 1 (sumX l 0 0) := by
    refine ⟨rfl, fun i s hi hs => ?_⟩
    obtain rfl : i = 0 := by omega
    have e : sumX l 0 0 0 s = (0, 1) := by unfold sumX sumS; rw [if_neg (by omega)]; rfl
    rw [e]
    rcases (show s = 0 ∨ s = 1 by omega) with rfl | rfl <;> exact ⟨rfl, rfl⟩
  go_loopw [16] (fun i wr => ∃ (k : Nat) (C : Array Value), k ≤ l.length ∧ i = .int .i64 (k : Int) ∧ wr.heap[H]? = some (.cells C 56 (0, 0)) ∧ GC C 1 (sumX l k 0) ∧ Below H W0 wr) (fun i _ => l.length - (intOf i).toNat)
  case atStart => exact ⟨0, _, Nat.zero_le _, rfl, kH, hG0, Below.refl _ _⟩
  case round =>
    obtain ⟨k, C, hk, rfl, hCk, hGk, hbel⟩ := hrel
    have HCk := Lib.hid hCk
    have HGk := Lib.hid hGk
    have Hbel := Lib.hid hbel
    clear hCk hGk hbel kH hG0
    by_cases hlt : k < l.length
    · obtain ⟨b, off, rfl, hbw, e0, e1, e2, e3⟩ := rd_q Hl.out k hlt
      have hbo : Below w.heap.size w wr := hB0.trans (Hbel.out.mono hwH)
      have d0 := (bcell hbo b (off + k * 4) hbw).trans e0
      have d1 := (bcell hbo b (off + k * 4 + 1) hbw).trans e1
      have d2 := (bcell hbo b (off + k * 4 + 2) hbw).trans e2
      have d3 := (bcell hbo b (off + k * 4 + 3) hbw).trans e3
      have c1 : (0 : Int) ≤ (k : Int) := by omega
      have c2 : (k : Int) < (l.length : Int) := by omega
      have HSm := Lib.hid (fun s => H1.out _ (List.getElem_mem hlt) s)
      have HSu := Lib.hid (fun s => sumS_succ l s k hlt)
      obtain ⟨wo, hwo⟩ : ∃ wo : World, wo = wr := ⟨_, rfl⟩
      rw [← hwo] at HCk Hbel d0 d1 d2 d3 ⊢
      have hHl := blk_lt HCk.out
      clear hwo e0 e1 e2 e3 hbo
      generalize l[k] = x at d0 d1 d2 d3 HSm HSu
      obtain ⟨⟨x0, x1⟩, ⟨y0, y1⟩⟩ := x
      dsimp only at d0 d1 d2 d3
      go_upto_region 6 with fail
      obtain ⟨W1, hW1⟩ : ∃ V, wo.alloc (.cells #[.int .i64 x0, .int .i64 x1, .int .i64 y0, .int .i64 y1] 56) = V := ⟨_, rfl⟩
      have hb1 : Below wo.heap.size wo W1 := by rw [← hW1]; exact (by repeat (first | exact Below.refl _ _ | assumption | refine Below.drew ?_ | refine below_drewN ?_ _ | refine Below.alloc ?_ (by first | omega | (simp; done) | (simp; omega)) _ | refine Below.setCell ?_ (by first | omega | (simp; done) | (simp; omega)) _))
      have HC1 := Lib.hid (blk_below HCk.out hb1 hHl)
      have HB1 := Lib.hid (Hbel.out.trans (hb1.mono (Nat.le_of_lt hHl)))
      rw [hW1]
      clear hW1 hb1 d0 d1 d2 d3
      go_loopw [21] (fun i wz => ∃ (j : Nat) (C : Array Value), j ≤ 2 ∧ i = .int .i64 (j : Int) ∧ wz.heap[H]? = some (.cells C 56 (0, 0)) ∧ GC C 1 (sumX l k j) ∧ Below H W0 wz) (fun i _ => 2 - (intOf i).toNat)
      case atStart => exact ⟨0, C, by omega, rfl, HC1.out, HGk.out, HB1.out⟩
      case round =>
        obtain ⟨j, C, hj, rfl, hCk, hGk, hbel⟩ := hrel
        rename World => wz
        have HCk := Lib.hid hCk
        have HGk := Lib.hid hGk
        have Hbel := Lib.hid hbel
        clear hCk hGk hbel HC1 HB1
        by_cases hlt2 : j < 2
        · obtain ⟨p, hp⟩ : ∃ p, sdP j ((x0, x1), (y0, y1)) = p := ⟨_, rfl⟩
          have hix : ∀ W, (Instr.index 56 (.agg #[.int .i64 x0, .int .i64 x1, .int .i64 y0, .int .i64 y1]) (.int .i64 (j : Int))).run Tryz.prog W = .ok (.agg #[.int .i64 p.1, .int .i64 p.2]) W := fun W => by
            rw [run_index_agg (P := Tryz.prog) (w := W) 56 36 2 2 _ .i64 j Tryz.underlying56 (by kernel_rfl) (fun _ => by kernel_rfl) hlt2, ← hp]
            rcases (show j = 0 ∨ j = 1 by omega) with rfl | rfl <;> rfl
          have hsm := HSm.out j
          rw [hp] at hsm
          have hsu := HSu.out j
          rw [hp] at hsu
          have HA := Lib.hid (fun W => fadd_sm (sumS l j k) p (H2.out j k hlt2 hk) hsm W)
          rw [← hsu] at HA
          obtain ⟨g0, g1⟩ := HGk.out.2 0 j (by decide) hlt2
          have hsx : sumX l k j 0 j = sumS l j k := by unfold sumX; rw [if_neg (by omega)]
          rw [hsx, Nat.zero_mul, Nat.zero_add] at g0 g1
          have HUp := Lib.hid (fun (q : Pt) (e : sumS l j (k + 1) = q) => (HGk.out.set 0 j (by decide) hlt2 q).congr (Y := sumX l k (j + 1)) (fun i s hi hs => by
            obtain rfl : i = 0 := by omega
            unfold updX sumX
            by_cases e2 : s = j
            · rw [if_pos ⟨rfl, e2⟩, if_pos (by omega), e2, e]
            · rw [if_neg (fun h => e2 h.2)]
              by_cases e3 : s < j
              · rw [if_pos e3, if_pos (by omega)]
              · rw [if_neg e3, if_neg (by omega)]))
          have HUq := Lib.hid (HUp.out _ rfl)
          clear hsx hsu hsm hp HUp HSm HSu
          generalize sumS l j (k + 1) = q at HA HUq
          generalize sumS l j k = f at HA g0 g1
          obtain ⟨f0, f1⟩ := f
          obtain ⟨p0, p1⟩ := p
          obtain ⟨q0, q1⟩ := q
          unfold fV at HA
          dsimp only at HA g0 g1 HUq hix
          have m0 : (0 : Int) ≤ (j : Int) := by omega
          have m1 : (j : Int) < 2 := by omega
          rw [Nat.zero_mul, Nat.zero_add] at HUq
          have HG01 := Lib.hid (And.intro g0 g1)
          clear g0 g1
          go_upto_region 8 with fail
          obtain ⟨W2, hW2⟩ : ∃ V, wz.alloc (.cells #[.int .i64 p0, .int .i64 p1] 36) = V := ⟨_, rfl⟩
          obtain ⟨G, hG⟩ : ∃ G, wz.heap.size = G := ⟨_, rfl⟩
          have hb2 : Below wz.heap.size wz W2 := by rw [← hW2]; exact (by repeat (first | exact Below.refl _ _ | assumption | refine Below.drew ?_ | refine below_drewN ?_ _ | refine Below.alloc ?_ (by first | omega | (simp; done) | (simp; omega)) _ | refine Below.setCell ?_ (by first | omega | (simp; done) | (simp; omega)) _))
          have hHz := blk_lt HCk.out
          have kH2 := blk_below HCk.out hb2 hHz
          have kG2 : W2.heap[G]? = some (.cells #[.int .i64 p0, .int .i64 p1] 36) := by rw [← hW2]; exact blk_new _ hG.symm
          have d0 := (blk_cell kH2 (j * 2)).trans HG01.out.1
          have d1 := (blk_cell kH2 (j * 2 + 1)).trans HG01.out.2
          have d2 := blk_cell kG2 0
          have d3 := blk_cell kG2 1
          have l1 : H < W2.heap.size := blk_lt kH2
          have l2 : G < W2.heap.size := blk_lt kG2
          have HB2 := Lib.hid (Hbel.out.trans (hb2.mono (Nat.le_of_lt hHz)))
          have HH2 := Lib.hid kH2
          rw [hW2, hG]
          clear hW2 hG hb2 hHz kH2 kG2
          go_cut [9, 10] (fun v9 v10 wx => AddCut W2 q0 q1 v9 v10 wx)
          case first =>
            have HK := Lib.hid (fun (w' : World) (h : ∀ (p : Addr) (v : Value), p.block < W2.heap.size → W2.cell? p = some v → w'.cell? p = some v) => (show w'.cell? ⟨H, j * 2, none⟩ = some (.int .i64 f0) ∧ w'.cell? ⟨H, j * 2 + 1, none⟩ = some (.int .i64 f1) ∧ w'.cell? ⟨G, 0, none⟩ = some (.int .i64 p0) ∧ w'.cell? ⟨G, 1, none⟩ = some (.int .i64 p1) from ⟨h _ _ l1 d0, h _ _ l1 d1, h _ _ l2 d2, h _ _ l2 d3⟩))
            have HF := Lib.hid ((HA.out (W2.alloc (.cells #[.int .i64 0, .int .i64 0] 36)).drew).mono fun ee wa (h : ee = .returned (.tuple #[.agg #[.int .i64 q0, .int .i64 q1], .int .i64 0]) ∧ Below (W2.alloc (.cells #[.int .i64 0, .int .i64 0] 36)).drew.heap.size (W2.alloc (.cells #[.int .i64 0, .int .i64 0] 36)).drew wa) =>
              (show (ee = .returned (.tuple #[.agg #[.int .i64 q0, .int .i64 q1], .int .i64 0]) ∧ Below (W2.alloc (.cells #[.int .i64 0, .int .i64 0] 36)).drew.heap.size (W2.alloc (.cells #[.int .i64 0, .int .i64 0] 36)).drew wa ∧ _) from ⟨h.1, h.2, frame2 (W := W2.alloc (.cells #[.int .i64 0, .int .i64 0] 36)) (t := 36) (g := W2.heap.size) (x := .int .i64 0) (y := .int .i64 0) (blk_new _ rfl) h.2 (by simp)⟩))
            clear hix HCk HGk
            go_region_held3 (fun w' => w'.cell? ⟨H, j * 2, none⟩ = some (.int .i64 f0) ∧ w'.cell? ⟨H, j * 2 + 1, none⟩ = some (.int .i64 f1) ∧ w'.cell? ⟨G, 0, none⟩ = some (.int .i64 p0) ∧ w'.cell? ⟨G, 1, none⟩ = some (.int .i64 p1)) ((first | exact HK.out _ (fun p v l h => h) | exact HK.out _ (fun p v l h => keepC h _) | exact HK.out _ (fun p v l h => keepB hba l h) | exact HK.out _ (fun p v l h => keepB hba (lt_alloc23 l _) (keepC h _)) | exact HK.out _ (fun p v l h => keepA hba l h _) | exact HK.out _ (fun p v l h => keepS (keepS (keepB hba (lt_alloc23 l _) (keepC h _)) (ne_new23 l) _) (ne_new23 l) _) | exact HK.out _ (fun p v l h => keepS (keepS (keepA hba l h _) (ne_new23 (Nat.lt_of_lt_of_le l hba.size)) _) (ne_new23 (Nat.lt_of_lt_of_le l hba.size)) _) | go_keep))
              ((first | (go_at_call 37; (refine HF.out.mono ?_); rintro ee wa ⟨rfl, hba, hblk2, hc0, hc1, hf0, hf1⟩) | (go_at_call 37; (with_reducible refine (HA.out _).mono ?_); rintro ee wa ⟨rfl, hba⟩)))
            all_goals (go_wp2_with fail)
            all_goals go_meet
            all_goals (first
              | exact ⟨wa.heap.size, rfl, rfl, hba.size, blk_new _ rfl, ((Below.refl _ _).drew.trans (hba.mono (Nat.le_refl _))).alloc hba.size _⟩
              | exact ⟨W2.heap.size, rfl, rfl, Nat.le_refl _, blk_set (blk_set hblk2 0 _) 1 _, ((((Below.refl _ _).alloc (Nat.le_refl _) _).drew.trans (hba.mono (by simp))).setCell (Nat.le_refl _) _).setCell (Nat.le_refl _) _⟩)
          case rest =>
            obtain ⟨g9, rfl, rfl, hg9, k9, hbx⟩ := hcut
            rename World => wx
            have kH3 := blk_below HH2.out hbx l1
            have q0' := blk_cell k9 0
            have q1' := blk_cell k9 1
            have w0 := (blk_cell kH3 (j * 2)).trans HG01.out.1
            have w1 := (blk_cell kH3 (j * 2 + 1)).trans HG01.out.2
            have f0' := blk_free kH3 (j * 2)
            have f1' := blk_free kH3 (j * 2 + 1)
            have HB3 := Lib.hid (HB2.out.trans (hbx.mono (Nat.le_of_lt l1)))
            have HH3 := Lib.hid kH3
            clear hbx k9 kH3 hix d0 d1 d2 d3
            go_wp2
            go_roundw
            case rel => exact ⟨j + 1, _, hlt2, by go_num, blk_set (blk_set HH3.out (j * 2) _) (j * 2 + 1) _, HUq.out, (HB3.out.setCell (p := ⟨H, j * 2, none⟩) (Nat.le_refl _) _).setCell (p := ⟨H, j * 2 + 1, none⟩) (Nat.le_refl _) _⟩
            case measure => simp [intOf]; omega
        · obtain rfl : j = 2 := by omega
          have hE := HGk.out.congr (Y := sumX l (k + 1) 0) (fun i s _ hs => by unfold sumX; rw [if_pos hs, if_neg (by omega)])
          have HE := Lib.hid hE
          clear hE HGk
          go_wp2
          go_roundw
          case rel => exact ⟨k + 1, C, hlt, by go_num, HCk.out, HE.out, Hbel.out⟩
          case measure => simp [intOf]; omega
    · obtain rfl : k = l.length := by omega
      have kr := blk_below K0.out Hbel.out hrH
      obtain ⟨g0, g1⟩ := HGk.out.2 0 0 (by decide) (by decide)
      obtain ⟨g2, g3⟩ := HGk.out.2 0 1 (by decide) (by decide)
      have e0 : sumX l l.length 0 0 0 = sumS l 0 l.length := rfl
      have e1 : sumX l l.length 0 0 1 = sumS l 1 l.length := rfl
      rw [e0] at g0 g1
      rw [e1] at g2 g3
      have d0 := (blk_cell HCk.out 0).trans g0
      have d1 := (blk_cell HCk.out 1).trans g1
      have d2 := (blk_cell HCk.out 2).trans g2
      have d3 := (blk_cell HCk.out 3).trans g3
      have z0 := blk_cell kr 0
      have z1 := blk_cell kr 1
      have z2 := blk_cell kr 2
      have z3 := blk_cell kr 3
      have f0 := blk_free kr 0
      have f1 := blk_free kr 1
      have f2 := blk_free kr 2
      have f3 := blk_free kr 3
      have HBe := Lib.hid (hB0.trans (Hbel.out.mono hwH))
      have Hre := Lib.hid (Nat.le_of_eq hwr)
      clear g0 g1 g2 g3 e0 e1 kr hB0 Hbel hwr
      go_wp2
      refine bodyPost_ret (v := .tuple #[.agg #[.int .i64 (sumS l 0 l.length).1, .int .i64 (sumS l 0 l.length).2, .int .i64 (sumS l 1 l.length).1, .int .i64 (sumS l 1 l.length).2], .int .i64 0]) ?_ rfl ⟨rfl, ?_⟩
      · simp [results, Tryz.results25, go_sem, z0, z1, z2, z3]
      · exact (((HBe.out.setCell (p := ⟨r, 0, none⟩) Hre.out _).setCell (p := ⟨r, 1, none⟩) Hre.out _).setCell (p := ⟨r, 2, none⟩) Hre.out _).setCell (p := ⟨r, 3, none⟩) Hre.out _

/-! ### What the matchpoints of a board sum to, in plain Lean. -/
theorem aw_fr (p n : Int) : awardF p n = fr (p * (2 * (n - 1))) 100 := by
  unfold awardF
  have h : fr p 1 = (p, 1) := by unfold fr; simp
  rw [← h, mul_fr p _ 1 100 (by decide) (by decide)]
  rfl
theorem aw_bd (p n : Int) (hp : 0 ≤ p ∧ p ≤ 100) (hn : 1 ≤ n ∧ n ≤ 24) : 0 ≤ p * (2 * (n - 1)) ∧ p * (2 * (n - 1)) ≤ 4600 := by
  have h1 := Int.mul_nonneg hp.1 (show 0 ≤ 2 * (n - 1) by omega)
  have h2 : p * (2 * (n - 1)) ≤ 100 * (2 * (n - 1)) := Int.mul_le_mul_of_nonneg_right hp.2 (by omega)
  omega
theorem sumK_frD (D : Int) (hD : 1 ≤ D) (xs : List Int) : ∀ k, k ≤ xs.length → sumK (xs.map fun x => fr x D) k = fr (xs.take k).sum D := by
  intro k
  induction k with
  | zero =>
    intro _
    have e : fr 0 D = (0, 1) := by
      have := whole_frD 0 D hD
      rwa [Int.zero_mul] at this
    rw [List.take_zero, List.sum_nil, e]; rfl
  | succ k ih =>
    intro hk
    rw [sumK_succ _ k (by rw [List.length_map]; omega), ih (by omega), List.getElem_map, add_frD _ _ _ hD, List.take_succ_eq_append_getElem (by omega), List.sum_append]
    simp
theorem sum_bd (M : Int) (hM : 0 ≤ M) (xs : List Int) (h : ∀ x ∈ xs, 0 ≤ x ∧ x ≤ M) : ∀ k, 0 ≤ (xs.take k).sum ∧ (xs.take k).sum ≤ M * xs.length := by
  induction xs with
  | nil => intro k; simp
  | cons a xs ih =>
    intro k
    have h1 := h a (List.mem_cons_self ..)
    cases k with
    | zero => simp; exact Int.mul_nonneg hM (by omega)
    | succ k =>
      have := ih (fun x hx => h x (List.mem_cons_of_mem _ hx)) k
      rw [List.take_succ_cons, List.sum_cons, List.length_cons]
      have e : M * ((xs.length + 1 : Nat) : Int) = M * (xs.length : Int) + M := by rw [Int.natCast_add, Int.mul_add]; simp
      omega

/-- What a field demands for each of its entries. -/
def maxA (all : Int) : Int := if 0 < all - 1 then all - 1 else 0
/-- An award, of an entry. -/
def awP (all : Int) (e : Ent) : Option (Pt × Pt) := if e.k = 4 then some (awardF e.a0 all, awardF e.a1 all) else none
def fldP (L : List Ent) (all : Int) (f : Nat) : Pt × Pt := (((inField L (f : Int) : Int) * maxA all, 1), ((inField L (f : Int) : Int) * maxA all, 1))
def fldD (L : List Ent) (all : Int) (j : Nat) : List (Pt × Pt) := (List.range j).map (fldP L all)
theorem fldD_succ (L : List Ent) (all : Int) (j : Nat) : fldD L all (j + 1) = fldD L all j ++ [fldP L all j] := by unfold fldD; rw [List.range_succ, List.map_append]; rfl
theorem fldD_len (L : List Ent) (all : Int) (j : Nat) : (fldD L all j).length = j := by unfold fldD; rw [List.length_map, List.length_range]
def awD (L : List Ent) (all : Int) (k : Nat) : List (Pt × Pt) := (L.take k).filterMap (awP all)
theorem awD_yes (L : List Ent) (all : Int) (k : Nat) (h : k < L.length) (h4 : (L[k]).k = 4) : awD L all (k + 1) = awD L all k ++ [(awardF (L[k]).a0 all, awardF (L[k]).a1 all)] := by
  unfold awD
  rw [List.take_succ_eq_append_getElem h, List.filterMap_append]
  congr 1
  simp [awP, h4]
theorem awD_no (L : List Ent) (all : Int) (k : Nat) (h : k < L.length) (h4 : (L[k]).k ≠ 4) : awD L all (k + 1) = awD L all k := by
  unfold awD
  rw [List.take_succ_eq_append_getElem h, List.filterMap_append]
  simp [awP, h4]
theorem awD_len (L : List Ent) (all : Int) (k : Nat) : (awD L all k).length ≤ L.length := by
  unfold awD
  exact Nat.le_trans (List.length_filterMap_le _ _) (by rw [List.length_take]; omega)
def demTo (L : List Ent) (all : Int) (k : Nat) : List (Pt × Pt) := fldD L all 4 ++ awD L all k
theorem demTo_zero (L : List Ent) (all : Int) : demTo L all 0 = fldD L all 4 := by unfold demTo awD; simp
theorem demTo_yes (L : List Ent) (all : Int) (k : Nat) (h : k < L.length) (h4 : (L[k]).k = 4) : demTo L all (k + 1) = demTo L all k ++ [(awardF (L[k]).a0 all, awardF (L[k]).a1 all)] := by
  unfold demTo; rw [awD_yes L all k h h4, List.append_assoc]
theorem demTo_no (L : List Ent) (all : Int) (k : Nat) (h : k < L.length) (h4 : (L[k]).k ≠ 4) : demTo L all (k + 1) = demTo L all k := by
  unfold demTo; rw [awD_no L all k h h4]
theorem demTo_len (L : List Ent) (all : Int) (k : Nat) : (demTo L all k).length ≤ 4 + L.length := by
  unfold demTo
  rw [List.length_append, fldD_len]
  have := awD_len L all k
  omega
/-- All that is demanded. -/
def demD (L : List Ent) (all : Int) : List (Pt × Pt) := fldD L all 4 ++ awD L all L.length
/-- The same in hundredths, for a side. -/
def demN (L : List Ent) (all : Int) (s : Nat) : List Int := (List.range 4).map (fun f => (inField L ((f : Nat) : Int) : Int) * maxA all * 100) ++ L.filterMap (fun e => if e.k = 4 then some ((if s = 0 then e.a0 else e.a1) * (2 * (all - 1))) else none)
theorem dem_eq (L : List Ent) (all : Int) (s : Nat) (hs : s < 2) : (demD L all).map (sdP s) = (demN L all s).map fun x => fr x 100 := by
  unfold demD demN fldD awD
  rw [List.map_append, List.map_append, List.map_map, List.map_map, List.take_length]
  congr 1
  · apply List.map_congr_left
    intro f _
    show sdP s (fldP L all f) = fr _ 100
    rw [whole_frD _ 100 (by decide)]
    unfold sdP fldP
    split <;> rfl
  · rw [List.map_filterMap, List.map_filterMap]
    congr 1
    funext e
    unfold awP
    by_cases h4 : e.k = 4
    · rw [if_pos h4, if_pos h4]
      show some (sdP s (awardF e.a0 all, awardF e.a1 all)) = some (fr _ 100)
      rcases (show s = 0 ∨ s = 1 by omega) with rfl | rfl
      · exact congrArg some (aw_fr _ _)
      · exact congrArg some (aw_fr _ _)
    · rw [if_neg h4, if_neg h4]; rfl
theorem demN_len (L : List Ent) (all : Int) (s : Nat) : (demN L all s).length ≤ 4 + L.length := by
  unfold demN
  rw [List.length_append, List.length_map, List.length_range]
  have := List.length_filterMap_le (fun e : Ent => if e.k = 4 then some ((if s = 0 then e.a0 else e.a1) * (2 * (all - 1))) else none) L
  omega
theorem right_aw {e : Ent} (h : e.right = true) (h4 : e.k = 4) : shareB e.a0 = true ∧ shareB e.a1 = true := by
  unfold Ent.right rightE at h
  have h := (Bool.and_eq_true_iff.1 h).2
  rw [h4] at h
  have h : awardB e.o e.a0 e.a1 = true := h
  unfold awardB at h
  exact Bool.and_eq_true_iff.1 (Bool.and_eq_true_iff.1 h).1
theorem demN_bd (L : List Ent) (hR : ∀ e ∈ L, e.right = true) (hn : L.length ≤ 24) (s : Nat) (x : Int) (hx : x ∈ demN L (notVoid L : Int) s) : 0 ≤ x ∧ x ≤ 100000 := by
  have hv : notVoid L ≤ L.length := List.length_filter_le _ _
  unfold demN at hx
  rcases List.mem_append.1 hx with hx | hx
  · obtain ⟨f, _, rfl⟩ := List.mem_map.1 hx
    have hf := inField_le L ((f : Nat) : Int)
    have hm : 0 ≤ maxA (notVoid L : Int) ∧ maxA (notVoid L : Int) ≤ 23 := by unfold maxA; split <;> omega
    have h1 : 0 ≤ (inField L (f : Int) : Int) * maxA (notVoid L : Int) := Int.mul_nonneg (by omega) hm.1
    have h2 : (inField L (f : Int) : Int) * maxA (notVoid L : Int) ≤ 24 * 23 := Int.mul_le_mul (by omega) hm.2 hm.1 (by decide)
    omega
  · obtain ⟨e, he, hxe⟩ := List.mem_filterMap.1 hx
    by_cases h4 : e.k = 4
    · rw [if_pos h4] at hxe
      obtain ⟨i, hi, rfl⟩ := List.getElem_of_mem he
      have h1 := notVoid_one L i hi (by omega)
      obtain ⟨r0, r1⟩ := right_aw (hR _ he) h4
      have hb : 0 ≤ (if s = 0 then (L[i]).a0 else (L[i]).a1) ∧ (if s = 0 then (L[i]).a0 else (L[i]).a1) ≤ 100 := by
        split
        · exact share_bd r0
        · exact share_bd r1
      have := aw_bd _ (notVoid L : Int) hb (by omega)
      rw [← Option.some.inj hxe]
      omega
    · rw [if_neg h4] at hxe; cases hxe
theorem dem_sm (L : List Ent) (hR : ∀ e ∈ L, e.right = true) (hn : L.length ≤ 24) (s k : Nat) (hs : s < 2) (hk : k ≤ (demD L (notVoid L : Int)).length) : smF (sumS (demD L (notVoid L : Int)) s k) ∧ sumS (demD L (notVoid L : Int)) s k = fr ((demN L (notVoid L : Int) s).take k).sum 100 := by
  have hl : (demN L (notVoid L : Int) s).length = (demD L (notVoid L : Int)).length := by
    have := congrArg List.length (dem_eq L (notVoid L : Int) s hs)
    rw [List.length_map, List.length_map] at this
    exact this.symm
  have e : sumS (demD L (notVoid L : Int)) s k = fr ((demN L (notVoid L : Int) s).take k).sum 100 := by
    unfold sumS
    rw [dem_eq L _ s hs, sumK_frD 100 (by decide) _ k (by omega)]
  refine ⟨?_, e⟩
  rw [e]
  have h1 := sum_bd 100000 (by decide) _ (demN_bd L hR hn s) k
  have h2 := demN_len L (notVoid L : Int) s
  exact sm_frD _ _ (by decide) (by omega)
theorem dem_term (L : List Ent) (hR : ∀ e ∈ L, e.right = true) (hn : L.length ≤ 24) (x : Pt × Pt) (hx : x ∈ demD L (notVoid L : Int)) (s : Nat) : smF (sdP s x) := by
  have key : ∀ s, s < 2 → smF (sdP s x) := fun s hs => by
    have hm : sdP s x ∈ (demD L (notVoid L : Int)).map (sdP s) := List.mem_map.2 ⟨x, hx, rfl⟩
    rw [dem_eq L _ s hs] at hm
    obtain ⟨y, hy, e⟩ := List.mem_map.1 hm
    rw [← e]
    have := demN_bd L hR hn s y hy
    exact sm_frD _ _ (by decide) (by omega)
  by_cases h0 : s = 0
  · subst h0; exact key 0 (by decide)
  · have e : sdP s x = sdP 1 x := by unfold sdP; rw [if_neg h0]; rfl
    rw [e]; exact key 1 (by decide)
/-- What is demanded, for a side. -/
def demF (L : List Ent) (s : Nat) : Pt := fr (demN L (notVoid L : Int) s).sum 100

/-! ### The walk of foul.Demand. -/
set_option maxRecDepth 100000 in
set_option maxHeartbeats 1000000 in
theorem fdemand_bad (L : List Ent) (A : Option Addr) (c : Nat) (w : World) (hO : ∀ e ∈ L, e.Ok) (hA : Rd w w.heap.size 33 A L.length (enL L)) (hLn : L.length ≤ 1000000) (hL : LaidS w) (h0 : chkE L ≠ 0) :
    Calls Tryz.prog 10 #[.slice A L.length c] w fun e w' => e = .returned (.tuple #[fV (0, 0), fV (0, 0), .int .i64 (chkE L)]) ∧ Below w.heap.size w w' := by
  have HC := Lib.hid (fun W h1 h2 => fall_bad L A c W hO h1 hLn h2 h0)
  generalize chkE L = N at *
  have t0 : (N == 0) = false := beq_eq_false_iff_ne.2 h0
  have t1 : (N != 0) = true := by rw [bne, t0]; rfl
  have HA := Lib.hid hA
  have HL := Lib.hid hL
  clear hO hA hL
  go_enter Tryz.func10, Tryz.ntmps10
  go_wp2_with fail
  obtain ⟨W1, hW1⟩ : ∃ V, (w.alloc (.cells #[.int .i64 0, .int .i64 0] 36)).alloc (.cells #[.int .i64 0, .int .i64 0] 36) = V := ⟨_, rfl⟩
  obtain ⟨g, hg⟩ : ∃ g, w.heap.size = g := ⟨_, rfl⟩
  have hB1 : Below w.heap.size w W1 := by rw [← hW1]; exact (by repeat (first | exact Below.refl _ _ | assumption | refine Below.drew ?_ | refine below_drewN ?_ _ | refine Below.alloc ?_ (by first | omega | (simp; done) | (simp; omega)) _ | refine Below.setCell ?_ (by first | omega | (simp; done) | (simp; omega)) _))
  have k0 : W1.heap[g]? = some (.cells #[.int .i64 0, .int .i64 0] 36) := by rw [← hW1]; exact blk_alloc (blk_new _ hg.symm) _
  have k1 : W1.heap[g + 1]? = some (.cells #[.int .i64 0, .int .i64 0] 36) := by rw [← hW1]; exact blk_new _ (by simp [hg])
  rw [hW1, hg]
  clear hW1
  have hge : w.heap.size ≤ g := Nat.le_of_eq hg
  have HG := Lib.hid hg
  clear hg
  refine (HC.out _ ((HA.out.below hB1).more hB1.size) (HL.out.go hB1)).mono ?_
  rintro ee w2 ⟨rfl, hb⟩
  have hB2 := below_via hB1 hb
  have j0 := blk_below k0 hb (blk_lt k0)
  have j1 := blk_below k1 hb (blk_lt k1)
  clear k0 k1 hb hB1 HC
  go_upto_region 2 with fail
  obtain ⟨W3, hW3⟩ : ∃ V, w2.alloc (.cells #[.int .i64 0, .int .i64 0, .int .i64 0, .int .i64 0] 32) = V := ⟨_, rfl⟩
  have hB3 : Below w.heap.size w W3 := by rw [← hW3]; exact hB2.alloc hB2.size _
  have m0 : W3.heap[g]? = some (.cells #[.int .i64 0, .int .i64 0] 36) := by rw [← hW3]; exact blk_alloc j0 _
  have m1 : W3.heap[g + 1]? = some (.cells #[.int .i64 0, .int .i64 0] 36) := by rw [← hW3]; exact blk_alloc j1 _
  rw [hW3]
  clear hW3 hB2 j0 j1
  have c0 := blk_cell m0 0
  have c1 := blk_cell m0 1
  have c2 := blk_cell m1 0
  have c3 := blk_cell m1 1
  have f0 := blk_free m0 0
  have f1 := blk_free m0 1
  have f2 := blk_free m1 0
  have f3 := blk_free m1 1
  have HB3 := Lib.hid hB3
  clear m0 m1 hB3
  go_wp2
  refine bodyPost_ret (v := .tuple #[fV (0, 0), fV (0, 0), .int .i64 N]) ?_ rfl ⟨rfl, ?_⟩
  · simp [results, Tryz.results10, go_sem, c0, c1, c2, c3, fV]
  · exact (((HB3.out.setCell (p := ⟨g, 0, none⟩) hge _).setCell (p := ⟨g, 1, none⟩) hge _).setCell (p := ⟨g + 1, 0, none⟩) (Nat.le_succ_of_le hge) _).setCell (p := ⟨g + 1, 1, none⟩) (Nat.le_succ_of_le hge) _

set_option maxRecDepth 100000 in
set_option maxHeartbeats 2000000 in
theorem fdemand_ok (L : List Ent) (A : Option Addr) (c : Nat) (w : World) (hO : ∀ e ∈ L, e.Ok) (hA : Rd w w.heap.size 33 A L.length (enL L)) (hLn : L.length ≤ 24) (hL : LaidS w) (hR : ∀ e ∈ L, e.right = true) :
    Calls Tryz.prog 10 #[.slice A L.length c] w fun e w' => e = .returned (.tuple #[fV (demF L 0), fV (demF L 1), .int .i64 0]) ∧ Below w.heap.size w w' := by
  have hchk : chkE L = 0 := by unfold chkE; rw [if_pos (List.all_eq_true.2 hR), if_neg (by omega)]
  have HC := Lib.hid (fun W h1 h2 => fall_ok L A c W hO h1 (by omega) h2 hchk)
  unfold cntC at HC
  have HO := Lib.hid hO
  have HA := Lib.hid hA
  have HL := Lib.hid hL
  have HR := Lib.hid hR
  clear hO hA hL hR hchk
  go_enter Tryz.func10, Tryz.ntmps10
  go_wp2_with fail
  obtain ⟨W1, hW1⟩ : ∃ V, (w.alloc (.cells #[.int .i64 0, .int .i64 0] 36)).alloc (.cells #[.int .i64 0, .int .i64 0] 36) = V := ⟨_, rfl⟩
  obtain ⟨g, hg⟩ : ∃ g, w.heap.size = g := ⟨_, rfl⟩
  have hB1 : Below w.heap.size w W1 := by rw [← hW1]; exact (by repeat (first | exact Below.refl _ _ | assumption | refine Below.drew ?_ | refine below_drewN ?_ _ | refine Below.alloc ?_ (by first | omega | (simp; done) | (simp; omega)) _ | refine Below.setCell ?_ (by first | omega | (simp; done) | (simp; omega)) _))
  have k0 : W1.heap[g]? = some (.cells #[.int .i64 0, .int .i64 0] 36) := by rw [← hW1]; exact blk_alloc (blk_new _ hg.symm) _
  have k1 : W1.heap[g + 1]? = some (.cells #[.int .i64 0, .int .i64 0] 36) := by rw [← hW1]; exact blk_new _ (by simp [hg])
  rw [hW1, hg]
  clear hW1
  have hge : w.heap.size ≤ g := Nat.le_of_eq hg
  have HG := Lib.hid hg
  clear hg
  refine (HC.out _ ((HA.out.below hB1).more hB1.size) (HL.out.go hB1)).mono ?_
  rintro ee w2 ⟨rfl, hb⟩
  have hB2 := below_via hB1 hb
  have j0 := blk_below k0 hb (blk_lt k0)
  have j1 := blk_below k1 hb (blk_lt k1)
  clear k0 k1 hb hB1 HC
  go_upto_region 2 with fail
  obtain ⟨nv, hnv⟩ : ∃ nv, notVoid L = nv := ⟨_, rfl⟩
  obtain ⟨W3, hW3⟩ : ∃ V, w2.alloc (.cells #[.int .i64 (inField L 0 : Int), .int .i64 (inField L 1 : Int), .int .i64 (inField L 2 : Int), .int .i64 (inField L 3 : Int)] 32) = V := ⟨_, rfl⟩
  obtain ⟨q, hq⟩ : ∃ q, w2.heap.size = q := ⟨_, rfl⟩
  have hB3 : Below w.heap.size w W3 := by rw [← hW3]; exact hB2.alloc hB2.size _
  have m0 : W3.heap[g]? = some (.cells #[.int .i64 0, .int .i64 0] 36) := by rw [← hW3]; exact blk_alloc j0 _
  have m1 : W3.heap[g + 1]? = some (.cells #[.int .i64 0, .int .i64 0] 36) := by rw [← hW3]; exact blk_alloc j1 _
  have m2 : W3.heap[q]? = some (.cells #[.int .i64 (inField L 0 : Int), .int .i64 (inField L 1 : Int), .int .i64 (inField L 2 : Int), .int .i64 (inField L 3 : Int)] 32) := by rw [← hW3]; exact blk_new _ hq.symm
  rw [hW3, hq, hnv]
  clear hW3 hB2 j0 j1 hq
  have HB3 := Lib.hid hB3
  have M0 := Lib.hid m0
  have M1 := Lib.hid m1
  have Hnv := Lib.hid hnv
  have x0 := blk_cell m2 0
  have x1 := blk_cell m2 1
  have x2 := blk_cell m2 2
  have x3 := blk_cell m2 3
  have hnvl : nv ≤ 24 := by rw [← hnv]; exact Nat.le_trans (List.length_filter_le _ _) hLn
  have hgl1 := blk_lt m1
  clear m0 m1 m2 hB3 hnv
  obtain ⟨i0, hi, hz0, hz1, hz2⟩ := info_parts info_pair
  obtain ⟨b, hb⟩ : ∃ b, W3.heap.size = b := ⟨_, rfl⟩
  have hbw : w.heap.size ≤ b := by rw [← hb]; exact HB3.out.size
  have hgb : g + 1 < b := by omega
  go_wp2
  go_loopw [8, 30] (fun v i wr => ∃ (j : Nat), j ≤ 4 ∧ i = .int .i64 (j : Int) ∧ wr.ownsRow b 56 4 v j (qC (fldD L (nv : Int) j)) ∧ Below b W3 wr) (fun _ i _ => 4 - (intOf i).toNat)
  case atStart => exact ⟨0, by omega, rfl, own_nil, Below.refl _ _⟩
  case round =>
    obtain ⟨j, hj, rfl, hown, hbel⟩ := hrel
    have Hown := Lib.hid hown
    have Hbel := Lib.hid hbel
    have hrs : b ≤ wr.heap.size := by have := hbel.size; omega
    clear hown hbel x0 x1 x2 x3
    by_cases hlt : j < 4
    · obtain ⟨nf, hnf⟩ : ∃ nf, inField L (j : Int) = nf := ⟨_, rfl⟩
      have hnfb : nf ≤ 24 := by rw [← hnf]; exact Nat.le_trans (inField_le L _) (by rw [Hnv.out]; exact hnvl)
      have hix : ∀ W, (Instr.index 32 (.agg #[.int .i64 (inField L 0 : Int), .int .i64 (inField L 1 : Int), .int .i64 (inField L 2 : Int), .int .i64 (inField L 3 : Int)]) (.int .i64 (j : Int))).run Tryz.prog W = .ok (.int .i64 (nf : Int)) W := fun W =>
        run_index_one _ _ 4 _ _ j _ Tryz.underlying32 (by kernel_rfl) (fun w => by kernel_rfl) (by rw [← hnf]; rcases (show j = 0 ∨ j = 1 ∨ j = 2 ∨ j = 3 by omega) with rfl | rfl | rfl | rfl <;> rfl) hlt
      have c1 : (j : Int) < 4 := by omega
      obtain ⟨M, hM⟩ : ∃ M, maxA (nv : Int) = M := ⟨_, rfl⟩
      have hM2 : max 0 ((nv : Int) - 1) = M := by rw [← hM]; unfold maxA; split <;> omega
      have hMb : 0 ≤ M ∧ M ≤ 23 := by omega
      obtain ⟨T, hT⟩ : ∃ T, (nf : Int) * M = T := ⟨_, rfl⟩
      have hTb : 0 ≤ T ∧ T ≤ 552 := by
        rw [← hT]
        exact ⟨Int.mul_nonneg (by omega) hMb.1, Int.le_trans (Int.mul_le_mul (show (nf : Int) ≤ 24 by omega) hMb.2 hMb.1 (by decide)) (by decide)⟩
      have HSu := Lib.hid (show fldD L (nv : Int) (j + 1) = fldD L (nv : Int) j ++ [((T, 1), (T, 1))] by rw [fldD_succ]; unfold fldP; rw [hnf, hM, hT])
      have hWr : IntKind.i64.wrap ((nf : Int) * M) = T := by rw [hT]; exact IntWalk.i64_in _ (by omega)
      obtain ⟨Av, cv, rfl⟩ := own_form Hown.out
      clear hM hT hnf
      go_upto_region 9 with fail
      obtain ⟨Wa, hWa⟩ : ∃ V, wr.alloc (.cells #[.int .i64 T, .int .i64 1] 36) = V := ⟨_, rfl⟩
      obtain ⟨G, hG⟩ : ∃ G, wr.heap.size = G := ⟨_, rfl⟩
      have ka : Wa.heap[G]? = some (.cells #[.int .i64 T, .int .i64 1] 36) := by rw [← hWa]; exact blk_new _ hG.symm
      have hba : Below wr.heap.size wr Wa := by rw [← hWa]; exact (by repeat (first | exact Below.refl _ _ | assumption | refine Below.drew ?_ | refine below_drewN ?_ _ | refine Below.alloc ?_ (by first | omega | (simp; done) | (simp; omega)) _ | refine Below.setCell ?_ (by first | omega | (simp; done) | (simp; omega)) _))
      have HOa := Lib.hid (own_below Hown.out hba (Nat.le_refl _))
      have HBa := Lib.hid (Hbel.out.trans (hba.mono hrs))
      have hsa : b ≤ Wa.heap.size := by have := hba.size; omega
      have a0 := blk_cell ka 0
      have a1 := blk_cell ka 1
      rw [hWa, hG]
      clear hWa hG ka hba hix hM2 hWr hMb
      go_wp2_with (at_builtin; refine wpList_append_lies _ (by rfl) (.tmp 39) (.tmp 43) 55 (by rfl) b 56 i0 (.agg #[.int .i64 0, .int .i64 0, .int .i64 0, .int .i64 0]) 4 32 Tryz.underlying55 hi hz0 hz1 hz2 rfl (by decide) (.slice Av j cv) j (qC (fldD L (nv : Int) j)) (by rfl) ?b1 ⟨Wa.heap.size, 0, none⟩ 1 1 [.int .i64 T, .int .i64 1, .int .i64 T, .int .i64 1] (by rfl) (by rfl) ?b2 ?b3 (by decide) ?b4 ?b5 ?b6 (Wa.heap.size + 1) ?b7 ?_)
      case b1 => exact HOa.out.alloc _
      case b2 => exact World.news_of_block (blk_new _ rfl)
      case b3 => simp [Value.oneCell']
      case b4 => unfold maxLen; omega
      case b5 => omega
      case b6 => simp; omega
      case b7 => simp
      intro g4 cap4 w4 hown4 hgr4 hat4 hlt4
      have hb4 := below_grown23 (HOa.out.alloc _) hgr4 (by simp; omega)
      have HB4 := Lib.hid ((HBa.out.alloc hsa _).trans hb4)
      have HO4 := Lib.hid (show w4.ownsRow b 56 4 (.slice (some ⟨g4, 0, none⟩) (j + 1) cap4) (j + 1) (qC (fldD L (nv : Int) (j + 1))) by rw [HSu.out, qC_app]; exact hown4)
      clear hown4 hgr4 hat4 hlt4 hb4 a0 a1
      go_wp2
      go_roundw
      case rel => exact ⟨j + 1, hlt, by go_num, HO4.out, HB4.out⟩
      case measure => simp [intOf]; omega
    · obtain rfl : j = 4 := by omega
      go_wp2
      have hown0 : wr.ownsRow b 56 4 u8 (demTo L (nv : Int) 0).length (qC (demTo L (nv : Int) 0)) := by rw [demTo_zero, fldD_len]; exact Hown.out
      have hbel0 := Hbel.out
      clear Hown Hbel
      go_loopw [8, 48] (fun v i wx => ∃ (k : Nat), k ≤ L.length ∧ i = .int .i64 (k : Int) ∧ wx.ownsRow b 56 4 v (demTo L (nv : Int) k).length (qC (demTo L (nv : Int) k)) ∧ Below b W3 wx) (fun _ i _ => L.length - (intOf i).toNat)
      case atStart => exact ⟨0, Nat.zero_le _, rfl, hown0, hbel0⟩
      case round =>
        obtain ⟨k, hk, rfl, hown, hbel⟩ := hrel
        rename World => wx
        have Hown := Lib.hid hown
        have Hbel := Lib.hid hbel
        have hxs : b ≤ wx.heap.size := by have := hbel.size; omega
        obtain ⟨Av, cv, rfl⟩ := own_form hown
        have hDl := demTo_len L (nv : Int) k
        clear hown hbel hown0 hbel0
        by_cases hlt : k < L.length
        · obtain ⟨eb, off, rfl, hbw2, hr⟩ := rd_e (fun e he => (HO.out e he).1.1) HA.out k hlt
          have hr2 := Lib.hid (show wx.rangeAt eb (off + k * 33) (L[k]).C.toList from range_below (range_below hr HB3.out hbw2) Hbel.out (Nat.lt_of_lt_of_le hbw2 hbw))
          have hok := HO.out _ (List.getElem_mem hlt)
          have hI := Lib.hid (hok.1.size)
          have h33 := Lib.hid (hok.1.1)
          have hone := Lib.hid (hok.2.1)
          have c1 : (0 : Int) ≤ (k : Int) := by omega
          have c2 : (k : Int) < (L.length : Int) := by omega
          have hc4 := hok.1.2.1
          have HYes := Lib.hid (fun h => demTo_yes L (nv : Int) k hlt h)
          have HNo := Lib.hid (fun h => demTo_no L (nv : Int) k hlt h)
          clear hr
          go_upto_region 14 with (first | (refine wpList_load_ent rfl 51 (.tmp 50) rfl eb (off + k * 33) rfl _ _ hr2.out Tryz.underlying51 rfl hI.out ?_) | (refine plain_alloc_to rfl 51 rfl enZ enZ_zero ?_) | (refine wpList_store_new23 rfl 51 _ _ rfl (L[k]).C _ _ rfl rfl hI.out (by rw [h33.out]; rfl) hone.out ?_))
          obtain ⟨W5, hW5⟩ : ∃ V, wx.alloc (.cells (L[k]).C 51) = V := ⟨_, rfl⟩
          obtain ⟨G, hG⟩ : ∃ g, wx.heap.size = g := ⟨_, rfl⟩
          have KG := Lib.hid (show W5.heap[G]? = some (.cells (L[k]).C 51 (0, 0)) by rw [← hW5]; exact blk_new _ hG.symm)
          have HOwn5 := Lib.hid (show W5.ownsRow b 56 4 (.slice Av (demTo L (nv : Int) k).length cv) (demTo L (nv : Int) k).length (qC (demTo L (nv : Int) k)) by rw [← hW5]; exact Hown.out.alloc _)
          have hbel5 : Below b W3 W5 := by rw [← hW5]; exact Hbel.out.alloc hxs _
          have hs5 : b ≤ W5.heap.size := by rw [← hW5]; simp; omega
          have HB5 := Lib.hid hbel5
          have q4 := (blk_cell KG.out 4).trans hc4
          have HL5 := Lib.hid (HL.out.go (show Below w.heap.size w W5 from HB3.out.trans (hbel5.mono hbw)))
          rw [hW5, hG]
          clear hW5 hG hc4 hr2 Hown Hbel hbel5
          by_cases h4 : (L[k]).k = 4
          · have HSu := Lib.hid (HYes.out h4)
            have hnb : 1 ≤ (nv : Int) ∧ (nv : Int) ≤ 24 := by
              have := notVoid_one L k hlt (by omega)
              rw [Hnv.out] at this
              omega
            have HAw := Lib.hid (fun W hW => award_some (L[k]).C (L[k]).f (L[k]).a0 (L[k]).a1 (nv : Int) (L[k]).o (h4 ▸ hok.1) hok.2.2.1 hok.2.2.2.1 hnb (by have := HR.out _ (List.getElem_mem hlt); unfold Ent.right at this; rwa [h4] at this) W hW)
            rw [h4] at q4
            generalize awardF (L[k]).a0 (nv : Int) = mp at HAw HSu
            generalize awardF (L[k]).a1 (nv : Int) = mr at HAw HSu
            obtain ⟨m1, m2⟩ := mp
            obtain ⟨m3, m4⟩ := mr
            unfold fV at HAw
            dsimp only at HAw
            clear hok HYes HNo h4 hnb
            go_wp2_with (refine wpList_load_row rfl 51 (.tmp 13) rfl G rfl 51 (L[k]).C _ _ KG.out Tryz.underlying51 rfl hI.out ?_)
            refine (HAw.out _ HL5.out).mono ?_
            rintro ee w6 ⟨rfl, hb6⟩
            have HO6 := Lib.hid (own_below HOwn5.out hb6 (Nat.le_refl _))
            have HB6 := Lib.hid (HB5.out.trans (hb6.mono hs5))
            have hs6 : b ≤ w6.heap.size := Nat.le_trans hs5 hb6.size
            clear hb6 HOwn5 q4
            go_upto_region 18 with fail
            obtain ⟨P, hP⟩ : ∃ P, w6.heap.size = P := ⟨_, rfl⟩
            obtain ⟨Wa, hWa⟩ : ∃ V, (w6.alloc (.cells #[.int .i64 m1, .int .i64 m2] 36)).alloc (.cells #[.int .i64 m3, .int .i64 m4] 36) = V := ⟨_, rfl⟩
            have ka : Wa.heap[P]? = some (.cells #[.int .i64 m1, .int .i64 m2] 36) := by rw [← hWa]; exact blk_alloc (blk_new _ hP.symm) _
            have kb : Wa.heap[P + 1]? = some (.cells #[.int .i64 m3, .int .i64 m4] 36) := by rw [← hWa]; exact blk_new _ (by simp [hP])
            have hba : Below w6.heap.size w6 Wa := by rw [← hWa]; exact (by repeat (first | exact Below.refl _ _ | assumption | refine Below.drew ?_ | refine below_drewN ?_ _ | refine Below.alloc ?_ (by first | omega | (simp; done) | (simp; omega)) _ | refine Below.setCell ?_ (by first | omega | (simp; done) | (simp; omega)) _))
            have HOa := Lib.hid (own_below HO6.out hba (Nat.le_refl _))
            have HBa := Lib.hid (HB6.out.trans (hba.mono hs6))
            have hsa : b ≤ Wa.heap.size := by have := hba.size; omega
            have a0 := blk_cell ka 0
            have a1 := blk_cell ka 1
            have a2 := blk_cell kb 0
            have a3 := blk_cell kb 1
            rw [hWa, hP]
            clear hWa hP ka kb hba HO6
            go_wp2_with (at_builtin; refine wpList_append_lies _ (by rfl) (.tmp 67) (.tmp 71) 55 (by rfl) b 56 i0 (.agg #[.int .i64 0, .int .i64 0, .int .i64 0, .int .i64 0]) 4 32 Tryz.underlying55 hi hz0 hz1 hz2 rfl (by decide) (.slice Av (demTo L (nv : Int) k).length cv) (demTo L (nv : Int) k).length (qC (demTo L (nv : Int) k)) (by rfl) ?d1 ⟨Wa.heap.size, 0, none⟩ 1 1 [.int .i64 m1, .int .i64 m2, .int .i64 m3, .int .i64 m4] (by rfl) (by rfl) ?d2 ?d3 (by decide) ?d4 ?d5 ?d6 (Wa.heap.size + 1) ?d7 ?_)
            case d1 => exact HOa.out.alloc _
            case d2 => exact World.news_of_block (blk_new _ rfl)
            case d3 => simp [Value.oneCell']
            case d4 => unfold maxLen; omega
            case d5 => omega
            case d6 => simp; omega
            case d7 => simp
            intro g4 cap4 w7 hown7 hgr7 hat7 hlt7
            have hb7 := below_grown23 (HOa.out.alloc _) hgr7 (by simp; omega)
            have HB7 := Lib.hid ((HBa.out.alloc hsa _).trans hb7)
            have HO7 := Lib.hid (show w7.ownsRow b 56 4 (.slice (some ⟨g4, 0, none⟩) ((demTo L (nv : Int) k).length + 1) cap4) (demTo L (nv : Int) (k + 1)).length (qC (demTo L (nv : Int) (k + 1))) by rw [HSu.out, qC_app, List.length_append]; exact hown7)
            clear hown7 hgr7 hat7 hlt7 hb7 a0 a1 a2 a3
            go_wp2
            go_roundw
            case rel =>
              (repeat apply Exists.intro)
              refine ⟨⟨k + 1, hlt, ?_, HO7.out, HB7.out⟩, rfl⟩
              go_num
            case measure => simp [intOf]; omega
          · have t4 : ((L[k]).k == 4) = false := beq_eq_false_iff_ne.2 h4
            have HO7 := Lib.hid (show W5.ownsRow b 56 4 (.slice Av (demTo L (nv : Int) k).length cv) (demTo L (nv : Int) (k + 1)).length (qC (demTo L (nv : Int) (k + 1))) by rw [HNo.out h4]; exact HOwn5.out)
            clear h4 HYes HNo HOwn5
            go_wp2
            go_roundw
            case rel =>
              (repeat apply Exists.intro)
              refine ⟨⟨k + 1, hlt, ?_, HO7.out, HB5.out⟩, rfl⟩
              go_num
            case measure => simp [intOf]; omega
        · obtain rfl : k = L.length := by omega
          have hdd : demTo L (nv : Int) L.length = demD L (notVoid L : Int) := by rw [Hnv.out]; rfl
          have hD28 : (demD L (notVoid L : Int)).length ≤ 28 := by rw [← hdd]; omega
          have hrdl : Rd wx wx.heap.size 4 Av (demD L (notVoid L : Int)).length (qC (demD L (notVoid L : Int))) := by
            have := Rd.of_own Hown.out
            rwa [hdd] at this
          have HAdd := Lib.hid (fadd23 (demD L (notVoid L : Int)) Av cv wx hrdl (by omega) (fun f hf s => dem_term L HR.out hLn f hf s) (fun s k hs hk => (dem_sm L HR.out hLn s k hs hk).1))
          have hdl : ∀ s, s < 2 → sumS (demD L (notVoid L : Int)) s (demD L (notVoid L : Int)).length = demF L s := fun s hs => by
            rw [(dem_sm L HR.out hLn s _ hs (Nat.le_refl _)).2]
            unfold demF
            have hl : (demN L (notVoid L : Int) s).length = (demD L (notVoid L : Int)).length := by
              have := congrArg List.length (dem_eq L (notVoid L : Int) s hs)
              rw [List.length_map, List.length_map] at this
              exact this.symm
            rw [← hl, List.take_length]
          rw [hdl 0 (by decide), hdl 1 (by decide), ← hdd] at HAdd
          obtain ⟨r00, r01, h0⟩ : ∃ a b, demF L 0 = (a, b) := ⟨_, _, rfl⟩
          obtain ⟨r10, r11, h1⟩ : ∃ a b, demF L 1 = (a, b) := ⟨_, _, rfl⟩
          rw [h0, h1] at HAdd
          dsimp only at HAdd
          have HR0 := Lib.hid h0
          have HR1 := Lib.hid h1
          clear h0 h1
          have n0 := blk_below M0.out Hbel.out (by omega)
          have n1 := blk_below M1.out Hbel.out (by omega)
          have HBx := Lib.hid (HB3.out.trans (Hbel.out.mono hbw))
          have hgx := blk_lt n1
          clear hdd hrdl hdl Hown Hbel
          go_wp2_with fail
          refine HAdd.out.mono ?_
          rintro ee w6 ⟨rfl, hb6⟩
          clear HAdd
          go_upto_region 21 with fail
          obtain ⟨P, hP⟩ : ∃ P, w6.heap.size = P := ⟨_, rfl⟩
          obtain ⟨Wa, hWa⟩ : ∃ V, w6.alloc (.cells #[.int .i64 r00, .int .i64 r01, .int .i64 r10, .int .i64 r11] 56) = V := ⟨_, rfl⟩
          have ka : Wa.heap[P]? = some (.cells #[.int .i64 r00, .int .i64 r01, .int .i64 r10, .int .i64 r11] 56) := by rw [← hWa]; exact blk_new _ hP.symm
          have hba : Below wx.heap.size wx Wa := by rw [← hWa]; exact hb6.alloc hb6.size _
          have p0 := blk_below n0 hba (by omega)
          have p1 := blk_below n1 hba (by omega)
          have HBa := Lib.hid (HBx.out.trans (hba.mono HBx.out.size))
          rw [hWa, hP]
          have a0 := blk_cell ka 0
          have a1 := blk_cell ka 1
          have a2 := blk_cell ka 2
          have a3 := blk_cell ka 3
          have z0 := blk_cell p0 0
          have z1 := blk_cell p0 1
          have z2 := blk_cell p1 0
          have z3 := blk_cell p1 1
          have f0 := blk_free p0 0
          have f1 := blk_free p0 1
          have f2 := blk_free p1 0
          have f3 := blk_free p1 1
          have HRes := Lib.hid (And.intro p0 p1)
          clear hWa hP ka hba p0 p1 n0 n1 hb6
          go_region
          go_wp2
          have s0 := blk_far (blk_far (blk_set (blk_set HRes.out.1 0 (.int .i64 r00)) 1 (.int .i64 r01)) (p := ⟨g + 1, 0, none⟩) (by show g ≠ g + 1; omega) (.int .i64 r10)) (p := ⟨g + 1, 1, none⟩) (by show g ≠ g + 1; omega) (.int .i64 r11)
          have s1 := blk_set (blk_set (blk_far (blk_far HRes.out.2 (p := ⟨g, 0, none⟩) (by show g + 1 ≠ g; omega) (.int .i64 r00)) (p := ⟨g, 1, none⟩) (by show g + 1 ≠ g; omega) (.int .i64 r01)) 0 (.int .i64 r10)) 1 (.int .i64 r11)
          have c0 := blk_cell s0 0
          have c1 := blk_cell s0 1
          have c2 := blk_cell s1 0
          have c3 := blk_cell s1 1
          refine bodyPost_ret (v := .tuple #[fV (demF L 0), fV (demF L 1), .int .i64 0]) ?_ rfl ⟨rfl, ?_⟩
          · rw [HR0.out, HR1.out]
            simp [results, Tryz.results10, go_sem, c0, c1, c2, c3, fV]
          · exact ((((HBa.out.setCell (p := ⟨g, 0, none⟩) hge _).setCell (p := ⟨g, 1, none⟩) hge _).setCell (p := ⟨g + 1, 0, none⟩) (Nat.le_succ_of_le hge) _).setCell (p := ⟨g + 1, 1, none⟩) (Nat.le_succ_of_le hge) _).drew

end Go.Proofs.YtchklobblkddhaaGreatDoor
