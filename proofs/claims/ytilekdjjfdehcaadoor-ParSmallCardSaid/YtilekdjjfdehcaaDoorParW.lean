/- The walks of par.Right, Best and Final. -/
import Derived.Test.YtilekdjjfdehcaaDoorScoPtsW
import Derived.Test.YtilekdjjfdehcaaDoorParT
import Derived.Deep.DeepCutAuto
import Derived.Laws.Rows
namespace Go.Proofs.YtilekdjjfdehcaaDoor
open Go.RowKit

/-- The cells of a table. -/
def TabC (C : Array Value) (t : Nat → Nat → Int) : Prop := C.size = 20 ∧ ∀ d s : Nat, d < 5 → s < 4 → C[d * 4 + s]? = some (.int .i64 (t d s))
theorem info_tab : (Tryd.prog.info? 25).map (·.size) = some 20 := by kernel_rfl
theorem TabC.info {C : Array Value} {t : Nat → Nat → Int} (h : TabC C t) : (Tryd.prog.info? 25).map (·.size) = some C.size := by rw [info_tab, h.1]
theorem TabC.row {C : Array Value} {t : Nat → Nat → Int} (h : TabC C t) (d : Nat) (hd : d < 5) : C.extract (d * 4) (d * 4 + 4) = #[.int .i64 (t d 0), .int .i64 (t d 1), .int .i64 (t d 2), .int .i64 (t d 3)] := by
  have hs := h.1
  apply Array.ext_getElem?
  intro i
  rw [Array.getElem?_extract]
  by_cases hi : i < 4
  · rw [if_pos (by omega)]
    have := h.2 d i hd hi
    rw [this]
    match i, hi with
    | 0, _ => rfl
    | 1, _ => rfl
    | 2, _ => rfl
    | 3, _ => rfl
  · rw [if_neg (by omega), Array.getElem?_eq_none (by simp; omega)]
theorem TabC.idx {C : Array Value} {t : Nat → Nat → Int} (h : TabC C t) (d : Nat) (hd : d < 5) (W : World) : (Instr.index 25 (.agg C) (.int .i64 (d : Int))).run Tryd.prog W = .ok (.agg #[.int .i64 (t d 0), .int .i64 (t d 1), .int .i64 (t d 2), .int .i64 (t d 3)]) W := by
  rw [run_index_agg (P := Tryd.prog) (w := W) 25 23 5 4 C .i64 d Tryd.underlying25 (by kernel_rfl) (fun _ => by kernel_rfl) hd, h.row d hd]
theorem idx4 (a b c d : Int) (j : Nat) (hj : j < 4) (W : World) : (Instr.index 23 (.agg #[.int .i64 a, .int .i64 b, .int .i64 c, .int .i64 d]) (.int .i64 (j : Int))).run Tryd.prog W = .ok (.int .i64 (if j = 0 then a else if j = 1 then b else if j = 2 then c else d)) W := by
  refine run_index_one (P := Tryd.prog) (w := W) 23 3 4 _ .i64 j _ Tryd.underlying23 (by kernel_rfl) (fun _ => by kernel_rfl) ?_ hj
  match j, hj with
  | 0, _ => rfl
  | 1, _ => rfl
  | 2, _ => rfl
  | 3, _ => rfl
theorem pick4 (t : Nat → Nat → Int) (d s : Nat) (hs : s < 4) : (if s = 0 then t d 0 else if s = 1 then t d 1 else if s = 2 then t d 2 else t d 3) = t d s := by
  match s, hs with
  | 0, _ => rfl
  | 1, _ => rfl
  | 2, _ => rfl
  | 3, _ => rfl

set_option maxRecDepth 100000 in
set_option maxHeartbeats 1000000 in
theorem pright_any (C : Array Value) (t : Nat → Nat → Int) (hC : TabC C t) (w : World) :
    Calls Tryd.prog 21 #[.agg C] w fun e w' => e = .returned (.bool (rightT t)) ∧ Below w.heap.size w w' := by
  obtain ⟨N, hN⟩ : ∃ N, rightT t = N := ⟨_, rfl⟩
  rw [hN]
  have HN := Lib.hid hN
  have HC := Lib.hid hC
  have HI := Lib.hid hC.info
  clear hN hC
  go_enter Tryd.func21, Tryd.ntmps21
  go_upto_region 1 with fail
  obtain ⟨W1, hW1⟩ : ∃ W1, w.alloc (.cells C 25) = W1 := ⟨_, rfl⟩
  obtain ⟨g, hg⟩ : ∃ g, w.heap.size = g := ⟨_, rfl⟩
  have k1 : W1.heap[g]? = some (.cells C 25) := by rw [← hW1]; exact blk_new _ hg.symm
  have hB1 : Below w.heap.size w W1 := by rw [← hW1]; exact (by repeat (first | exact Below.refl _ _ | assumption | refine Below.drew ?_ | refine below_drewN ?_ _ | refine Below.alloc ?_ (by first | omega | (simp; done) | (simp; omega)) _ | refine Below.setCell ?_ (by first | omega | (simp; done) | (simp; omega)) _))
  rw [hW1, hg]
  have HK := Lib.hid k1
  have HG := Lib.hid hg
  clear hW1 k1 hg
  go_wp2_with (refine wpList_load_row rfl 25 (.tmp 1) rfl g rfl 25 C _ _ HK.out Tryd.underlying25 rfl HI.out ?_)
  go_loopw [8] (fun i wr => ∃ d : Nat, d ≤ 5 ∧ i = .int .i64 (d : Int) ∧ Hid (∀ d' s', d' < d → s' < 4 → okN (t d' s') = true) ∧ Below W1.heap.size W1 wr) (fun i _ => 5 - (intOf i).toNat)
  case atStart => exact ⟨0, by omega, rfl, (fun d' s' h1 _ => by omega : ∀ d' s', d' < 0 → s' < 4 → okN (t d' s') = true), Below.refl _ _⟩
  case round =>
    obtain ⟨d, hd, rfl, hz, hbel⟩ := hrel
    rename World => wx
    by_cases hlt : d < 5
    · have hIx := HC.out.idx d hlt
      have c0 : (d : Int) < 5 := by omega
      have hP := Lib.hid (pick4 t d)
      generalize t d 0 = x0 at hIx hP
      generalize t d 1 = x1 at hIx hP
      generalize t d 2 = x2 at hIx hP
      generalize t d 3 = x3 at hIx hP
      have hsz := hbel.size
      have hb2 := hbel.alloc hsz (.cells #[.int .i64 x0, .int .i64 x1, .int .i64 x2, .int .i64 x3] 23)
      go_wp2
      have hb3 : Below W1.heap.size W1 (wx.alloc (.cells #[.int .i64 x0, .int .i64 x1, .int .i64 x2, .int .i64 x3] 23)) := hb2
      go_loop [12] (fun i => ∃ s : Nat, s ≤ 4 ∧ i = .int .i64 (s : Int) ∧ Hid (∀ s', s' < s → okN (t d s') = true)) (fun i => 4 - (intOf i).toNat)
      case atStart => exact ⟨0, by omega, rfl, (fun s' h1 => by omega : ∀ s', s' < 0 → okN (t d s') = true)⟩
      case round =>
        obtain ⟨s, hs, rfl, hy⟩ := hrel
        by_cases hls : s < 4
        · have hIy := idx4 x0 x1 x2 x3 s hls
          rw [hP.out s hls] at hIy
          have c1 : (s : Int) < 4 := by omega
          obtain ⟨x, hx⟩ : ∃ x, t d s = x := ⟨_, rfl⟩
          rw [hx] at hIy
          have Hx := Lib.hid hx
          clear hx hIx
          by_cases hok : 0 ≤ x ∧ x ≤ 13
          · have e1 : ¬ x < 0 := by omega
            have e2 : ¬ 13 < x := by omega
            have Hn : Hid (∀ s', s' < s + 1 → okN (t d s') = true) := Lib.hid (fun s' h1 => by
              by_cases hi : s' < s
              · exact hy.out s' hi
              · obtain rfl : s' = s := by omega
                rw [Hx.out]; exact decide_eq_true hok)
            go_wp2
            go_round
            case rel => exact ⟨s + 1, by omega, by go_num, Hn.out⟩
            case measure => simp [intOf]; omega
          · obtain rfl : false = N := by
              rw [← HN.out]
              cases hq : rightT t with
              | false => rfl
              | true =>
                have := (rightT_iff t).1 hq d s hlt hls
                rw [Hx.out] at this
                exact absurd (of_decide_eq_true this) hok
            have Hb := Lib.hid (below_via hB1 hb3)
            go_wp2
            all_goals first | (exfalso; omega) | (go_ret; exact ⟨rfl, Hb.out⟩)
        · obtain rfl : s = 4 := by omega
          have Hn : Hid (∀ d' s', d' < d + 1 → s' < 4 → okN (t d' s') = true) := Lib.hid (fun d' s' h1 h2 => by
            by_cases hi : d' < d
            · exact hz.out d' s' hi h2
            · obtain rfl : d' = d := by omega
              exact hy.out s' h2)
          clear hIx
          go_wp2
          go_roundw
          case rel => exact ⟨d + 1, by omega, by go_num, Hn.out, hb3⟩
          case measure => simp [intOf]; omega
    · obtain rfl : d = 5 := by omega
      obtain rfl : true = N := by
        rw [← HN.out]; exact ((rightT_iff t).2 hz.out).symm
      go_wp2
      go_ret
      exact ⟨rfl, below_via hB1 hbel⟩

set_option maxRecDepth 100000 in
set_option maxHeartbeats 1000000 in
theorem pbest_bad (C : Array Value) (t : Nat → Nat → Int) (hC : TabC C t) (d s : Nat) (hd : d ≤ 255) (hs : s ≤ 255) (h : rightT t = false ∨ 4 < d ∨ 1 < s) (w : World) :
    Calls Tryd.prog 20 #[.agg C, .int .u8 (d : Int), .int .u8 (s : Int)] w fun e w' => e = .returned (.tuple #[.int .i64 0, .int .u8 0, .int .i64 2]) ∧ Below w.heap.size w w' := by
  have HR := Lib.hid (fun W => pright_any C t hC W)
  obtain ⟨N, hN⟩ : ∃ N, rightT t = N := ⟨_, rfl⟩
  rw [hN] at HR h
  have HI := Lib.hid hC.info
  have HH := Lib.hid h
  clear hN hC h
  go_enter Tryd.func20, Tryd.ntmps20
  go_upto_region 1 with fail
  obtain ⟨W1, hW1⟩ : ∃ W1, w.alloc (.cells C 25) = W1 := ⟨_, rfl⟩
  obtain ⟨g, hg⟩ : ∃ g, w.heap.size = g := ⟨_, rfl⟩
  have k1 : W1.heap[g]? = some (.cells C 25) := by rw [← hW1]; exact blk_new _ hg.symm
  have hB1 : Below w.heap.size w W1 := by rw [← hW1]; exact (by repeat (first | exact Below.refl _ _ | assumption | refine Below.drew ?_ | refine below_drewN ?_ _ | refine Below.alloc ?_ (by first | omega | (simp; done) | (simp; omega)) _ | refine Below.setCell ?_ (by first | omega | (simp; done) | (simp; omega)) _))
  rw [hW1, hg]
  have HK := Lib.hid k1
  have HG := Lib.hid hg
  clear hW1 k1 hg
  go_wp2_with (refine wpList_load_row rfl 25 (.tmp 3) rfl g rfl 25 C _ _ HK.out Tryd.underlying25 rfl HI.out ?_)
  refine (HR.out _).mono ?_
  rintro ee w2 ⟨rfl, hb2⟩
  have hB2 := below_via hB1 hb2
  clear hB1 hb2
  cases N
  · go_wp2
    go_ret3
    exact ⟨rfl, hB2⟩
  · by_cases h4 : 4 < d
    · have h5 : (4 : Int) < (d : Int) := by omega
      go_wp2
      go_ret3
      exact ⟨rfl, hB2⟩
    · have h5 : ¬ (4 : Int) < (d : Int) := by omega
      have h6 : (1 : Int) < (s : Int) := by rcases HH.out with h | h | h; cases h; exact absurd h h4; omega
      go_wp2
      go_ret3
      exact ⟨rfl, hB2⟩

set_option maxRecDepth 100000 in
set_option maxHeartbeats 1000000 in
theorem pbest_ok (C : Array Value) (t : Nat → Nat → Int) (hC : TabC C t) (d s : Nat) (hd : d < 5) (hs : s ≤ 1) (h : rightT t = true) (w : World) :
    Calls Tryd.prog 20 #[.agg C, .int .u8 (d : Int), .int .u8 (s : Int)] w fun e w' => e = .returned (.tuple #[.int .i64 (bstN t d s), .int .u8 (bstS t d s : Nat), .int .i64 0]) ∧ Below w.heap.size w w' := by
  have HR := Lib.hid (fun W => pright_any C t hC W)
  rw [h] at HR
  have HI := Lib.hid hC.info
  have HC := Lib.hid hC
  have HN := Lib.hid (show bstN t d s = if t d s < t d (s + 2) then t d (s + 2) else t d s from rfl)
  have HS := Lib.hid (show bstS t d s = if t d s < t d (s + 2) then s + 2 else s from rfl)
  clear h hC
  go_enter Tryd.func20, Tryd.ntmps20
  go_upto_region 1 with fail
  obtain ⟨W1, hW1⟩ : ∃ W1, w.alloc (.cells C 25) = W1 := ⟨_, rfl⟩
  obtain ⟨g, hg⟩ : ∃ g, w.heap.size = g := ⟨_, rfl⟩
  have k1 : W1.heap[g]? = some (.cells C 25) := by rw [← hW1]; exact blk_new _ hg.symm
  have hB1 : Below w.heap.size w W1 := by rw [← hW1]; exact (by repeat (first | exact Below.refl _ _ | assumption | refine Below.drew ?_ | refine below_drewN ?_ _ | refine Below.alloc ?_ (by first | omega | (simp; done) | (simp; omega)) _ | refine Below.setCell ?_ (by first | omega | (simp; done) | (simp; omega)) _))
  rw [hW1, hg]
  have HK := Lib.hid k1
  have HG := Lib.hid hg
  clear hW1 k1 hg
  go_wp2_with (refine wpList_load_row rfl 25 (.tmp 3) rfl g rfl 25 C _ _ HK.out Tryd.underlying25 rfl HI.out ?_)
  refine (HR.out _).mono ?_
  rintro ee w2 ⟨rfl, hb2⟩
  have hB2 := below_via hB1 hb2
  have K2 := blk_below HK.out hb2 (blk_lt HK.out)
  have e0 := (blk_cell K2 (d * 4 + s)).trans (HC.out.2 d s hd (by omega))
  have e1 := (blk_cell K2 (d * 4 + (s + 2))).trans (HC.out.2 d (s + 2) hd (by omega))
  have h5 : ¬ (4 : Int) < (d : Int) := by omega
  have h6 : ¬ (1 : Int) < (s : Int) := by omega
  have h7 : (d : Int) < 5 := by omega
  have h8 : (s : Int) < 4 := by omega
  have h9 : (s : Int) + 2 < 4 := by omega
  generalize t d s = x at e0 HN HS
  generalize t d (s + 2) = y at e1 HN HS
  clear K2 hB1 hb2
  go_upto_region 3 with fail
  go_quiet (fail)
  by_cases hxy : x < y
  · go_wp2
    go_ret3
    refine ⟨?_, below_drewN hB2 _⟩
    rw [HN.out, HS.out, if_pos hxy, if_pos hxy]; rfl
  · go_wp2
    go_ret3
    refine ⟨?_, below_drewN hB2 _⟩
    rw [HN.out, HS.out, if_neg (by omega), if_neg (by omega)]; rfl

theorem six_set {w w2 : World} {B g : Nat} (h : Below B w w2) (hg : B ≤ g) {a0 a1 a2 a3 a4 a5 : Value} :
    Below B w ((((((w2.setCell ⟨g, 0, none⟩ a0).setCell ⟨g, 1, none⟩ a1).setCell ⟨g, 2, none⟩ a2).setCell ⟨g, 3, none⟩ a3).setCell ⟨g, 4, none⟩ a4).setCell ⟨g, 5, none⟩ a5) :=
  (((((h.setCell (p := ⟨g, 0, none⟩) hg _).setCell (p := ⟨g, 1, none⟩) hg _).setCell (p := ⟨g, 2, none⟩) hg _).setCell (p := ⟨g, 3, none⟩) hg _).setCell (p := ⟨g, 4, none⟩) hg _).setCell (p := ⟨g, 5, none⟩) hg _
/-- What Final returns where it returns an error. -/
def finBad : Value := .tuple #[.agg #[.int .u8 0, .int .u8 0, .int .u8 0, .int .u8 0, .int .i64 0, .int .i64 0], .int .i64 0, .int .i64 2]
/-- An outcome that was played out, as a value. -/
def ocV (l d r s n : Int) : Value := .agg #[.int .u8 l, .int .u8 d, .int .u8 r, .int .u8 s, .int .i64 n, .int .i64 0]

set_option maxRecDepth 100000 in
set_option maxHeartbeats 1000000 in
theorem pfinal_arg (C : Array Value) (v b s : Nat) (hv : v ≤ 255) (hb : b ≤ 255) (h : 3 < v ∨ b < 3 ∨ 37 < b) (w : World) :
    Calls Tryd.prog 16 #[.agg C, .int .u8 (v : Int), .int .u8 (b : Int), .int .u8 (s : Int)] w fun e w' => e = .returned finBad ∧ Below w.heap.size w w' := by
  have HH := Lib.hid h
  clear h
  go_enter Tryd.func16, Tryd.ntmps16
  by_cases h3 : 3 < v
  · have h5 : (3 : Int) < (v : Int) := by omega
    go_wp2
    exact bodyPost_ret (v := finBad) (by simp [results, Tryd.results16, go_sem, finBad]) rfl ⟨rfl, (by repeat (first | exact Below.refl _ _ | assumption | refine Below.drew ?_ | refine below_drewN ?_ _ | refine Below.alloc ?_ (by first | omega | (simp; done) | (simp; omega)) _ | refine Below.setCell ?_ (by first | omega | (simp; done) | (simp; omega)) _))⟩
  · have h5 : ¬ (3 : Int) < (v : Int) := by omega
    by_cases h4 : b < 3
    · have h6 : (b : Int) < 3 := by omega
      go_wp2
      exact bodyPost_ret (v := finBad) (by simp [results, Tryd.results16, go_sem, finBad]) rfl ⟨rfl, (by repeat (first | exact Below.refl _ _ | assumption | refine Below.drew ?_ | refine below_drewN ?_ _ | refine Below.alloc ?_ (by first | omega | (simp; done) | (simp; omega)) _ | refine Below.setCell ?_ (by first | omega | (simp; done) | (simp; omega)) _))⟩
    · have h6 : ¬ (b : Int) < 3 := by omega
      have h7 : (37 : Int) < (b : Int) := by rcases HH.out with h | h | h <;> omega
      go_wp2
      exact bodyPost_ret (v := finBad) (by simp [results, Tryd.results16, go_sem, finBad]) rfl ⟨rfl, (by repeat (first | exact Below.refl _ _ | assumption | refine Below.drew ?_ | refine below_drewN ?_ _ | refine Below.alloc ?_ (by first | omega | (simp; done) | (simp; omega)) _ | refine Below.setCell ?_ (by first | omega | (simp; done) | (simp; omega)) _))⟩

set_option maxRecDepth 100000 in
set_option maxHeartbeats 1000000 in
theorem pfinal_bad (C : Array Value) (t : Nat → Nat → Int) (hC : TabC C t) (v b s : Nat) (hv : v ≤ 3) (h3 : 3 ≤ b) (h37 : b ≤ 37) (hs : s ≤ 255) (h : rightT t = false ∨ 1 < s) (w : World) :
    Calls Tryd.prog 16 #[.agg C, .int .u8 (v : Int), .int .u8 (b : Int), .int .u8 (s : Int)] w fun e w' => e = .returned finBad ∧ Below w.heap.size w w' := by
  have HQ := Lib.hid (fun W => pbest_bad C t hC (dnm b) s (by have := dnm_bd b; omega) hs (by rcases h with h | h; exact .inl h; exact .inr (.inr h)) W)
  have HI := Lib.hid hC.info
  have hl : ((b : Int) - 3) / 5 + 1 = lvl b := by unfold lvl; omega
  have hd : ((b : Int) - 3) % 5 = (dnm b : Int) := by unfold dnm; omega
  have hdb := dnm_bd b
  have hlb := lvl_bd b h3 h37
  generalize lvl b = L at hl hlb
  generalize dnm b = D at HQ hd hdb
  have c1 : ¬ (3 : Int) < (v : Int) := by omega
  have c2 : ¬ (b : Int) < 3 := by omega
  have c3 : ¬ (37 : Int) < (b : Int) := by omega
  clear h hC
  go_enter Tryd.func16, Tryd.ntmps16
  go_upto_region 4 with fail
  obtain ⟨W1, hW1⟩ : ∃ W1, ((w.alloc (.cells C 25)).alloc (.cells #[.int .u8 0, .int .u8 0, .int .u8 0, .int .u8 0, .int .i64 0, .int .i64 0] 30)).alloc (.cells #[.int .u8 L, .int .u8 (D : Int), .int .u8 0, .int .u8 0] 28) = W1 := ⟨_, rfl⟩
  obtain ⟨g, hg⟩ : ∃ g, w.heap.size = g := ⟨_, rfl⟩
  have k1 : W1.heap[g]? = some (.cells C 25) := by rw [← hW1]; exact blk_alloc (blk_alloc (blk_new _ hg.symm) _) _
  have hB1 : Below w.heap.size w W1 := by rw [← hW1]; exact (by repeat (first | exact Below.refl _ _ | assumption | refine Below.drew ?_ | refine below_drewN ?_ _ | refine Below.alloc ?_ (by first | omega | (simp; done) | (simp; omega)) _ | refine Below.setCell ?_ (by first | omega | (simp; done) | (simp; omega)) _))
  have k3 : W1.heap[g + 1 + 1]? = some (.cells #[.int .u8 L, .int .u8 (D : Int), .int .u8 0, .int .u8 0] 28) := by rw [← hW1]; exact blk_new _ (by simp [hg])
  have k2 : W1.heap[g + 1]? = some (.cells #[.int .u8 0, .int .u8 0, .int .u8 0, .int .u8 0, .int .i64 0, .int .i64 0] 30) := by rw [← hW1]; exact blk_alloc (blk_new _ (by simp [hg])) _
  rw [hW1, hg]
  have HK := Lib.hid k1
  have HK2 := Lib.hid k2
  have HG := Lib.hid hg
  have g1 := blk_lt k3
  have q1 := blk_cell k3 1
  clear hW1 k1 k3 k2 hg
  go_wp2_with (refine wpList_load_row rfl 25 (.tmp 4) rfl g rfl 25 C _ _ HK.out Tryd.underlying25 rfl HI.out ?_)
  refine (HQ.out _).mono ?_
  rintro ee w2 ⟨rfl, hb2⟩
  have hB2 := below_via hB1 hb2
  have hgw : w.heap.size ≤ g + 1 := by rw [HG.out]; omega
  have K2 := blk_below HK2.out hb2 (by omega)
  have r0 := blk_cell K2 0
  have r1 := blk_cell K2 1
  have r2 := blk_cell K2 2
  have r3 := blk_cell K2 3
  have r4 := blk_cell K2 4
  have r5 := blk_cell K2 5
  have f0 := blk_free K2 0
  have f1 := blk_free K2 1
  have f2 := blk_free K2 2
  have f3 := blk_free K2 3
  have f4 := blk_free K2 4
  have f5 := blk_free K2 5
  clear K2 hb2 hB1
  go_wp2
  refine bodyPost_ret (v := finBad) ?_ rfl ⟨rfl, six_set hB2 hgw⟩
  simp [results, Tryd.results16, go_sem, finBad, r0, r1, r2, r3, r4, r5]

set_option maxRecDepth 100000 in
set_option maxHeartbeats 1000000 in
theorem pfinal_ok (C : Array Value) (t : Nat → Nat → Int) (hC : TabC C t) (v b s : Nat) (hv : v ≤ 3) (h3 : 3 ≤ b) (h37 : b ≤ 37) (hs : s ≤ 1) (h : rightT t = true) (w : World) (hLa : LaidS w) :
    Calls Tryd.prog 16 #[.agg C, .int .u8 (v : Int), .int .u8 (b : Int), .int .u8 (s : Int)] w fun e w' => e = .returned (.tuple #[ocV (lvl b) (dnm b) (rsk t b s) (bstS t (dnm b) s) (bstN t (dnm b) s), .int .i64 (finF t v b s), .int .i64 0]) ∧ Below w.heap.size w w' := by
  have hdb := dnm_bd b
  have hlb := lvl_bd b h3 h37
  have HQ := Lib.hid (fun W => pbest_ok C t hC (dnm b) s hdb hs h W)
  have HI := Lib.hid hC.info
  have hl : ((b : Int) - 3) / 5 + 1 = lvl b := by unfold lvl; omega
  have hd : ((b : Int) - 3) % 5 = (dnm b : Int) := by unfold dnm; omega
  have hnb := bstN_bd h hdb hs
  have hsb := bstS_bd t (dnm b) s hs
  have HRk := Lib.hid (show rsk t b s = if bstN t (dnm b) s < 6 + lvl b then 1 else 0 from rfl)
  have hrb : 0 ≤ rsk t b s ∧ rsk t b s ≤ 255 := by unfold rsk; split <;> omega
  have HNe := Lib.hid (fun W => sneed_any (lvl b) (dnm b) 0 (bstS t (dnm b) s) (by omega) (by omega) (by omega) (by omega) W)
  rw [need_ok t b s h3 h37 hs] at HNe
  have HSc := Lib.hid (fun W hW => sscore_ok (lvl b) (dnm b) (rsk t b s) (bstS t (dnm b) s) (bstN t (dnm b) s) v (by omega) (by omega) hrb (by omega) (by omega) (res_ok t h b s h3 h37 hs) W hW)
  have hfi : scoreI (lvl b) (dnm b) (rsk t b s) (bstS t (dnm b) s) (bstN t (dnm b) s) v = finF t v b s := rfl
  rw [hfi] at HSc
  have HL := Lib.hid hLa
  generalize finF t v b s = P at HSc ⊢
  generalize rsk t b s = R at HRk HSc ⊢
  generalize bstN t (dnm b) s = N at *
  generalize bstS t (dnm b) s = S at *
  generalize lvl b = L at *
  generalize dnm b = D at *
  have c1 : ¬ (3 : Int) < (v : Int) := by omega
  have c2 : ¬ (b : Int) < 3 := by omega
  have c3 : ¬ (37 : Int) < (b : Int) := by omega
  clear h hC hfi hLa hrb
  go_enter Tryd.func16, Tryd.ntmps16
  go_upto_region 4 with fail
  obtain ⟨W1, hW1⟩ : ∃ W1, ((w.alloc (.cells C 25)).alloc (.cells #[.int .u8 0, .int .u8 0, .int .u8 0, .int .u8 0, .int .i64 0, .int .i64 0] 30)).alloc (.cells #[.int .u8 L, .int .u8 (D : Int), .int .u8 0, .int .u8 0] 28) = W1 := ⟨_, rfl⟩
  obtain ⟨g, hg⟩ : ∃ g, w.heap.size = g := ⟨_, rfl⟩
  have k1 : W1.heap[g]? = some (.cells C 25) := by rw [← hW1]; exact blk_alloc (blk_alloc (blk_new _ hg.symm) _) _
  have hB1 : Below w.heap.size w W1 := by rw [← hW1]; exact (by repeat (first | exact Below.refl _ _ | assumption | refine Below.drew ?_ | refine below_drewN ?_ _ | refine Below.alloc ?_ (by first | omega | (simp; done) | (simp; omega)) _ | refine Below.setCell ?_ (by first | omega | (simp; done) | (simp; omega)) _))
  have k3 : W1.heap[g + 1 + 1]? = some (.cells #[.int .u8 L, .int .u8 (D : Int), .int .u8 0, .int .u8 0] 28) := by rw [← hW1]; exact blk_new _ (by simp [hg])
  have k2 : W1.heap[g + 1]? = some (.cells #[.int .u8 0, .int .u8 0, .int .u8 0, .int .u8 0, .int .i64 0, .int .i64 0] 30) := by rw [← hW1]; exact blk_alloc (blk_new _ (by simp [hg])) _
  rw [hW1, hg]
  have HK := Lib.hid k1
  have HK2 := Lib.hid k2
  have HK3 := Lib.hid k3
  have HG := Lib.hid hg
  have g1 := blk_lt k3
  have q1 := blk_cell k3 1
  have hgw : w.heap.size ≤ g := by rw [HG.out]; omega
  clear hW1 k1 k3 k2 hg
  go_wp2_with (refine wpList_load_row rfl 25 (.tmp 4) rfl g rfl 25 C _ _ HK.out Tryd.underlying25 rfl HI.out ?_)
  refine (HQ.out _).mono ?_
  rintro ee w2 ⟨rfl, hb2⟩
  have hB2 := below_via hB1 hb2
  have HK2 := Lib.hid (blk_below HK2.out hb2 (by omega))
  have HK3 := Lib.hid (blk_below HK3.out hb2 (by omega))
  have g2 := blk_lt HK3.out
  have q0 := blk_cell HK3.out 0
  have q1 := blk_cell HK3.out 1
  have q2 := blk_cell HK3.out 2
  have q3 := blk_cell HK3.out 3
  have f3 := blk_free HK3.out 3
  clear hb2 hB1 g1 HK
  go_upto_region 8 with fail
  obtain ⟨W3, hW3⟩ : ∃ W, w2.setCell ⟨g + 1 + 1, 3, none⟩ (.int .u8 (S : Int)) = W := ⟨_, rfl⟩
  have hB3 : Below w.heap.size w W3 := by rw [← hW3]; exact hB2.setCell (p := ⟨g + 1 + 1, 3, none⟩) (by show w.heap.size ≤ g + 1 + 1; omega) _
  have HK3 := Lib.hid (show W3.heap[g + 1 + 1]? = some (.cells #[.int .u8 L, .int .u8 (D : Int), .int .u8 0, .int .u8 (S : Int)] 28) by rw [← hW3]; exact blk_set HK3.out 3 _)
  have HK2 := Lib.hid (show W3.heap[g + 1]? = some (.cells #[.int .u8 0, .int .u8 0, .int .u8 0, .int .u8 0, .int .i64 0, .int .i64 0] 30) by rw [← hW3]; exact blk_far HK2.out (by show g + 1 ≠ g + 1 + 1; omega) _)
  rw [hW3]
  have q0 := blk_cell HK3.out 0
  have q1 := blk_cell HK3.out 1
  have q2 := blk_cell HK3.out 2
  have q3 := blk_cell HK3.out 3
  clear hW3 hB2 f3
  go_wp2_with fail
  refine (HNe.out _).mono ?_
  rintro ee w4 ⟨rfl, hb4⟩
  have hB4 := below_via hB3 hb4
  have HK2 := Lib.hid (blk_below HK2.out hb4 (blk_lt HK2.out))
  have HK3 := Lib.hid (blk_below HK3.out hb4 (blk_lt HK3.out))
  clear hb4 hB3 q0 q1 q2 q3
  by_cases hlt : N < 6 + L
  · obtain rfl : 1 = R := by rw [HRk.out, if_pos hlt]
    have f2 := blk_free HK3.out 2
    have q2 := blk_cell HK3.out 2
    go_upto_region 10 with fail
    obtain ⟨W5, hW5⟩ : ∃ W, w4.setCell ⟨g + 1 + 1, 2, none⟩ (.int .u8 1) = W := ⟨_, rfl⟩
    have hB5 : Below w.heap.size w W5 := by rw [← hW5]; exact hB4.setCell (p := ⟨g + 1 + 1, 2, none⟩) (by show w.heap.size ≤ g + 1 + 1; omega) _
    have HK3 := Lib.hid (show W5.heap[g + 1 + 1]? = some (.cells #[.int .u8 L, .int .u8 (D : Int), .int .u8 1, .int .u8 (S : Int)] 28) by rw [← hW5]; exact blk_set HK3.out 2 _)
    have HK2 := Lib.hid (show W5.heap[g + 1]? = some (.cells #[.int .u8 0, .int .u8 0, .int .u8 0, .int .u8 0, .int .i64 0, .int .i64 0] 30) by rw [← hW5]; exact blk_far HK2.out (by show g + 1 ≠ g + 1 + 1; omega) _)
    rw [hW5]
    clear hW5 hB4 f2 q2
    have q0 := blk_cell HK3.out 0
    have q1 := blk_cell HK3.out 1
    have q2 := blk_cell HK3.out 2
    have q3 := blk_cell HK3.out 3
    go_wp2_with fail
    refine (HSc.out _ (HL.out.go hB5)).mono ?_
    rintro ee w6 ⟨rfl, hb6⟩
    have hB6 := below_via hB5 hb6
    have K2 := blk_below HK2.out hb6 (blk_lt HK2.out)
    have K3 := blk_below HK3.out hb6 (blk_lt HK3.out)
    have q0 := blk_cell K3 0
    have q1 := blk_cell K3 1
    have q2 := blk_cell K3 2
    have q3 := blk_cell K3 3
    have r0 := blk_cell K2 0
    have r1 := blk_cell K2 1
    have r2 := blk_cell K2 2
    have r3 := blk_cell K2 3
    have r4 := blk_cell K2 4
    have r5 := blk_cell K2 5
    have f0 := blk_free K2 0
    have f1 := blk_free K2 1
    have f2 := blk_free K2 2
    have f3 := blk_free K2 3
    have f4 := blk_free K2 4
    have f5 := blk_free K2 5
    clear K2 K3 hb6 hB5
    go_wp2
    refine bodyPost_ret (v := .tuple #[ocV L D 1 S N, .int .i64 P, .int .i64 0]) ?_ rfl ⟨rfl, six_set hB6 (by omega)⟩
    simp [results, Tryd.results16, go_sem, ocV, r0, r1, r2, r3, r4, r5]
  · obtain rfl : 0 = R := by rw [HRk.out, if_neg hlt]
    obtain ⟨W5, hW5⟩ : ∃ W, w4 = W := ⟨_, rfl⟩
    have hB5 : Below w.heap.size w W5 := by rw [← hW5]; exact hB4
    have HK3 := Lib.hid (show W5.heap[g + 1 + 1]? = some (.cells #[.int .u8 L, .int .u8 (D : Int), .int .u8 0, .int .u8 (S : Int)] 28) by rw [← hW5]; exact HK3.out)
    have HK2 := Lib.hid (show W5.heap[g + 1]? = some (.cells #[.int .u8 0, .int .u8 0, .int .u8 0, .int .u8 0, .int .i64 0, .int .i64 0] 30) by rw [← hW5]; exact HK2.out)
    rw [hW5]
    clear hW5 hB4
    have q0 := blk_cell HK3.out 0
    have q1 := blk_cell HK3.out 1
    have q2 := blk_cell HK3.out 2
    have q3 := blk_cell HK3.out 3
    go_wp2_with fail
    refine (HSc.out _ (HL.out.go hB5)).mono ?_
    rintro ee w6 ⟨rfl, hb6⟩
    have hB6 := below_via hB5 hb6
    have K2 := blk_below HK2.out hb6 (blk_lt HK2.out)
    have K3 := blk_below HK3.out hb6 (blk_lt HK3.out)
    have q0 := blk_cell K3 0
    have q1 := blk_cell K3 1
    have q2 := blk_cell K3 2
    have q3 := blk_cell K3 3
    have r0 := blk_cell K2 0
    have r1 := blk_cell K2 1
    have r2 := blk_cell K2 2
    have r3 := blk_cell K2 3
    have r4 := blk_cell K2 4
    have r5 := blk_cell K2 5
    have f0 := blk_free K2 0
    have f1 := blk_free K2 1
    have f2 := blk_free K2 2
    have f3 := blk_free K2 3
    have f4 := blk_free K2 4
    have f5 := blk_free K2 5
    clear K2 K3 hb6 hB5
    go_wp2
    refine bodyPost_ret (v := .tuple #[ocV L D 0 S N, .int .i64 P, .int .i64 0]) ?_ rfl ⟨rfl, six_set hB6 (by omega)⟩
    simp [results, Tryd.results16, go_sem, ocV, r0, r1, r2, r3, r4, r5]

end Go.Proofs.YtilekdjjfdehcaaDoor
