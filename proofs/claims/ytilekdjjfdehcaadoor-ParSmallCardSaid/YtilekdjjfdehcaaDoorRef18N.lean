/- The reference finesseref18: Bids. -/
import Derived.Test.YtilekdjjfdehcaaDoorRef18B
import Derived.Test.YtilekdjjfdehcaaDoorParBidW
namespace Go.Proofs.YtilekdjjfdehcaaDoor
open Go.RowKit

set_option maxRecDepth 100000 in
set_option maxHeartbeats 1000000 in
theorem r18bids_bad (C : Array Value) (t : Nat → Nat → Int) (hC : TabC C t) (v d : Nat) (hv : v ≤ 255) (hd : d ≤ 255) (h : rightT t = false ∨ 3 < v ∨ 3 < d) (w : World) :
    Calls Tryd.prog 29 #[.agg C, .int .i64 (v : Int), .int .i64 (d : Int)] w fun e w' => e = .returned (.tuple #[.slice none 0 0, .int .i64 0, .int .i64 2]) ∧ Below w.heap.size w w' := by
  have HR := Lib.hid (fun W => r18right C t hC W)
  have HI := Lib.hid (show (Tryd.prog.info? 58).map (·.size) = some C.size by rw [hC.1]; kernel_rfl)
  generalize rightT t = N at HR h
  have hcs : N = false ∨ (N = true ∧ (3 : Int) < (v : Int)) ∨ (N = true ∧ ¬ (3 : Int) < (v : Int) ∧ (3 : Int) < (d : Int)) := by
    cases N
    · exact .inl rfl
    · have h' : 3 < v ∨ 3 < d := by rcases h with h | h; cases h; exact h
      by_cases a1 : 3 < v
      · exact .inr (.inl ⟨rfl, by omega⟩)
      · exact .inr (.inr ⟨rfl, by omega, by omega⟩)
  clear h hC
  go_enter Tryd.func29, Tryd.ntmps29
  go_upto_region 1 with fail
  obtain ⟨W1, hW1⟩ : ∃ W1, w.alloc (.cells C 58) = W1 := ⟨_, rfl⟩
  obtain ⟨g, hg⟩ : ∃ g, w.heap.size = g := ⟨_, rfl⟩
  have HK := Lib.hid (show W1.heap[g]? = some (.cells C 58) by rw [← hW1]; exact blk_new _ hg.symm)
  have hB1 : Below w.heap.size w W1 := by rw [← hW1]; exact (by repeat (first | exact Below.refl _ _ | assumption | refine Below.drew ?_ | refine below_drewN ?_ _ | refine Below.alloc ?_ (by first | omega | (simp; done) | (simp; omega)) _ | refine Below.setCell ?_ (by first | omega | (simp; done) | (simp; omega)) _))
  rw [hW1, hg]
  clear hW1 hg
  go_wp2_with (refine wpList_load_row rfl 58 (.tmp 3) rfl g rfl 58 C _ _ HK.out Tryd.underlying58 rfl HI.out ?_)
  refine (HR.out _).mono ?_
  rintro ee w2 ⟨rfl, hb2⟩
  have hB2 := below_via hB1 hb2
  clear hb2 hB1 HK
  rcases hcs with rfl | ⟨rfl, a1⟩ | ⟨rfl, a1, a2⟩
  all_goals
    go_wp2
    go_ret3
    exact ⟨rfl, hB2⟩

/-- What Bids returns. -/
def RBid (f : Nat → Nat → Int) (s : Nat) (w : World) (e : Ending) (w' : World) : Prop :=
  ∃ sv, e = .returned (.tuple #[sv, .int .i64 ((1 - sideAt (begS f s) (bidsL f s).length : Nat) : Int), .int .i64 0]) ∧ w'.ownsRow w.heap.size 5 1 sv (bidsL f s).length (bC (bidsL f s)) ∧ Below w.heap.size w w'

set_option maxRecDepth 100000 in
set_option maxHeartbeats 4000000 in
theorem r18bids_ok (C : Array Value) (t : Nat → Nat → Int) (hC : TabC C t) (v d : Nat) (hv : v ≤ 3) (hd : d ≤ 3) (h : rightT t = true) (w : World) :
    Calls Tryd.prog 29 #[.agg C, .int .i64 (v : Int), .int .i64 (d : Int)] w (RBid (finG t v) (d % 2) w) := by
  have HR := Lib.hid (fun W => r18right C t hC W)
  rw [h] at HR
  have HV := Lib.hid (fun W => r18values C t hC v hv h W)
  unfold RVal at HV
  have HI := Lib.hid (show (Tryd.prog.info? 58).map (·.size) = some C.size by rw [hC.1]; kernel_rfl)
  have HFG := show ∀ b s, 3 ≤ b → b ≤ 37 → s ≤ 1 → finF t v b s = finG t v b s from fun b s h1 h2 h3 => by unfold finG; rw [if_pos ⟨h1, h2, h3⟩]
  have HF : Hid (∀ b s : Nat, 3 ≤ b → b ≤ 37 → s ≤ 1 → ∃ z1 z2 z3 z4 z5 : Int, ∀ W, Calls Tryd.prog 27 #[.agg C, .int .i64 (v : Int), .int .i64 (b : Int), .int .i64 (s : Int)] W fun e w' => e = .returned (.tuple #[.agg #[.int .u8 z1, .int .u8 z2, .int .u8 z3, .int .u8 z4, .int .i64 z5, .int .i64 0], .int .i64 (finG t v b s), .int .i64 0]) ∧ Below W.heap.size W w') := Lib.hid (fun b s h1 h2 h3 =>
    ⟨lvl b, dnm b, rsk t b s, bstS t (dnm b) s, bstN t (dnm b) s, fun W => by rw [← HFG b s h1 h2 h3]; exact r18final_ok C t hC v b s hv h1 h2 h3 h W⟩)
  have HG := Lib.hid (finG_bd t h v)
  have c1 : ¬ (3 : Int) < (v : Int) := by omega
  have c2 : ¬ (3 : Int) < (d : Int) := by omega
  obtain ⟨s, hs⟩ : ∃ s, d % 2 = s := ⟨_, rfl⟩
  rw [hs]
  have hs1 : s ≤ 1 := by omega
  have hds : (d : Int) % 2 = (s : Int) := by omega
  unfold RBid
  generalize finG t v = f at *
  have hbg := beg_spec f s hs1
  clear h hC hs HFG
  obtain ⟨i0, hi, hz0, hz1, hz2⟩ := info_parts info_byte
  go_enter Tryd.func29, Tryd.ntmps29
  go_upto_region 1 with fail
  obtain ⟨W1, hW1⟩ : ∃ W1, w.alloc (.cells C 58) = W1 := ⟨_, rfl⟩
  obtain ⟨g, hg⟩ : ∃ g, w.heap.size = g := ⟨_, rfl⟩
  have HK := Lib.hid (show W1.heap[g]? = some (.cells C 58 (0, 0)) by rw [← hW1]; exact blk_new _ hg.symm)
  have hB1 : Below w.heap.size w W1 := by rw [← hW1]; exact (by repeat (first | exact Below.refl _ _ | assumption | refine Below.drew ?_ | refine below_drewN ?_ _ | refine Below.alloc ?_ (by first | omega | (simp; done) | (simp; omega)) _ | refine Below.setCell ?_ (by first | omega | (simp; done) | (simp; omega)) _))
  have hgw : w.heap.size ≤ g := by omega
  rw [hW1, hg]
  clear hW1 hg
  go_wp2_with (refine wpList_load_row rfl 58 (.tmp 3) rfl g rfl 58 C _ _ HK.out Tryd.underlying58 rfl HI.out ?_)
  refine (HR.out _).mono ?_
  rintro ee w2 ⟨rfl, hb2⟩
  have hB2 := below_via hB1 hb2
  replace HK := Lib.hid (blk_below HK.out hb2 (blk_lt HK.out))
  clear hb2 hB1
  go_wp2_with (refine wpList_load_row rfl 58 (.tmp 3) rfl g rfl 58 C _ _ HK.out Tryd.underlying58 rfl HI.out ?_)
  refine (HV.out _).mono ?_
  rintro ee w3 ⟨B, rfl, hB, hb3⟩
  have hB3 := below_via hB2 hb3
  replace HK := Lib.hid (blk_below HK.out hb3 (blk_lt HK.out))
  have HB := Lib.hid hB
  clear hb3 hB2 hB HV HR
  go_upto_region 5 with (first | (refine plain_alloc_to rfl 81 rfl vcZ vc_zero ?_) | (refine wpList_store_new rfl 81 _ _ rfl B _ _ rfl rfl HB.out.info (by rw [HB.out.1]; rfl) HB.out.2.1 ?_))
  rw [hds]
  obtain ⟨W3, hW3⟩ : ∃ W3, w3.alloc (.cells B 81) = W3 := ⟨_, rfl⟩
  obtain ⟨m, hm⟩ : ∃ m, w3.heap.size = m := ⟨_, rfl⟩
  have K3 := Lib.hid (show W3.heap[m]? = some (.cells B 81 (0, 0)) by rw [← hW3]; exact blk_new _ hm.symm)
  replace HK := Lib.hid (show W3.heap[g]? = some (.cells C 58 (0, 0)) by rw [← hW3]; exact blk_alloc HK.out _)
  have hB4 : Below w.heap.size w W3 := by rw [← hW3]; exact hB3.alloc hB3.size _
  have hmw : w.heap.size ≤ m := by rw [← hm]; exact hB3.size
  rw [hW3, hm]
  clear hW3 hm hB3
  obtain ⟨r, hr⟩ : ∃ r, r = 1 - s := ⟨_, rfl⟩
  have hr1 : (1 : Int) - (s : Int) = (r : Int) := by omega
  have hrb : r ≤ 1 := by omega
  have HCh := Lib.hid (fun (s o : Nat) (hs : s ≤ 1) (p : Int) (hp : -10000 ≤ p ∧ p ≤ 10000) W => r18choose B _ HB.out (valV_bd f HG.out 2 0 (by omega)) s o hs p hp W)
  have HC1 := Lib.hid (fun W => HCh.out r 2 hrb 0 (by decide) W)
  rw [rcV_eq f 2 0 2 r hrb (by omega) (by omega) 0] at HC1
  have ES : chO f 2 r 0 = secC f s := by rw [hr]; rfl
  have hsb := chO_bd f HG.out 2 r (by omega) hrb 0 (by decide)
  rw [ES] at HC1 hsb
  have HC2 := Lib.hid (fun W => HCh.out s 2 hs1 (secC f s).2 hsb W)
  rw [rcV_eq f 2 0 2 s hs1 (by omega) (by omega) (secC f s).2, show chO f 2 s (secC f s).2 = firC f s from rfl] at HC2
  have HBC := Lib.hid (show begC f s = if (firC f s).1 = 0 then secC f s else firC f s from rfl)
  have HBS := Lib.hid (show begS f s = if (firC f s).1 = 0 then r else s by rw [hr]; rfl)
  have HNx := Lib.hid (show ∀ (b y x : Nat), 3 ≤ b → x ≤ 1 → y = 1 - x → ∀ W, Calls Tryd.prog 38 #[.agg B, .int .i64 (x : Int), .int .i64 (b : Int), .int .i64 (f b y)] W fun e w' => e = .returned (.agg #[.int .i64 ((lC f b x).1 : Int), .int .i64 (lC f b x).2]) ∧ Below W.heap.size W w' from
    fun b y x h3 hx hy W => by
      have h := HCh.out x b hx (f b y) (HG.out b y) W
      rw [rcV_eq f 2 0 b x hx (by omega) (by omega) (f b y)] at h
      have e : lC f b x = chO f b x (f b y) := by rw [hy]; rfl
      rw [e]; exact h)
  clear HCh ES
  generalize secC f s = c1 at HC1 HC2 HBC hsb
  generalize firC f s = c2 at HC2 HBC HBS
  have Hr := Lib.hid hr
  clear hr
  go_wp2_with (refine wpList_load_row rfl 81 (.tmp 9) rfl m rfl 81 B _ _ K3.out Tryd.underlying81 rfl HB.out.info ?_)
  refine (HC1.out _).mono ?_
  rintro ee w4 ⟨rfl, hb4⟩
  go_upto_region 6 with fail
  obtain ⟨W5, hW5⟩ : ∃ W5, w4.alloc (.cells #[.int .i64 (c1.1 : Int), .int .i64 c1.2] 84) = W5 := ⟨_, rfl⟩
  obtain ⟨ms, hms⟩ : ∃ ms, w4.heap.size = ms := ⟨_, rfl⟩
  have S5 := Lib.hid (show W5.heap[ms]? = some (.cells #[.int .i64 (c1.1 : Int), .int .i64 c1.2] 84 (0, 0)) by rw [← hW5]; exact blk_new _ hms.symm)
  have hb5 : Below W3.heap.size W3 W5 := by rw [← hW5]; exact hb4.alloc hb4.size _
  have K5 := Lib.hid (blk_below K3.out hb5 (blk_lt K3.out))
  replace HK := Lib.hid (blk_below HK.out hb5 (blk_lt HK.out))
  have hB5 := below_via hB4 hb5
  rw [hW5, hms]
  have q1 := blk_cell S5.out 1
  clear hW5 hms hb5 hb4 hB4 K3
  go_wp2_with (refine wpList_load_row rfl 81 (.tmp 9) rfl m rfl 81 B _ _ K5.out Tryd.underlying81 rfl HB.out.info ?_)
  refine (HC2.out _).mono ?_
  rintro ee w6 ⟨rfl, hb6⟩
  go_upto_region 7 with fail
  obtain ⟨W7, hW7⟩ : ∃ W7, w6.alloc (.cells #[.int .i64 (c2.1 : Int), .int .i64 c2.2] 84) = W7 := ⟨_, rfl⟩
  obtain ⟨mc, hmc⟩ : ∃ mc, w6.heap.size = mc := ⟨_, rfl⟩
  have C7 := Lib.hid (show W7.heap[mc]? = some (.cells #[.int .i64 (c2.1 : Int), .int .i64 c2.2] 84 (0, 0)) by rw [← hW7]; exact blk_new _ hmc.symm)
  have hb7 : Below W5.heap.size W5 W7 := by rw [← hW7]; exact hb6.alloc hb6.size _
  have K7 := Lib.hid (blk_below K5.out hb7 (blk_lt K5.out))
  have S7 := Lib.hid (blk_below S5.out hb7 (blk_lt S5.out))
  replace HK := Lib.hid (blk_below HK.out hb7 (blk_lt HK.out))
  have hB7 := below_via hB5 hb7
  rw [hW7, hmc]
  clear hW7 hmc hb7 hb6 hB5 q1 K5 S5 HC1 HC2
  have HSp := Lib.hid (bids_spec f s hs1)
  have HLe := Lib.hid (bids_len f s)
  have HFi := Lib.hid (bids_first f s)
  have hbw : w.heap.size ≤ W7.heap.size := hB7.size
  have hg7 : g < W7.heap.size := blk_lt HK.out
  have hm7 : m < W7.heap.size := blk_lt K7.out
  have t0 := blk_cell C7.out 0
  by_cases hz : c2.1 = 0
  · have tz : ((c2.1 : Int) == 0) = true := by rw [hz]; rfl
    have HF1 : Hid ((bidsL f s).getD 0 0 = c1.1) := Lib.hid (by rw [HFi.out, HBC.out, if_pos hz])
    have HS1 : Hid (begS f s = r) := Lib.hid (by rw [HBS.out, if_pos hz])
    have a0 := blk_cell S7.out 0
    go_upto_region 12 with fail
    clear a0 tz hz
    clear t0 C7 S7
    obtain ⟨L, hL⟩ : ∃ L, bidsL f s = L := ⟨_, rfl⟩
    have HSp2 : Hid (∀ i, i < L.length → 3 ≤ L.getD i 0 ∧ L.getD i 0 ≤ 37 ∧ (lC f (L.getD i 0) (1 - sideAt r i)).1 = L.getD (i + 1) 0) := Lib.hid (fun i hi => by
      have h := HSp.out i (by rw [hL]; exact hi)
      rw [HS1.out, hL] at h
      exact ⟨h.1, h.2.1, h.2.2.2.1⟩)
    have HLe2 : L.length ≤ 38 := by rw [← hL]; exact HLe.out
    have hg0 : L.getD 0 0 = c1.1 := by rw [← hL]; exact HF1.out
    have HLd := Lib.hid hL
    have hQ1 : r ≤ 1 := by omega
    clear hL hbg
    go_loopw [13, 10, 14] (fun v13 sd bd wr => ∃ (k b : Nat) (xs : List Value), k ≤ L.length ∧ sd = .int .i64 ((sideAt r k : Nat) : Int) ∧ bd = .int .i64 (b : Int) ∧ Hid (L.getD k 0 = b) ∧ Hid (xs = bC (L.take k)) ∧ wr.ownsRow W7.heap.size 5 1 v13 k xs ∧ Hid (wr.heap[g]? = some (.cells C 58 (0, 0))) ∧ Hid (wr.heap[m]? = some (.cells B 81 (0, 0))) ∧
      Below w.heap.size w wr ∧ W7.heap.size ≤ wr.heap.size) (fun v13 _ _ _ => L.length - slLen v13)
    case atStart => exact ⟨0, c1.1, [], by omega, rfl, rfl, hg0, rfl, own_nil, HK.out, K7.out, hB7, Nat.le_refl _⟩
    case round =>
      obtain ⟨k, b, xs, hk, rfl, rfl, hbk, hxs, hown, HKg, HKm, hbel, hsr⟩ := hrel
      rename World => wx
      by_cases hlt : k < L.length
      · obtain ⟨h3, h37, hnx⟩ := HSp2.out k hlt
        have Hsn := Lib.hid (bC_snoc L k hlt)
        have hyb := sideAt_le r k hQ1
        have hys := sideAt_succ r k hQ1
        rw [hbk.out] at h3 h37 hnx Hsn
        obtain ⟨nb, hnb⟩ : ∃ nb, L.getD (k + 1) 0 = nb := ⟨_, rfl⟩
        rw [hnb] at hnx
        have Hnb := Lib.hid hnb
        clear hnb
        obtain ⟨x, hx⟩ : ∃ x, 1 - sideAt r k = x := ⟨_, rfl⟩
        rw [hx] at hnx hys
        have hxb : x ≤ 1 := by omega
        have hx1 : (1 : Int) - ((sideAt r k : Nat) : Int) = (x : Int) := by omega
        have hyx : sideAt r k = 1 - x := by omega
        have Hys := Lib.hid hys
        have tb : (0 : Int) < (b : Int) := by omega
        have lg := blk_lt HKg.out
        have lm := blk_lt HKm.out
        have Hown := Lib.hid hown
        generalize sideAt r k = y at hx1 hyx hyb ⊢
        have HN := Lib.hid (fun W => HNx.out b y x h3 hxb hyx W)
        obtain ⟨z1, z2, z3, z4, z5, HFb⟩ := HF.out b y h3 h37 hyb
        have HFb := Lib.hid HFb
        rw [hnx] at HN
        generalize f b y = P at HN HFb
        generalize (lC f b x).2 = z6 at HN
        clear hnx hys hx hyx
        go_wp2_with (at_builtin; refine wpList_append_own _ rfl _ _ 34 rfl W7.heap.size 5 i0 (.int .u8 0) 1 1 Tryd.underlying34 hi hz0 hz1 hz2 rfl (by decide) _ _ _ rfl (hown.alloc _) _ 1 1 [.int .u8 (b : Int)] rfl rfl ?ca1 ?ca2 ?ca3 ?ca4 ?ca5 ?_)
        case ca1 => exact cells_new_at _ #[.int .u8 (b : Int)] _ _ (by simp)
        case ca2 => simp [Value.oneCell']
        case ca3 => unfold maxLen; omega
        case ca4 => omega
        case ca5 => simp; omega
        intro v' w5 hown1 hgrow _
        have hne : ∀ g', g' < W7.heap.size → some g' ≠ Value.ownBlock u13 := fun g' hg' e => by have := (hown.lt g' e.symm).1; omega
        have KG := Lib.hid (blk_grown (blk_alloc HKg.out _) hgrow (hne g hg7))
        have KM := Lib.hid (blk_grown (blk_alloc HKm.out _) hgrow (hne m hm7))
        have hb5 : Below w.heap.size w w5 := (hbel.alloc hbel.size _).grown hgrow (by have := hbel.size; simp; omega) (fun g' hg' => by have := (hown.lt g' hg').1; omega)
        have hs5 : W7.heap.size ≤ w5.heap.size := by have := hgrow.size; simp at this; omega
        have Hown1 := Lib.hid hown1
        have Hb5 := Lib.hid hb5
        clear hown hgrow hne lm lg hown1 hb5
        go_wp2_with (refine wpList_load_row rfl 58 (.tmp 3) rfl g rfl 58 C _ _ KG.out Tryd.underlying58 rfl HI.out ?_)
        refine (HFb.out _).mono ?_
        rintro ee w6 ⟨rfl, hb6⟩
        go_upto_region 15 with fail
        obtain ⟨W8, hW8⟩ : ∃ W8, w6.alloc (.cells #[.int .u8 z1, .int .u8 z2, .int .u8 z3, .int .u8 z4, .int .i64 z5, .int .i64 0] 30) = W8 := ⟨_, rfl⟩
        have hb8 : Below w5.heap.size w5 W8 := by rw [← hW8]; exact hb6.alloc hb6.size _
        rw [hW8]
        clear hW8 hb6
        replace KG := Lib.hid (blk_below KG.out hb8 (blk_lt KG.out))
        replace KM := Lib.hid (blk_below KM.out hb8 (blk_lt KM.out))
        replace Hb5 := Lib.hid (below_via Hb5.out hb8)
        replace Hown1 := Lib.hid (own_below Hown1.out hb8 (Nat.le_refl _))
        replace hs5 : W7.heap.size ≤ W8.heap.size := by have := hb8.size; omega
        clear hb8
        go_wp2_with (refine wpList_load_row rfl 81 (.tmp 9) rfl m rfl 81 B _ _ KM.out Tryd.underlying81 rfl HB.out.info ?_)
        refine (HN.out _).mono ?_
        rintro ee w9 ⟨rfl, hb9⟩
        replace KG := Lib.hid (blk_below KG.out hb9 (blk_lt KG.out))
        replace KM := Lib.hid (blk_below KM.out hb9 (blk_lt KM.out))
        replace Hb5 := Lib.hid (below_via Hb5.out hb9)
        replace Hown1 := Lib.hid (own_below Hown1.out hb9 (Nat.le_refl _))
        replace hs5 : W7.heap.size ≤ w9.heap.size := by have := hb9.size; omega
        clear hb9
        have hfd : ∀ W : World, (Instr.field 84 (.agg #[.int .i64 (nb : Int), .int .i64 z6]) 0).run Tryd.prog W = .ok (.int .i64 (nb : Int)) W := fun _ => by kernel_rfl
        go_wp2
        go_roundw
        case rel =>
          refine ⟨k + 1, nb, _, by omega, by rw [Hys.out], rfl, Hnb.out, ?_, Hown1.out, KG.out, KM.out, Hb5.out, hs5⟩
          show _ = bC (L.take (k + 1)); rw [Hsn.out, hxs.out]
        case measure =>
          obtain ⟨A', c', rfl⟩ := own_form Hown1.out
          obtain ⟨A'', c'', rfl⟩ := own_form Hown.out
          simp [slLen]; omega
      · obtain rfl : k = L.length := by omega
        have hg0 : L.getD L.length 0 = 0 := by rw [List.getD_eq_getElem?_getD, List.getElem?_eq_none (Nat.le_refl _)]; rfl
        have hb0 : (b : Int) = 0 := by have := hbk.out; omega
        rw [hb0]
        have hyb := sideAt_le r L.length hQ1
        have He := Lib.hid (show (1 : Int) - ((sideAt r L.length : Nat) : Int) = ((1 - sideAt r L.length : Nat) : Int) by omega)
        have hown := own_mono hown hbw
        rw [List.take_length] at hxs
        rw [hxs.out] at hown
        have Hown := Lib.hid hown
        clear hown hg0 hb0
        go_wp2
        go_ret3
        exact ⟨_, by rw [HS1.out, HLd.out, ← He.out]; rfl, by rw [HLd.out]; exact Hown.out, hbel⟩
  · have tz : ((c2.1 : Int) == 0) = false := beq_eq_false_iff_ne.2 (by omega)
    have HF1 : Hid ((bidsL f s).getD 0 0 = c2.1) := Lib.hid (by rw [HFi.out, HBC.out, if_neg hz])
    have HS1 : Hid (begS f s = s) := Lib.hid (by rw [HBS.out, if_neg hz])
    go_upto_region 12 with fail
    clear tz hz
    clear t0 C7 S7
    obtain ⟨L, hL⟩ : ∃ L, bidsL f s = L := ⟨_, rfl⟩
    have HSp2 : Hid (∀ i, i < L.length → 3 ≤ L.getD i 0 ∧ L.getD i 0 ≤ 37 ∧ (lC f (L.getD i 0) (1 - sideAt s i)).1 = L.getD (i + 1) 0) := Lib.hid (fun i hi => by
      have h := HSp.out i (by rw [hL]; exact hi)
      rw [HS1.out, hL] at h
      exact ⟨h.1, h.2.1, h.2.2.2.1⟩)
    have HLe2 : L.length ≤ 38 := by rw [← hL]; exact HLe.out
    have hg0 : L.getD 0 0 = c2.1 := by rw [← hL]; exact HF1.out
    have HLd := Lib.hid hL
    have hQ1 : s ≤ 1 := by omega
    clear hL hbg
    go_loopw [13, 10, 14] (fun v13 sd bd wr => ∃ (k b : Nat) (xs : List Value), k ≤ L.length ∧ sd = .int .i64 ((sideAt s k : Nat) : Int) ∧ bd = .int .i64 (b : Int) ∧ Hid (L.getD k 0 = b) ∧ Hid (xs = bC (L.take k)) ∧ wr.ownsRow W7.heap.size 5 1 v13 k xs ∧ Hid (wr.heap[g]? = some (.cells C 58 (0, 0))) ∧ Hid (wr.heap[m]? = some (.cells B 81 (0, 0))) ∧
      Below w.heap.size w wr ∧ W7.heap.size ≤ wr.heap.size) (fun v13 _ _ _ => L.length - slLen v13)
    case atStart => exact ⟨0, c2.1, [], by omega, rfl, rfl, hg0, rfl, own_nil, HK.out, K7.out, hB7, Nat.le_refl _⟩
    case round =>
      obtain ⟨k, b, xs, hk, rfl, rfl, hbk, hxs, hown, HKg, HKm, hbel, hsr⟩ := hrel
      rename World => wx
      by_cases hlt : k < L.length
      · obtain ⟨h3, h37, hnx⟩ := HSp2.out k hlt
        have Hsn := Lib.hid (bC_snoc L k hlt)
        have hyb := sideAt_le s k hQ1
        have hys := sideAt_succ s k hQ1
        rw [hbk.out] at h3 h37 hnx Hsn
        obtain ⟨nb, hnb⟩ : ∃ nb, L.getD (k + 1) 0 = nb := ⟨_, rfl⟩
        rw [hnb] at hnx
        have Hnb := Lib.hid hnb
        clear hnb
        obtain ⟨x, hx⟩ : ∃ x, 1 - sideAt s k = x := ⟨_, rfl⟩
        rw [hx] at hnx hys
        have hxb : x ≤ 1 := by omega
        have hx1 : (1 : Int) - ((sideAt s k : Nat) : Int) = (x : Int) := by omega
        have hyx : sideAt s k = 1 - x := by omega
        have Hys := Lib.hid hys
        have tb : (0 : Int) < (b : Int) := by omega
        have lg := blk_lt HKg.out
        have lm := blk_lt HKm.out
        have Hown := Lib.hid hown
        generalize sideAt s k = y at hx1 hyx hyb ⊢
        have HN := Lib.hid (fun W => HNx.out b y x h3 hxb hyx W)
        obtain ⟨z1, z2, z3, z4, z5, HFb⟩ := HF.out b y h3 h37 hyb
        have HFb := Lib.hid HFb
        rw [hnx] at HN
        generalize f b y = P at HN HFb
        generalize (lC f b x).2 = z6 at HN
        clear hnx hys hx hyx
        go_wp2_with (at_builtin; refine wpList_append_own _ rfl _ _ 34 rfl W7.heap.size 5 i0 (.int .u8 0) 1 1 Tryd.underlying34 hi hz0 hz1 hz2 rfl (by decide) _ _ _ rfl (hown.alloc _) _ 1 1 [.int .u8 (b : Int)] rfl rfl ?cb1 ?cb2 ?cb3 ?cb4 ?cb5 ?_)
        case cb1 => exact cells_new_at _ #[.int .u8 (b : Int)] _ _ (by simp)
        case cb2 => simp [Value.oneCell']
        case cb3 => unfold maxLen; omega
        case cb4 => omega
        case cb5 => simp; omega
        intro v' w5 hown1 hgrow _
        have hne : ∀ g', g' < W7.heap.size → some g' ≠ Value.ownBlock u13 := fun g' hg' e => by have := (hown.lt g' e.symm).1; omega
        have KG := Lib.hid (blk_grown (blk_alloc HKg.out _) hgrow (hne g hg7))
        have KM := Lib.hid (blk_grown (blk_alloc HKm.out _) hgrow (hne m hm7))
        have hb5 : Below w.heap.size w w5 := (hbel.alloc hbel.size _).grown hgrow (by have := hbel.size; simp; omega) (fun g' hg' => by have := (hown.lt g' hg').1; omega)
        have hs5 : W7.heap.size ≤ w5.heap.size := by have := hgrow.size; simp at this; omega
        have Hown1 := Lib.hid hown1
        have Hb5 := Lib.hid hb5
        clear hown hgrow hne lm lg hown1 hb5
        go_wp2_with (refine wpList_load_row rfl 58 (.tmp 3) rfl g rfl 58 C _ _ KG.out Tryd.underlying58 rfl HI.out ?_)
        refine (HFb.out _).mono ?_
        rintro ee w6 ⟨rfl, hb6⟩
        go_upto_region 15 with fail
        obtain ⟨W8, hW8⟩ : ∃ W8, w6.alloc (.cells #[.int .u8 z1, .int .u8 z2, .int .u8 z3, .int .u8 z4, .int .i64 z5, .int .i64 0] 30) = W8 := ⟨_, rfl⟩
        have hb8 : Below w5.heap.size w5 W8 := by rw [← hW8]; exact hb6.alloc hb6.size _
        rw [hW8]
        clear hW8 hb6
        replace KG := Lib.hid (blk_below KG.out hb8 (blk_lt KG.out))
        replace KM := Lib.hid (blk_below KM.out hb8 (blk_lt KM.out))
        replace Hb5 := Lib.hid (below_via Hb5.out hb8)
        replace Hown1 := Lib.hid (own_below Hown1.out hb8 (Nat.le_refl _))
        replace hs5 : W7.heap.size ≤ W8.heap.size := by have := hb8.size; omega
        clear hb8
        go_wp2_with (refine wpList_load_row rfl 81 (.tmp 9) rfl m rfl 81 B _ _ KM.out Tryd.underlying81 rfl HB.out.info ?_)
        refine (HN.out _).mono ?_
        rintro ee w9 ⟨rfl, hb9⟩
        replace KG := Lib.hid (blk_below KG.out hb9 (blk_lt KG.out))
        replace KM := Lib.hid (blk_below KM.out hb9 (blk_lt KM.out))
        replace Hb5 := Lib.hid (below_via Hb5.out hb9)
        replace Hown1 := Lib.hid (own_below Hown1.out hb9 (Nat.le_refl _))
        replace hs5 : W7.heap.size ≤ w9.heap.size := by have := hb9.size; omega
        clear hb9
        have hfd : ∀ W : World, (Instr.field 84 (.agg #[.int .i64 (nb : Int), .int .i64 z6]) 0).run Tryd.prog W = .ok (.int .i64 (nb : Int)) W := fun _ => by kernel_rfl
        go_wp2
        go_roundw
        case rel =>
          refine ⟨k + 1, nb, _, by omega, by rw [Hys.out], rfl, Hnb.out, ?_, Hown1.out, KG.out, KM.out, Hb5.out, hs5⟩
          show _ = bC (L.take (k + 1)); rw [Hsn.out, hxs.out]
        case measure =>
          obtain ⟨A', c', rfl⟩ := own_form Hown1.out
          obtain ⟨A'', c'', rfl⟩ := own_form Hown.out
          simp [slLen]; omega
      · obtain rfl : k = L.length := by omega
        have hg0 : L.getD L.length 0 = 0 := by rw [List.getD_eq_getElem?_getD, List.getElem?_eq_none (Nat.le_refl _)]; rfl
        have hb0 : (b : Int) = 0 := by have := hbk.out; omega
        rw [hb0]
        have hyb := sideAt_le s L.length hQ1
        have He := Lib.hid (show (1 : Int) - ((sideAt s L.length : Nat) : Int) = ((1 - sideAt s L.length : Nat) : Int) by omega)
        have hown := own_mono hown hbw
        rw [List.take_length] at hxs
        rw [hxs.out] at hown
        have Hown := Lib.hid hown
        clear hown hg0 hb0
        go_wp2
        go_ret3
        exact ⟨_, by rw [HS1.out, HLd.out, ← He.out]; rfl, by rw [HLd.out]; exact Hown.out, hbel⟩

end Go.Proofs.YtilekdjjfdehcaaDoor
