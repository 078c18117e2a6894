/- The walk of finesseref01.div: long division. -/
import Derived.Test.YtlobdeakgoicpaaDoorDigM
namespace Go.Proofs.YtlobdeakgoicpaaDoor
open Go.RowKit

theorem ln_div (n k : Nat) : ln (n / Bs ^ k) = ln n - k := by
  have h1 := ln_lt n
  by_cases hk : k ≤ ln n
  · refine ln_eq ?_ ?_
    · rw [Nat.div_lt_iff_lt_mul (bs_pos k), ← Nat.pow_add, Nat.sub_add_cancel hk]
      exact h1
    · by_cases h0 : ln n - k = 0
      · exact .inl h0
      · refine .inr ((Nat.le_div_iff_mul_le (bs_pos k)).2 ?_)
        rw [← Nat.pow_add, show ln n - k - 1 + k = ln n - 1 by omega]
        exact ln_ge (by omega)
  · rw [Nat.div_eq_of_lt (Nat.lt_of_lt_of_le h1 (bs_le (by omega))), ln_zero]; omega
theorem shift_lt2 {n k d : Nat} (h : n < Bs ^ k) (hd : d < 65536) : d + 65536 * n < Bs ^ (1 + k) := by
  have h2 := Nat.mul_le_mul_left 65536 (show n + 1 ≤ Bs ^ k from h)
  rw [Nat.pow_add, Nat.pow_one]
  show d + 65536 * n < 65536 * Bs ^ k
  generalize Bs ^ k = P at *
  omega
/-- The digits of a quotient from an index on, zeros below. -/
def qC (q m j : Nat) : Array Value := ((List.range m).map fun t => Value.int .i64 (if j ≤ t then ((dg q t : Nat) : Int) else 0)).toArray
theorem qC_size (q m j : Nat) : (qC q m j).size = m := by simp [qC]
theorem qC_get (q m j t : Nat) (h : t < m) : (qC q m j)[t]? = some (.int .i64 (if j ≤ t then ((dg q t : Nat) : Int) else 0)) := by simp [qC, h]
theorem qC_none (q m : Nat) (t : Nat) (h : t < m) : (qC q m m)[t]? = some (.int .i64 0) := by rw [qC_get q m m t h, if_neg (by omega)]
theorem qC_set (q m i : Nat) (h : i < m) : (qC q m (i + 1)).setIfInBounds i (.int .i64 ((dg q i : Nat) : Int)) = qC q m i := by
  apply Array.ext_getElem?
  intro t
  by_cases ht : t < m
  · by_cases e : t = i
    · subst e
      rw [Array.getElem?_setIfInBounds_self_of_lt (by rw [qC_size]; exact h), qC_get q m t t ht, if_pos (Nat.le_refl _)]
    · rw [Array.getElem?_setIfInBounds_ne (fun h => e h.symm), qC_get q m _ t ht, qC_get q m _ t ht]
      by_cases e2 : i ≤ t
      · rw [if_pos (by omega), if_pos e2]
      · rw [if_neg (by omega), if_neg e2]
  · rw [Array.getElem?_eq_none (by rw [Array.size_setIfInBounds, qC_size]; omega), Array.getElem?_eq_none (by rw [qC_size]; omega)]
theorem qC_all (q m : Nat) : (qC q m 0).toList = dC q m := by simp [qC, dC]
theorem qC_zero (q m : Nat) : madeCells #[Value.int .i64 0] (m * 1) = qC q m m := by
  apply Array.ext_getElem?
  intro t
  by_cases ht : t < m
  · rw [qC_none q m t ht]
    have h2 : t < (madeCells #[Value.int .i64 0] (m * 1)).size := by simp [size_madeCells]; exact ht
    rw [Array.getElem?_eq_getElem h2]
    have h1 : t % 1 = 0 := Nat.mod_one t
    simp [madeCells, h1]
  · rw [Array.getElem?_eq_none (by simp [size_madeCells]; omega), Array.getElem?_eq_none (by rw [qC_size]; omega)]
theorem make_ints (W : World) (q m : Nat) (hn : m ≤ 65536) : (Instr.makeSlice 52 (.int .i64 (m : Int)) (.int .i64 (m : Int))).run Tryd.prog W = .ok (.slice (some ⟨W.heap.size, 0, none⟩) m m) (W.alloc (.cells (qC q m m) 3)) := by
  obtain ⟨i0, hi, hz0, hz1, hz2⟩ := info_parts info_int
  have hr := run_make (P := Tryd.prog) W 52 3 i0 _ Tryd.underlying52 hi hz0 .i64 .i64 (m : Int) (m : Int) (by omega) (by omega) (by rw [hz2]; omega) (by omega)
  rw [hr, hz1, ← qC_zero]
  rfl
theorem Rd.ddrop {w : World} {B n k : Nat} {b off : Nat} (h : Rd w B 1 (some ⟨b, off, none⟩) k (dC n k)) (j : Nat) (hj : j ≤ k) : Rd w B 1 (some ⟨b, off + j, none⟩) (k - j) (dC (n / Bs ^ j) (k - j)) := by
  refine ⟨by rw [dC_len]; omega, fun h0 => ?_⟩
  obtain ⟨b', off', e, hl, hc⟩ := h.2 (by omega)
  have e2 := Option.some.inj e
  injection e2 with e3 e4
  subst e3 e4
  refine ⟨b, off + j, rfl, hl, fun t ht => ?_⟩
  rw [dC_len] at ht
  have := hc (j + t) (by rw [dC_len]; omega)
  rw [← dC_drop, List.getElem?_drop, ← this, Nat.add_assoc]
theorem grown_setCellD (w : World) (a : Addr) (u : Value) : w.grownBy (w.setCell a u) (some a.block) :=
  ⟨rfl, rfl, rfl, by simp, fun k _ hk => Below.heap_setCell w a u k (fun e => hk (by rw [e]))⟩
/-- What div returns. -/
def OutQ (a b : Nat) (w : World) (e : Ending) (w' : World) : Prop := ∃ A1 c1 A2 c2, e = .returned (.tuple #[.slice A1 (ln (a / b)) c1, .slice A2 (ln (a % b)) c2]) ∧ DS w' (a / b) (ln (a / b)) A1 c1 ∧ DS w' (a % b) (ln (a % b)) A2 c2 ∧ Below w.heap.size w w'

set_option maxRecDepth 100000 in
set_option maxHeartbeats 4000000 in
theorem r01div (a b : Nat) (A B : Option Addr) (ca cb : Nat) (w : World) (ha : DS w a (ln a) A ca) (hb : DS w b (ln b) B cb) (hla : ln a ≤ 80) (hlb : ln b ≤ 80) (hb0 : 0 < b) :
    Calls Tryd.prog 83 #[.slice A (ln a) ca, .slice B (ln b) cb] w (OutQ a b w) := by
  obtain ⟨i0, hi, hz0, hz1, hz2⟩ := info_parts info_int
  have HA := Lib.hid ha
  have HB := Lib.hid hb
  have HLs := Lib.hid (r01less a b A B ca cb w ha hb (by omega) (by omega))
  have hlb0 : 0 < ln b := by
    rcases Nat.eq_zero_or_pos (ln b) with h | h
    · have := ln_nil.1 h; omega
    · exact h
  by_cases hab : a < b
  · have hd := decide_eq_true hab
    rw [hd] at HLs
    have e1 : a / b = 0 := Nat.div_eq_of_lt hab
    have e2 : a % b = a := Nat.mod_eq_of_lt hab
    unfold OutQ
    rw [e1, e2, ln_zero]
    have hz : ∀ W, DS W 0 0 none 0 := fun W => ⟨fun _ => rfl, Rd.nil_, by omega, by omega⟩
    have Hz := Lib.hid hz
    clear hd e1 e2 hz ha hb HB
    generalize ln a = la at *
    generalize ln b = lb at *
    go_enter Tryd.func83, Tryd.ntmps83
    go_wp2_with fail
    refine HLs.out.mono ?_
    rintro ee w1 ⟨rfl, n1, rfl⟩
    go_wp2
    go_ret2
    exact ⟨none, 0, A, ca, rfl, Hz.out _, HA.out, below_drewN (Below.refl _ _) n1⟩
  · have hd := decide_eq_false hab
    rw [hd] at HLs
    have hle : ln b ≤ ln a := ln_min _ _ (Nat.lt_of_le_of_lt (by omega) (ln_lt a))
    obtain ⟨m, hm⟩ : ∃ m, ln a - ln b + 1 = m := ⟨_, rfl⟩
    have hm2 : ln a - m = ln b - 1 := by omega
    have hmla : m ≤ ln a := by omega
    have HlnR := Lib.hid (show ln (a / Bs ^ m) = ln b - 1 by rw [ln_div]; exact hm2)
    have HRlt := Lib.hid (show a / Bs ^ m % b = a / Bs ^ m from Nat.mod_eq_of_lt (by
      have h1 := ln_lt (a / Bs ^ m)
      rw [ln_div, hm2] at h1
      exact Nat.lt_of_lt_of_le h1 (ln_ge (by omega))))
    have HQ := Lib.hid (show a / b < Bs ^ m by
      rw [Nat.div_lt_iff_lt_mul hb0]
      have h1 := ln_lt a
      have h2 := @ln_ge b (ln b - 1) (by omega)
      have e : Bs ^ ln a = Bs ^ m * Bs ^ (ln b - 1) := by rw [← Nat.pow_add, show m + (ln b - 1) = ln a by omega]
      rw [e] at h1
      exact Nat.lt_of_lt_of_le h1 (Nat.mul_le_mul_left _ h2))
    clear hd
    obtain ⟨ba, oa, rfl, hba, -⟩ := ha.digit 0 (by omega)
    have HSr := Lib.hid (ha.2.1.ddrop m hmla)
    have HGe := Lib.hid (show dg b (ln b - 1) ≠ 0 from top_ne hlb0)
    have HBn := Lib.hid (fun r h => div_bounds r b (ln b) rfl hlb0 h)
    clear ha hb
    rw [hm2] at HSr
    have hca := HA.out.2.2
    generalize hgla : ln a = la at *
    generalize hglb : ln b = lb at *
    have hmk := fun W => make_ints W (a / b) m (by omega)
    have hmi : ((la : Int) - (lb : Int)) + 1 = (m : Int) := by omega
    have HLb := Lib.hid hglb
    clear hgla hglb hab hm
    go_enter Tryd.func83, Tryd.ntmps83
    go_wp2_with fail
    refine HLs.out.mono ?_
    rintro ee w1 ⟨rfl, n1, rfl⟩
    go_upto_region 4 with fail
    go_cut [7] (fun v' wx => ∃ A1 c1, v' = .slice A1 (lb - 1) c1 ∧ DS wx (a / Bs ^ m) (lb - 1) A1 c1 ∧ (∀ ad, A1 = some ad → w.heap.size ≤ ad.block) ∧ Below w.heap.size w wx)
    case first =>
      by_cases hl1 : lb - 1 = 0
      · by_cases hcm : ca = m
        · go_wp2_with fail
          go_meet
          refine ⟨some ⟨w.heap.size, 0, none⟩, 0, by rw [hl1], ?_, fun ad e => by injection e with e; subst e; exact Nat.le_refl _, (below_drewN (Below.refl _ _) n1).alloc (Nat.le_refl _) _⟩
          rw [hl1]
          exact ⟨(fun h => by cases h), ⟨(by rw [dC_len]), fun h => absurd h (by decide)⟩, Nat.le_refl _, by omega⟩
        · go_wp2_with fail
          go_meet
          refine ⟨some ⟨w.heap.size, 0, none⟩, 0, by rw [hl1], ?_, fun ad e => by injection e with e; subst e; exact Nat.le_refl _, (below_drewN (Below.refl _ _) n1).alloc (Nat.le_refl _) _⟩
          rw [hl1]
          exact ⟨(fun h => by cases h), ⟨(by rw [dC_len]), fun h => absurd h (by decide)⟩, Nat.le_refl _, by omega⟩
      · have hcm : ¬ ca = m := by omega
        go_wp2_with (at_builtin; refine wpList_append_src rfl (.tmp 21) (.tmp 28) 52 rfl w.heap.size 3 i0 (.int .i64 0) 1 8 Tryd.underlying52 hi hz0 hz1 hz2 rfl (by decide) (.slice (some ⟨w.heap.size, 0, none⟩) 0 0) 0 [] rfl ?d0c (some ⟨ba, oa + m, none⟩) (lb - 1) (ca - m) w.heap.size (dC (a / Bs ^ m) (lb - 1)) rfl ?d1c ?d2c (dC_one _ _) ?d3c ?d4c ?d5c ?_)
        case d0c => exact own_empty (w.drewN n1) _ _ _ rfl
        case d1c => exact HSr.out.below ((below_drewN (Below.refl _ _) n1).alloc (Nat.le_refl _) _)
        case d2c => exact fun h => by cases h
        case d3c => unfold maxLen; omega
        case d4c => omega
        case d5c => simp
        intro u1 wx hou hgu _
        have hbx : Below w.heap.size w wx := ((below_drewN (Below.refl _ _) n1).alloc (Nat.le_refl _) _).grown hgu (by simp) (fun g hg => by injection hg with hg; rw [← hg]; exact Nat.le_refl _)
        obtain ⟨A1, c1, rfl⟩ := own_form hou
        go_wp2_with fail
        go_meet
        exact ⟨A1, c1, rfl, DS.of_own hou, own_new hou, hbx⟩
    case rest =>
      obtain ⟨A1, c1, rfl, hd1, hn1, hb1⟩ := hcut
      have HD1 := Lib.hid hd1
      have HN1 := Lib.hid hn1
      have hws := hb1.size
      clear hd1 hn1 HLs HSr
      go_wp2_with fail
      obtain ⟨g, hg⟩ : ∃ g, wc.heap.size = g := ⟨_, rfl⟩
      obtain ⟨W1, hW1⟩ : ∃ V, wc.alloc (.cells (qC (a / b) m m) 3) = V := ⟨_, rfl⟩
      have Kg := Lib.hid (show W1.heap[g]? = some (.cells (qC (a / b) m m) 3 (0, 0)) by rw [← hW1]; exact blk_new _ hg.symm)
      have hb2 : Below wc.heap.size wc W1 := by rw [← hW1]; exact (Below.refl _ _).alloc (Nat.le_refl _) _
      have HD2 := Lib.hid (DS.go HD1.out hb2)
      have HB1 := Lib.hid (below_viaD hb1 hb2)
      have hgw : w.heap.size ≤ g := by omega
      (try rw [hW1, hg])
      clear hW1 hg hb1 hb2 HD1 hmk HN1 hws
      go_loopw [7, 9] (fun v i wr => ∃ (j c2 : Nat) (A2 : Option Addr), j ≤ m ∧ i = .int .i64 ((j : Int) - 1) ∧ v = .slice A2 (ln (a / Bs ^ j % b)) c2 ∧ Hid (DS wr (a / Bs ^ j % b) (ln (a / Bs ^ j % b)) A2 c2) ∧ Hid (wr.heap[g]? = some (.cells (qC (a / b) m j) 3 (0, 0))) ∧ Hid (Below w.heap.size w wr)) (fun _ i _ => (intOf i + 1).toNat)
      case atStart => exact ⟨m, c1, A1, Nat.le_refl _, int_eq (by omega), by rw [HRlt.out, HlnR.out], (by rw [HRlt.out, HlnR.out]; exact HD2.out), Kg, HB1⟩
      case round =>
        obtain ⟨j, c2, A2, hj, rfl, rfl, HR, HK, HBw⟩ := hrel
        by_cases h0 : 0 < j
        · obtain ⟨i, rfl⟩ : ∃ i, j = i + 1 := ⟨j - 1, by omega⟩
          have har := HA.out.go HBw.out
          obtain ⟨ba', oa', e, lba, qa⟩ := har.digit i (by omega)
          obtain ⟨rfl, rfl⟩ : ba = ba' ∧ oa = oa' := by injection e with e; injection e with e1 e2; exact ⟨e1, e2⟩
          have hst := div_step a b i hb0
          have hrb : a / Bs ^ (i + 1) % b < b := Nat.mod_lt _ hb0
          have hpl : ln (a / Bs ^ (i + 1) % b) ≤ lb := by rw [← HLb.out]; exact ln_min _ _ (Nat.lt_trans hrb (ln_lt b))
          have hda := dg_lt a i
          have e1 : (((i + 1 : Nat) : Int)) - 1 = (i : Int) := by omega
          have j1 : (0 : Int) ≤ (i : Int) := by omega
          have j2 : (i : Int) < (la : Int) := by omega
          have hxl := shift_lt2 (ln_lt (a / Bs ^ (i + 1) % b)) hda
          have HTr := Lib.hid (fun A c W h => r01trim (dg a i + 65536 * (a / Bs ^ (i + 1) % b)) (1 + ln (a / Bs ^ (i + 1) % b)) A c W hxl h (by omega))
          have HTl := Lib.hid (ln_min _ _ hxl)
          have HCo := Lib.hid (dC_cons (dg a i) (a / Bs ^ (i + 1) % b) (ln (a / Bs ^ (i + 1) % b)) hda)
          have HBx := Lib.hid (HBn.out _ hst.1)
          have HSt := Lib.hid hst
          rw [e1]
          clear har e hst hrb hxl e1
          generalize a / Bs ^ (i + 1) % b = r at *
          generalize dg a i = da at *
          obtain ⟨p, hp⟩ : ∃ p, ln r = p := ⟨_, rfl⟩
          rw [hp] at HTr HTl HCo HR hpl ⊢
          clear hp
          go_wp2_with (at_builtin; refine wpList_append_src rfl (.tmp 48) (.tmp 49) 52 rfl wr.heap.size 3 i0 (.int .i64 0) 1 8 Tryd.underlying52 hi hz0 hz1 hz2 rfl (by decide) (.slice (some ⟨wr.heap.size, 0, none⟩) 1 1) 1 [.int .i64 (da : Int)] rfl ?d0x A2 p c2 wr.heap.size (dC r p) rfl ?d1x HR.out.1 (dC_one _ _) ?d3x ?d4x ?d5x ?_)
          case d0x => exact own_oneD (blk_new _ rfl) (Nat.le_refl _)
          case d1x => exact HR.out.2.1.alloc (Nat.le_refl _) _
          case d3x => unfold maxLen; omega
          case d4x => omega
          case d5x => simp
          intro u1 w2 ho2 hg2 _
          have hb2 : Below wr.heap.size wr w2 := ((Below.refl _ _).alloc (Nat.le_refl _) _).grown hg2 (by simp) (fun g hg => by injection hg with hg; rw [← hg]; exact Nat.le_refl _)
          obtain ⟨A3, c3, rfl⟩ := own_form ho2
          rw [HCo.out, Nat.add_comm p 1] at ho2
          have HO2 := Lib.hid ho2
          have HN3 := Lib.hid (show ∀ ad, A3 = some ad → ad.block ≠ g from fun ad e => by have := own_new ho2 ad e; have := blk_lt HK.out; omega)
          have HD3 := Lib.hid ((DS.of_own ho2).pre _ HTl.out)
          have HTr2 := Lib.hid (HTr.out A3 c3 w2 (DS.of_own ho2))
          have HB2 := Lib.hid (below_viaD HBw.out hb2)
          have lg := blk_lt HK.out
          have HK2 := Lib.hid (blk_below HK.out hb2 lg)
          have hxn : ln (da + 65536 * r) ≤ 81 := by have := HTl.out; omega
          clear ho2 hg2 hb2 HTr HTl HCo HR qa HO2 lba
          have HX1 := Lib.hid (fun k => dg_top (da + 65536 * r) k)
          have HX2 := Lib.hid (ln_lt (da + 65536 * r))
          generalize da + 65536 * r = X at *
          generalize hlx : ln X = x at *
          have HLx := Lib.hid hlx
          have hxb : X / Bs ^ (lb - 1) ≤ 4294967295 := by
            have h1 := (HSt.out).1
            have h2 : X < 65536 * b := by
              have := (Nat.div_lt_iff_lt_mul hb0).1 h1
              omega
            have h3 : b < Bs ^ lb := by rw [← HLb.out]; exact ln_lt b
            have h4 : Bs ^ lb = 65536 * Bs ^ (lb - 1) := by
              rw [show lb = lb - 1 + 1 by omega, Nat.pow_succ, Nat.mul_comm]; rfl
            have h5 : X < 4294967296 * Bs ^ (lb - 1) := by
              rw [h4] at h3
              generalize Bs ^ (lb - 1) = P at *
              omega
            have := (Nat.div_lt_iff_lt_mul (bs_pos (lb - 1))).2 h5
            omega
          clear hlx
          have c1' : (1 : Int) ≤ (lb : Int) := by omega
          go_wp2_with fail
          refine HTr2.out.mono ?_
          rintro ee w3 ⟨rfl, rfl⟩
          go_wp2
          go_loopw [10, 11] (fun tv kv wq => ∃ kk : Nat, kk ≤ x ∧ (lb - 1 ≤ kk ∨ kk = x) ∧ kv = .int .i64 ((kk : Int) - 1) ∧ tv = .int .i64 ((X / Bs ^ kk : Nat) : Int) ∧ wq = w3) (fun _ kv _ => (intOf kv + 1).toNat)
          case atStart => exact ⟨x, Nat.le_refl _, .inr rfl, rfl, by rw [Nat.div_eq_of_lt HX2.out]; rfl, rfl⟩
          case round =>
            obtain ⟨kk, hkk, hkl, rfl, rfl, rfl⟩ := hrel
            by_cases hge : lb ≤ kk
            · obtain ⟨q, rfl⟩ : ∃ q, kk = q + 1 := ⟨kk - 1, by omega⟩
              obtain ⟨pr, og, rfl, lpr, qr⟩ := HD3.out.digit q (by omega)
              have HT1 := Lib.hid (HX1.out q)
              have hdx := dg_lt X q
              have hle2 : X / Bs ^ q ≤ X / Bs ^ (lb - 1) := Nat.div_le_div_left (bs_le (by omega)) (bs_pos _)
              have e1 : (((q + 1 : Nat) : Int)) - 1 = (q : Int) := by omega
              have k1 : (0 : Int) ≤ (q : Int) := by omega
              have k2 : (q : Int) < (x : Int) := by omega
              have k3 : (lb : Int) - 1 ≤ (q : Int) := by omega
              rw [HT1.out] at hle2
              rw [e1]
              generalize dg X q = dx at *
              generalize X / Bs ^ (q + 1) = T at *
              have w1' := IntWalk.i64_in ((T : Int) * 65536) (by omega)
              have w2' := IntWalk.i64_in ((T : Int) * 65536 + (dx : Int)) (by omega)
              go_wp2
              go_roundw
              case rel => exact ⟨q, by omega, .inl (by omega), rfl, int_eq (by rw [HT1.out]; omega), trivial⟩
              case measure => simp [intOf]
            · have k3 : ¬ (lb : Int) - 1 ≤ (kk : Int) - 1 := by omega
              have HTe := Lib.hid (show X / Bs ^ kk = X / Bs ^ (lb - 1) by
                rcases hkl with h | h
                · rw [show kk = lb - 1 by omega]
                · rw [h, Nat.div_eq_of_lt HX2.out, Nat.div_eq_of_lt (Nat.lt_of_lt_of_le HX2.out (bs_le (by omega)))])
              rw [HTe.out]
              go_upto_region 15 with fail
              clear k3
              have hbr := HB.out.go HB2.out
              obtain ⟨pb, ob, rfl, lpb, qb⟩ := hbr.digit (lb - 1) (by omega)
              have hcast : (lb : Int) - 1 = ((lb - 1 : Nat) : Int) := by omega
              have htl := dg_lt b (lb - 1)
              have htp : 0 < dg b (lb - 1) := Nat.pos_of_ne_zero HGe.out
              have hq1 := (HSt.out).1
              have HBx2 := Lib.hid HBx.out
              clear hbr HX1 HTe HBx
              generalize dg b (lb - 1) = t at *
              generalize X / Bs ^ (lb - 1) = T at *
              have k4 : (0 : Int) ≤ (lb : Int) - 1 := by omega
              have k5 : (lb : Int) - 1 < (lb : Int) := by omega
              have w1' := IntWalk.i64_in ((t : Int) + 1) (by omega)
              have m1 : Int.tdiv (T : Int) ((t : Int) + 1) = ((T / (t + 1) : Nat) : Int) := by rw [Int.tdiv_eq_ediv_of_nonneg (by omega)]; push_cast; rfl
              have m2 : Int.tdiv (T : Int) (t : Int) = ((T / t : Nat) : Int) := by rw [Int.tdiv_eq_ediv_of_nonneg (by omega)]; push_cast; rfl
              have n1' : ¬ ((t : Int) + 1 = 0) := by omega
              have n2' : ¬ ((t : Int) = 0) := by omega
              have n3' : ((t : Int) + 1 == 0) = false := beq_eq_false_iff_ne.2 n1'
              have n4' : ((t : Int) == 0) = false := beq_eq_false_iff_ne.2 n2'
              have b1 : T / (t + 1) ≤ T := Nat.div_le_self _ _
              have b2 : T / t ≤ T := Nat.div_le_self _ _
              generalize T / (t + 1) = D1 at *
              generalize T / t = D2 at *
              have w2' := IntWalk.i64_in (D1 : Int) (by omega)
              have w3' := IntWalk.i64_in (D2 : Int) (by omega)
              go_cut [12, 13] (fun lv hv wx => ∃ lo hi : Nat, lv = .int .i64 (lo : Int) ∧ hv = .int .i64 (hi : Int) ∧ lo ≤ X / b ∧ X / b ≤ hi ∧ hi ≤ 65535 ∧ Below wr.heap.size wr wx)
              case first =>
                have hx := HBx2.out
                clear HBx2
                by_cases hD : D2 < 65535
                · have hD1 : (D2 : Int) < 65535 := by omega
                  have hD2 : ¬ (65535 : Int) < (D2 : Int) := by omega
                  have hD3 : (D2 : Int) ≤ 65535 := by omega
                  go_wp2_with fail
                  go_quiet (fail)
                  go_wp2_with fail
                  all_goals (go_meet; exact ⟨D1, D2, rfl, rfl, by omega, by omega, by omega, below_drewN (Below.refl _ _) _⟩)
                · have hD1 : ¬ (D2 : Int) < 65535 := by omega
                  have hD3 : (65535 : Int) ≤ (D2 : Int) := by omega
                  go_wp2_with fail
                  go_quiet (fail)
                  go_wp2_with fail
                  all_goals (go_meet; exact ⟨D1, 65535, rfl, by first | rfl | (exact int_eq (by omega)), by omega, by omega, by omega, below_drewN (Below.refl _ _) _⟩)
              case rest =>
                obtain ⟨lo0, hi0, rfl, rfl, hl1, hl2, hl3, hbc⟩ := hcut
                have HBc := Lib.hid (below_viaD HB2.out hbc)
                have HKc := Lib.hid (blk_below HK2.out hbc (blk_lt HK2.out))
                have HDc := Lib.hid (DS.go HD3.out hbc)
                clear HB2 HK2 HD3 hbc HBx2 HTr2 HX2 qb lpb hkl hkk hge hxb htp htl k4 k5 w1' n1' n2' HGe HBn hcast m1 m2 n3' n4' b1 b2 w2' w3'
                go_wp2_with fail
                go_loopw [12, 13] (fun lv hv wq => ∃ lo hi : Nat, lv = .int .i64 (lo : Int) ∧ hv = .int .i64 (hi : Int) ∧ lo ≤ X / b ∧ X / b ≤ hi ∧ hi ≤ 65535 ∧ Hid (Below w.heap.size w wq) ∧ Hid (wq.heap[g]? = some (.cells (qC (a / b) m (i + 1)) 3 (0, 0))) ∧ Hid (DS wq X x A3 c3)) (fun lv hv _ => (intOf hv - intOf lv).toNat)
                case atStart => exact ⟨lo0, hi0, rfl, rfl, hl1, hl2, hl3, HBc, HKc, HDc⟩
                case round =>
                  obtain ⟨lo, hi, rfl, rfl, q1, q2, q3, HBd, HKd, HDd⟩ := hrel
                  by_cases hlh : lo < hi
                  · have f1 : (lo : Int) < (hi : Int) := by omega
                    obtain ⟨mid, hmid⟩ : ∃ mid, (lo + hi + 1) / 2 = mid := ⟨_, rfl⟩
                    have y1 := IntWalk.i64_in ((lo : Int) + (hi : Int)) (by omega)
                    have y2 := IntWalk.i64_in ((lo : Int) + (hi : Int) + 1) (by omega)
                    have y3 : Int.tdiv ((lo : Int) + (hi : Int) + 1) 2 = (mid : Int) := by rw [Int.tdiv_eq_ediv_of_nonneg (by omega)]; omega
                    have y4 := IntWalk.i64_in ((mid : Int) - 1) (by omega)
                    have y5 : lo < mid := by omega
                    have y6 : mid ≤ hi := by omega
                    have HSc := Lib.hid (r01scale b mid (some ⟨pb, ob, none⟩) cb _ (by rw [HLb.out]; exact HB.out.go HBd.out) (by rw [HLb.out]; omega) (by omega))
                    rw [HLb.out] at HSc
                    clear hmid
                    go_wp2_with fail
                    refine HSc.out.mono ?_
                    rintro ee w5 ⟨A5, c5, rfl, hd5, -, hb5⟩
                    have HBe := Lib.hid (below_viaD HBd.out hb5)
                    have HKe := Lib.hid (blk_below HKd.out hb5 (blk_lt HKd.out))
                    have HDe := Lib.hid (DS.go HDd.out hb5)
                    have hln5 : ln (b * mid) ≤ 200 := by
                      have h1 : b * mid < Bs ^ (1 + lb) := by
                        have hb1 : b < Bs ^ lb := by rw [← HLb.out]; exact ln_lt b
                        have hm1 : b * mid ≤ b * 65535 := Nat.mul_le_mul_left _ (by omega)
                        rw [Nat.pow_add, Nat.pow_one]
                        show b * mid < 65536 * Bs ^ lb
                        generalize Bs ^ lb = P at *
                        omega
                      have := ln_min _ _ h1
                      omega
                    have HLe := Lib.hid (r01less X (b * mid) A3 A5 c3 c5 w5 (by rw [HLx.out]; exact HDe.out) hd5 (by rw [HLx.out]; omega) (by omega))
                    rw [HLx.out] at HLe
                    clear hb5 HSc hd5 HBd HKd HDd hln5
                    go_wp2_with fail
                    refine HLe.out.mono ?_
                    rintro ee w6 ⟨rfl, n6, rfl⟩
                    have HBf := Lib.hid (below_drewN HBe.out n6)
                    have HKf := Lib.hid (show (w5.drewN n6).heap[g]? = _ from HKe.out)
                    have HDf := Lib.hid (show DS (w5.drewN n6) X x A3 c3 from HDe.out)
                    clear HLe HBe HKe HDe
                    by_cases hxm : X < b * mid
                    · have ht : decide (X < b * mid) = true := decide_eq_true hxm
                      have hq : X / b < mid := (Nat.div_lt_iff_lt_mul hb0).2 (by rw [Nat.mul_comm]; exact hxm)
                      rw [ht]
                      clear ht hxm
                      go_wp2
                      go_roundw
                      case rel => exact ⟨lo, mid - 1, rfl, int_eq (by omega), q1, by omega, by omega, HBf, HKf, HDf⟩
                      case measure => simp [intOf]; omega
                    · have ht : decide (X < b * mid) = false := decide_eq_false hxm
                      have hq : mid ≤ X / b := (Nat.le_div_iff_mul_le hb0).2 (by rw [Nat.mul_comm]; omega)
                      rw [ht]
                      clear ht hxm
                      go_wp2
                      go_roundw
                      case rel => exact ⟨mid, hi, rfl, rfl, hq, q2, q3, HBf, HKf, HDf⟩
                      case measure => simp [intOf]; omega
                  · obtain rfl : lo = X / b := by omega
                    have f1 : ¬ ((X / b : Nat) : Int) < (hi : Int) := by omega
                    have him : i < m := by omega
                    have hcg : wr.cell? ⟨g, i, none⟩ = some (.int .i64 0) := by rw [blk_cell HKd.out i, qC_get _ _ _ _ him, if_neg (by omega)]
                    have hfg := blk_free HKd.out i
                    have hmx : b * (X / b) ≤ X := Nat.mul_div_le X b
                    have hsub : X - b * (X / b) = a / Bs ^ i % b := by rw [(HSt.out).2.2, Nat.mod_eq_sub_mul_div]
                    have Hsub := Lib.hid hsub
                    have hqs := qC_set (a / b) m i him
                    rw [(HSt.out).2.1] at hqs
                    have g1 : (0 : Int) ≤ (i : Int) := by omega
                    have g2 : (i : Int) < (m : Int) := by omega
                    clear hsub q1 q2 hlh
                    generalize hqq : X / b = q at *
                    obtain ⟨W9, hW9⟩ : ∃ V, wr.setCell ⟨g, i, none⟩ (.int .i64 (q : Int)) = V := ⟨_, rfl⟩
                    have hk9 := blk_set HKd.out i (.int .i64 (q : Int))
                    rw [hqs, hW9] at hk9
                    have HK9 := Lib.hid hk9
                    have HB9 := Lib.hid (show Below w.heap.size w W9 by rw [← hW9]; exact HBd.out.setCell (p := ⟨g, i, none⟩) hgw _)
                    have HD9 := Lib.hid (show DS W9 X x A3 c3 by rw [← hW9]; exact DS.grownD HDd.out (grown_setCellD _ _ _) (fun ad e _ h => HN3.out ad e (by injection h)))
                    have HSc := Lib.hid (r01scale b q (some ⟨pb, ob, none⟩) cb W9 (by rw [HLb.out]; exact HB.out.go HB9.out) (by rw [HLb.out]; omega) (by omega))
                    rw [HLb.out] at HSc
                    clear hk9 hqs hqq
                    go_wp2_with fail
                    refine HSc.out.mono ?_
                    rintro ee wA ⟨A5, c5, rfl, hd5, -, hb5⟩
                    have HBA := Lib.hid (below_viaD HB9.out hb5)
                    have HKA := Lib.hid (blk_below HK9.out hb5 (blk_lt HK9.out))
                    have HDA := Lib.hid (DS.go HD9.out hb5)
                    have HSu := Lib.hid (r01sub X (b * q) A3 A5 c3 c5 wA (by rw [HLx.out]; exact HDA.out) hd5 (by rw [HLx.out]; omega) hmx)
                    rw [HLx.out] at HSu
                    clear hb5 HSc hd5 HBd HKd HDd HB9 HK9 HD9 hW9
                    go_wp2_with fail
                    refine HSu.out.mono ?_
                    rintro ee wB ⟨A6, c6, rfl, hd6, -, hb6⟩
                    rw [Hsub.out] at hd6
                    have HBB := Lib.hid (below_viaD HBA.out hb6)
                    have HKB := Lib.hid (blk_below HKA.out hb6 (blk_lt HKA.out))
                    have HD6 := Lib.hid hd6
                    clear hd6 hb6 HSu HBA HKA HDA
                    rw [Hsub.out]
                    go_wp2
                    go_roundw
                    case rel => exact ⟨i, c6, A6, by omega, rfl, rfl, HD6, HKB, HBB⟩
                    case measure => simp [intOf]
        · obtain rfl : j = 0 := by omega
          have e5 : a / Bs ^ 0 = a := by simp
          rw [e5] at HR ⊢
          have HDq := Lib.hid (show DS wr (a / b) m (some ⟨g, 0, none⟩) m from ⟨(fun h => by cases h), rd_of_blk HK.out (by rw [qC_all, Nat.mul_one, List.take_of_length_le (by rw [dC_len]; exact Nat.le_refl _)]) (by rw [dC_len]; omega), Nat.le_refl _, by omega⟩)
          have HTq := Lib.hid (r01trim (a / b) m (some ⟨g, 0, none⟩) m wr HQ.out HDq.out (by omega))
          have HDp := Lib.hid (HDq.out.pre (ln (a / b)) (ln_min _ _ HQ.out))
          go_wp2_with fail
          refine HTq.out.mono ?_
          rintro ee w9 ⟨rfl, rfl⟩
          go_wp2
          go_ret2
          exact ⟨_, _, _, _, rfl, HDp.out, HR.out, HBw.out⟩
end Go.Proofs.YtlobdeakgoicpaaDoor
