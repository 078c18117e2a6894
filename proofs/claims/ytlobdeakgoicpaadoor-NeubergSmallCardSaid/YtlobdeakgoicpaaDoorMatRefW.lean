/- The walks of the reference of matchpoints: Reduced, Right, Gets. -/
import Derived.Test.YtlobdeakgoicpaaDoorMatW
namespace Go.Proofs.YtlobdeakgoicpaaDoor
open Go.RowKit

theorem fr_parts (n d : Int) (hn : -1000000000000000 ≤ n ∧ n ≤ 1000000000000000) (hd : 1 ≤ d ∧ d ≤ 1000000000) :
    ∃ (g : Nat) (x y : Int), Int.gcd n d = g ∧ 1 ≤ g ∧ (g : Int) ≤ d ∧ n.tdiv g = x ∧ d.tdiv g = y ∧ d / g = y ∧ (0 ≤ n → n / g = x) ∧ (-1000000000000000 ≤ x ∧ x ≤ 1000000000000000) ∧ (0 ≤ y ∧ y ≤ 1000000000) ∧ fr n d = (x, y) := by
  have hg1 : 1 ≤ Int.gcd n d := Int.gcd_pos_of_ne_zero_right _ (by omega)
  have hdn : ((Int.gcd n d : Nat) : Int) ∣ n := Int.gcd_dvd_left _ _
  have hdd : ((Int.gcd n d : Nat) : Int) ∣ d := Int.gcd_dvd_right _ _
  have hgd : ((Int.gcd n d : Nat) : Int) ≤ d := Int.le_of_dvd (by omega) hdd
  refine ⟨Int.gcd n d, n / Int.gcd n d, d / Int.gcd n d, rfl, hg1, hgd, Int.tdiv_eq_ediv_of_dvd hdn, Int.tdiv_eq_ediv_of_dvd hdd, rfl, fun _ => rfl, ?_, ?_, rfl⟩
  · obtain ⟨k, hk⟩ := hdn
    have hgk : n / ((Int.gcd n d : Nat) : Int) = k := Int.ediv_eq_of_eq_mul_right (by omega) hk
    rw [hgk]
    have h1 : (1 : Int) ≤ ((Int.gcd n d : Nat) : Int) := by omega
    rcases Int.le_total 0 k with h | h
    · have := Int.mul_le_mul_of_nonneg_right h1 h; omega
    · have := Int.mul_le_mul_of_nonneg_right h1 (show 0 ≤ -k by omega)
      have e : ((Int.gcd n d : Nat) : Int) * -k = -(((Int.gcd n d : Nat) : Int) * k) := Int.mul_neg _ _
      omega
  · exact ⟨Int.ediv_nonneg (by omega) (by omega), Int.le_trans (Int.ediv_le_self _ (by omega)) hd.2⟩

set_option maxHeartbeats 2000000 in
theorem reduced_any (n d : Int) (w : World) (hn : -1000000000000000 ≤ n ∧ n ≤ 1000000000000000) (hd : 1 ≤ d ∧ d ≤ 1000000000) :
    Calls Tryd.prog 48 #[.int .i64 n, .int .i64 d] w fun e w' => e = .returned (fV (fr n d)) ∧ Below w.heap.size w w' := by
  obtain ⟨g, x, y, hg, hg1, hgd, e1, e2, e3, e4, hx, hy, hf⟩ := fr_parts n d hn hd
  rw [hf]
  clear hf
  have HG := Lib.hid hg
  have E1 := Lib.hid e1
  have E4 := Lib.hid e4
  clear hg e1 e4
  have hblk : (w.alloc (.cells #[.int .i64 0, .int .i64 0] 23)).heap[w.heap.size]? = _ := blk_new _ rfl
  have hW0 : Below w.heap.size w (w.alloc (.cells #[.int .i64 0, .int .i64 0] 23)) := (Below.refl _ _).alloc (Nat.le_refl _) _
  obtain ⟨m, hm⟩ : ∃ m : Nat, n.natAbs = m := ⟨_, rfl⟩
  obtain ⟨D, rfl⟩ := Int.eq_ofNat_of_zero_le (show 0 ≤ d by omega)
  have hgN : Nat.gcd m D = g := by rw [← HG.out, ← hm]; rfl
  have hgn := Lib.hid hgN
  clear hgN
  have hm2 : m ≤ 1000000000000000 := by omega
  have Hblk := Lib.hid hblk
  clear hblk
  obtain ⟨h0, hmn⟩ | rfl : (n < 0 ∧ -n = (m : Int)) ∨ n = (m : Int) := by omega
  · have h0' : (0 : Int) ≤ (m : Int) := by omega
    have HE := Lib.hid e2
    clear e2
    go_enter Tryd.func48, Tryd.ntmps48
    go_wp2
    go_loopw [5, 6] (fun a b wr => ∃ p q : Nat, p ≤ 1000000000000000 ∧ q ≤ 1000000000000000 ∧ a = .int .i64 (p : Int) ∧ b = .int .i64 (q : Int) ∧ Hid (Nat.gcd p q = g) ∧ Hid (wr.heap[w.heap.size]? = some (.cells #[.int .i64 0, .int .i64 0] 23)) ∧ Below w.heap.size w wr) (fun a _ _ => (intOf a).toNat)
    case atStart => exact ⟨m, D, hm2, by omega, rfl, rfl, hgn, Hblk.out, hW0⟩
    case round =>
      obtain ⟨p, q, hp, hq, rfl, rfl, hpq, hkb, hbel⟩ := hrel
      by_cases hz : p = 0
      · subst hz
        obtain rfl : q = g := by rw [← hpq.out, Nat.gcd_zero_left]
        have t0 : ((0 : Int) != 0) = false := rfl
        have gz : ((q : Int) == 0) = false := beq_eq_false_iff_ne.2 (by omega)
        have gz2 : ¬ q = 0 := by omega
        have E := HE.out
        have E1' := E1.out
        have E4' := E4.out
        have i1 : IntKind.i64.wrap x = x := IntWalk.i64_in _ (by omega)
        have i2 : IntKind.i64.wrap y = y := IntWalk.i64_in _ (by omega)
        have hc0 := blk_cell hkb.out 0
        have hc1 := blk_cell hkb.out 1
        have hf0 := blk_free hkb.out 0
        have hf1 := blk_free hkb.out 1
        go_wp2_with fail
        go_region_held3 (fun _ => True) (trivial) (fail)
        clear i1 i2
        go_wp2
        exact bodyPost_ret (v := .agg #[.int .i64 x, .int .i64 y]) (by simp [results, Tryd.results48, go_sem, hc0, hc1]) rfl ⟨rfl, (by repeat (first | exact Below.refl _ _ | assumption | refine Below.drew ?_ | refine below_drewN ?_ _ | refine Below.alloc ?_ (by first | omega | (simp; done) | (simp; omega)) _ | refine Below.setCell ?_ (by first | omega | (simp; done) | (simp; omega)) _))⟩
      · have t0 : ((p : Int) != 0) = true := bne_iff_ne.2 (by omega)
        have hlt : q % p < p := Nat.mod_lt _ (by omega)
        have hmd : (q : Int) % (p : Int) = ((q % p : Nat) : Int) := (Int.natCast_emod q p).symm
        have hq1 : (1 : Int) ≤ (p : Int) := by omega
        have Hg := Lib.hid (show Nat.gcd (q % p) p = g by rw [← hpq.out, Nat.gcd_rec p q])
        generalize q % p = r at *
        go_wp2
        go_roundw
        case rel => exact ⟨r, p, by omega, hp, int_eq hmd, rfl, Hg, hkb, hbel⟩
        case measure => simp [intOf]; omega
  · have h0' : (0 : Int) ≤ (m : Int) := by omega
    have HE := Lib.hid e2
    have H3 := Lib.hid (E4.out (by omega))
    clear e2
    go_enter Tryd.func48, Tryd.ntmps48
    go_wp2
    go_loopw [5, 6] (fun a b wr => ∃ p q : Nat, p ≤ 1000000000000000 ∧ q ≤ 1000000000000000 ∧ a = .int .i64 (p : Int) ∧ b = .int .i64 (q : Int) ∧ Hid (Nat.gcd p q = g) ∧ Hid (wr.heap[w.heap.size]? = some (.cells #[.int .i64 0, .int .i64 0] 23)) ∧ Below w.heap.size w wr) (fun a _ _ => (intOf a).toNat)
    case atStart => exact ⟨m, D, hm2, by omega, rfl, rfl, hgn, Hblk.out, hW0⟩
    case round =>
      obtain ⟨p, q, hp, hq, rfl, rfl, hpq, hkb, hbel⟩ := hrel
      by_cases hz : p = 0
      · subst hz
        obtain rfl : q = g := by rw [← hpq.out, Nat.gcd_zero_left]
        have t0 : ((0 : Int) != 0) = false := rfl
        have gz : ((q : Int) == 0) = false := beq_eq_false_iff_ne.2 (by omega)
        have gz2 : ¬ q = 0 := by omega
        have E := HE.out
        have E3 := H3.out
        have E1' := E1.out
        have E4' := E4.out
        have i1 : IntKind.i64.wrap x = x := IntWalk.i64_in _ (by omega)
        have i2 : IntKind.i64.wrap y = y := IntWalk.i64_in _ (by omega)
        have hc0 := blk_cell hkb.out 0
        have hc1 := blk_cell hkb.out 1
        have hf0 := blk_free hkb.out 0
        have hf1 := blk_free hkb.out 1
        go_wp2_with fail
        go_region_held3 (fun _ => True) (trivial) (fail)
        clear i1 i2
        go_wp2
        exact bodyPost_ret (v := .agg #[.int .i64 x, .int .i64 y]) (by simp [results, Tryd.results48, go_sem, hc0, hc1]) rfl ⟨rfl, (by repeat (first | exact Below.refl _ _ | assumption | refine Below.drew ?_ | refine below_drewN ?_ _ | refine Below.alloc ?_ (by first | omega | (simp; done) | (simp; omega)) _ | refine Below.setCell ?_ (by first | omega | (simp; done) | (simp; omega)) _))⟩
      · have t0 : ((p : Int) != 0) = true := bne_iff_ne.2 (by omega)
        have hlt : q % p < p := Nat.mod_lt _ (by omega)
        have hmd : (q : Int) % (p : Int) = ((q % p : Nat) : Int) := (Int.natCast_emod q p).symm
        have hq1 : (1 : Int) ≤ (p : Int) := by omega
        have Hg := Lib.hid (show Nat.gcd (q % p) p = g by rw [← hpq.out, Nat.gcd_rec p q])
        generalize q % p = r at *
        go_wp2
        go_roundw
        case rel => exact ⟨r, p, by omega, hp, int_eq hmd, rfl, Hg, hkb, hbel⟩
        case measure => simp [intOf]; omega

/-! ### Right -/
theorem sumTo_mono (l : List Pt) (f : Pt → Int) (hf : ∀ p ∈ l, 0 ≤ f p) (k j : Nat) (h : k + j ≤ l.length) : sumTo l f k ≤ sumTo l f (k + j) := by
  induction j with
  | zero => exact Int.le_refl _
  | succ j ih =>
    have h1 := ih (by omega)
    have h2 := sumTo_succ l f (k + j) (by omega)
    have h3 := hf _ (List.getElem_mem (show k + j < l.length by omega))
    rw [show k + (j + 1) = k + j + 1 by omega, h2]; omega
theorem right_over (l : List Pt) (k : Nat) (hk : k ≤ l.length) (h : 100 < sumTo l (fun p => p.2) k) : rightM l = false := by
  cases hr : rightM l with
  | false => rfl
  | true =>
    have hri := (rightM_iff l).1 hr
    have h1 := sumTo_mono l (fun p => p.2) (fun p hp => by have := (okPt_iff p).1 (hri.2.2.1 p hp); show 0 ≤ p.2; omega) k (l.length - k) (by omega)
    rw [show k + (l.length - k) = l.length by omega, sumTo_all] at h1
    have h2 : sumF l (fun p => p.2) = 100 := hri.2.2.2
    omega

set_option maxHeartbeats 2000000 in
theorem rightR_any (l : List Pt) (A : Option Addr) (c : Nat) (w : World) (hl : Rd w w.heap.size 2 A l.length (pC l)) (hn : l.length ≤ 1000) :
    Calls Tryd.prog 70 #[.slice A l.length c] w fun e w' => e = .returned (.bool (rightM l)) ∧ w' = w := by
  have Hl := Lib.hid hl
  clear hl
  go_enter Tryd.func70, Tryd.ntmps70
  go_wp2
  go_loop [3, 4] (fun s i => ∃ k : Nat, k ≤ l.length ∧ i = .int .i64 (k : Int) ∧ s = .int .i64 (sumTo l (fun p => p.2) k) ∧ 0 ≤ sumTo l (fun p => p.2) k ∧ sumTo l (fun p => p.2) k ≤ 100 ∧ Hid (∀ j (hj : j < l.length), j < k → okPt l[j] = true)) (fun _ i => l.length - (intOf i).toNat)
  case atStart => exact ⟨0, by omega, rfl, rfl, by simp [sumTo], by simp [sumTo], fun j _ h => by omega⟩
  case round =>
    obtain ⟨k, hk, rfl, rfl, hs1, hs2, hok⟩ := hrel
    by_cases hlt : k < l.length
    · obtain ⟨b, off, rfl, hbw, hc1, hc2⟩ := rd_p Hl.out k hlt
      have hi := okPt_iff l[k]
      have hss := sumTo_succ l (fun p => p.2) k hlt
      have hov := right_over l (k + 1) hlt
      by_cases hp : okPt l[k] = true
      · have hb := hi.1 hp
        have Hp := Lib.hid hp
        clear hi hp
        generalize l[k].1 = x at hc1 hb
        have hss' : sumTo l (fun p => p.2) (k + 1) = sumTo l (fun p => p.2) k + l[k].2 := hss
        clear hss
        generalize l[k].2 = y at hc2 hb hss'
        have Hs := Lib.hid hss'
        clear hss'
        by_cases h100 : 100 < sumTo l (fun p => p.2) k + y
        · have hf := Lib.hid (hov (by rw [Hs.out]; exact h100))
          clear hov
          generalize sumTo l (fun p => p.2) k = S at hs1 hs2 h100 Hs
          go_wp2
          go_ret
          exact ⟨by rw [hf.out]; rfl, rfl⟩
        · have HS2 := Lib.hid (show 0 ≤ sumTo l (fun p => p.2) (k + 1) ∧ sumTo l (fun p => p.2) (k + 1) ≤ 100 by rw [Hs.out]; omega)
          clear hov
          generalize sumTo l (fun p => p.2) k = S at hs1 hs2 h100 Hs
          go_wp2
          go_round
          case rel =>
            refine ⟨k + 1, by omega, by go_num, int_eq Hs.out.symm, HS2.out.1, HS2.out.2, fun j hj h => ?_⟩
            by_cases e : j = k
            · subst e; exact Hp.out
            · exact hok.out j hj (by omega)
          case measure => simp [intOf]; omega
      · have hf := Lib.hid (right_bad l k hlt hp)
        have hb : ¬ ((1 ≤ l[k].2 ∧ l[k].2 ≤ 100) ∧ -10000 ≤ l[k].1 ∧ l[k].1 ≤ 10000) := fun h => hp (hi.2 h)
        clear hi hp hss hov
        generalize l[k].1 = x at hc1 hb
        generalize l[k].2 = y at hc2 hb
        have Hb := Lib.hid hb
        clear hb
        generalize sumTo l (fun p => p.2) k = S at hs1 hs2
        go_wp2
        all_goals first
          | (go_ret
             exact ⟨by rw [hf.out]; rfl, rfl⟩)
          | (exfalso; have := Hb.out; omega)
    · obtain rfl : k = l.length := by omega
      have hall : ∀ p ∈ l, okPt p = true := fun p hp => by obtain ⟨j, hj, rfl⟩ := List.getElem_of_mem hp; exact hok.out j hj hj
      have hrm : rightM l = (decide (1 ≤ l.length) && decide (l.length ≤ 4) && (sumTo l (fun p => p.2) l.length == 100)) := by
        unfold rightM
        rw [List.all_eq_true.2 hall, sumTo_all, Bool.and_true]; rfl
      have hz : l.length = 0 → sumTo l (fun p => p.2) l.length = 0 := fun h => by rw [h]; rfl
      by_cases h100 : sumTo l (fun p => p.2) l.length = 100
      · rw [h100] at hrm hz
        by_cases h4 : l.length ≤ 4
        · have hf := Lib.hid (show rightM l = true by rw [hrm, decide_eq_true (show 1 ≤ l.length by omega), decide_eq_true h4]; rfl)
          have t4 : decide ((l.length : Int) ≤ 4) = true := decide_eq_true (by omega)
          rw [h100]
          clear hrm hz h100 hall hs1 hs2
          go_wp2
          go_ret
          exact ⟨by rw [hf.out]; rfl, rfl⟩
        · have hf := Lib.hid (show rightM l = false by rw [hrm, decide_eq_false h4]; simp)
          have t4 : decide ((l.length : Int) ≤ 4) = false := decide_eq_false (by omega)
          rw [h100]
          clear hrm hz h100 hall hs1 hs2
          go_wp2
          go_ret
          exact ⟨by rw [hf.out]; rfl, rfl⟩
      · have hb := beq_eq_false_iff_ne.2 h100
        have hf := Lib.hid (show rightM l = false by rw [hrm, hb]; simp)
        clear hrm hz h100 hall
        generalize sumTo l (fun p => p.2) l.length = S at hs1 hs2 hb
        go_wp2
        go_ret
        exact ⟨by rw [hf.out]; rfl, rfl⟩

/-! ### Gets -/
def cF (x : Int) (q : Pt) : Int := q.2 * cmpG x q.1
theorem gB_cF (x : Int) (b : List Pt) : gB x b = sumF b (cF x) := rfl
def aF (b : List Pt) (p : Pt) : Int := p.2 * gB p.1 b

set_option maxHeartbeats 4000000 in
set_option maxRecDepth 100000 in
theorem gets_any (a b : List Pt) (A B : Option Addr) (ca cb : Nat) (w : World) (ha : Rd w w.heap.size 2 A a.length (pC a)) (hb : Rd w w.heap.size 2 B b.length (pC b)) (hra : rightM a = true) (hrb : rightM b = true) :
    Calls Tryd.prog 89 #[.slice A a.length ca, .slice B b.length cb] w fun e w' => e = .returned (.int .i64 (gAB a b)) ∧ ∃ n, w' = w.drewN n := by
  have hria := (rightM_iff a).1 hra
  have hrib := (rightM_iff b).1 hrb
  have hna : a.length ≤ 4 := hria.2.1
  have hnb : b.length ≤ 4 := hrib.2.1
  have HOa := Lib.hid hria.2.2.1
  have HOb := Lib.hid hrib.2.2.1
  have hbx := fun x => gB_bd x b hrb
  have Hbx := Lib.hid hbx
  have Ha := Lib.hid ha
  have Hb := Lib.hid hb
  clear hria hrib ha hb hra hrb hbx
  go_enter Tryd.func89, Tryd.ntmps89
  go_wp2
  go_loopw [5, 6] (fun s i wr => ∃ k nq : Nat, k ≤ a.length ∧ i = .int .i64 (k : Int) ∧ s = .int .i64 (sumTo a (aF b) k) ∧ wr = w.drewN nq) (fun _ i _ => a.length - (intOf i).toNat)
  case atStart => exact ⟨0, 0, by omega, rfl, rfl, rfl⟩
  case round =>
    obtain ⟨k, nq, hk, rfl, rfl, rfl⟩ := hrel
    have hS0 := sumTo_bd a (aF b) 80000 (fun p hp => by
      have h1 := (okPt_iff p).1 (HOa.out p hp)
      exact mulB (X := 100) (Y := 800) (by omega) (Hbx.out p.1)) k hk
    by_cases hlt : k < a.length
    · obtain ⟨ba, oa, rfl, hba, hc1, hc2⟩ := rd_p Ha.out k hlt
      have hp := (okPt_iff a[k]).1 (HOa.out _ (List.getElem_mem hlt))
      have Hs := Lib.hid (show sumTo a (aF b) (k + 1) = sumTo a (aF b) k + a[k].2 * sumF b (cF a[k].1) from sumTo_succ a (aF b) k hlt)
      generalize a[k].1 = x at hc1 hp Hs
      generalize a[k].2 = y at hc2 hp Hs
      have hj1 : (k : Int) < (a.length : Int) := by omega
      have hj2 : (0 : Int) ≤ (k : Int) := by omega
      go_wp2_with fail
      go_loopw [5, 7] (fun s j wr => ∃ m mq : Nat, m ≤ b.length ∧ j = .int .i64 (m : Int) ∧ s = .int .i64 (sumTo a (aF b) k + y * sumTo b (cF x) m) ∧ wr = w.drewN mq) (fun _ j _ => b.length - (intOf j).toNat)
      case atStart => exact ⟨0, nq, by omega, rfl, by simp [sumTo], rfl⟩
      case round =>
        obtain ⟨m, mq, hm, rfl, rfl, rfl⟩ := hrel
        have hT := sumTo_bd b (cF x) 200 (fun q hq => by
          have h1 := (okPt_iff q).1 (HOb.out q hq)
          exact mulB (X := 100) (Y := 2) (by omega) (cmpG_bd x q.1)) m hm
        have hyT := mulB (x := y) (y := sumTo b (cF x) m) (X := 100) (Y := 800) (by omega) (by omega)
        by_cases hlt2 : m < b.length
        · obtain ⟨bb, ob, rfl, hbb, hd1, hd2⟩ := rd_p Hb.out m hlt2
          have hq := (okPt_iff b[m]).1 (HOb.out _ (List.getElem_mem hlt2))
          have Hs2 := Lib.hid (show sumTo b (cF x) (m + 1) = sumTo b (cF x) m + b[m].2 * cmpG x b[m].1 from sumTo_succ b (cF x) m hlt2)
          generalize b[m].1 = u at hd1 hq Hs2
          generalize b[m].2 = v at hd2 hq Hs2
          have hj3 : (m : Int) < (b.length : Int) := by omega
          have hj4 : (0 : Int) ≤ (m : Int) := by omega
          have hyv := mulB (x := y) (y := v) (X := 100) (Y := 100) (by omega) (by omega)
          have hS : 0 ≤ sumTo a (aF b) k + y * sumTo b (cF x) m ∧ sumTo a (aF b) k + y * sumTo b (cF x) m ≤ 1000000 := by omega
          have Hn := Lib.hid (show sumTo a (aF b) k + y * sumTo b (cF x) (m + 1) = (sumTo a (aF b) k + y * sumTo b (cF x) m) + y * v * cmpG x u by rw [Hs2.out]; grind)
          clear hS0 hT hyT
          generalize sumTo a (aF b) k + y * sumTo b (cF x) m = S at hS Hn
          have h2 : 2 * y * v = 2 * (y * v) := by grind
          have H2 := Lib.hid h2
          have hyv2 : 0 ≤ 2 * y * v ∧ 2 * y * v ≤ 20000 := by omega
          clear h2
          rcases Int.lt_trichotomy x u with h | h | h
          · have HN := Lib.hid (show sumTo a (aF b) k + y * sumTo b (cF x) (m + 1) = S by rw [Hn.out, cmpG_lt h]; simp)
            have t1 : decide (u < x) = false := decide_eq_false (by omega)
            have t2 : (x == u) = false := beq_eq_false_iff_ne.2 (by omega)
            go_wp2
            go_quiet (fail)
            go_wp2
            go_quiet (fail)
            go_wp2
            go_roundw
            case rel => exact ⟨m + 1, _, by omega, by go_num, int_eq HN.out.symm, rfl⟩
            case measure => simp [intOf]; omega
          · subst h
            have HN := Lib.hid (show sumTo a (aF b) k + y * sumTo b (cF x) (m + 1) = S + y * v by rw [Hn.out, cmpG_eq]; simp)
            have t1 : decide (x < x) = false := decide_eq_false (by omega)
            have i1 : IntKind.i64.wrap (y * v) = y * v := IntWalk.i64_in _ (by omega)
            have i2 : IntKind.i64.wrap (S + y * v) = S + y * v := IntWalk.i64_in _ (by omega)
            go_wp2
            go_quiet (fail)
            go_wp2
            go_quiet (fail)
            go_wp2
            go_quiet (fail)
            clear i1 i2
            go_wp2
            go_roundw
            case rel => exact ⟨m + 1, _, by omega, by go_num, int_eq HN.out.symm, rfl⟩
            case measure => simp [intOf]; omega
          · have HN := Lib.hid (show sumTo a (aF b) k + y * sumTo b (cF x) (m + 1) = S + 2 * y * v by rw [Hn.out, cmpG_gt h, H2.out]; grind)
            have t1 : decide (u < x) = true := decide_eq_true h
            have t2 : (x == u) = false := beq_eq_false_iff_ne.2 (by omega)
            have i0 : IntKind.i64.wrap (2 * y) = 2 * y := IntWalk.i64_in _ (by omega)
            have i1 : IntKind.i64.wrap (2 * y * v) = 2 * y * v := IntWalk.i64_in _ (by omega)
            have i2 : IntKind.i64.wrap (S + 2 * y * v) = S + 2 * y * v := IntWalk.i64_in _ (by omega)
            go_wp2
            go_quiet (fail)
            go_wp2
            go_quiet (fail)
            go_wp2
            go_quiet (fail)
            clear i0 i1 i2
            go_wp2
            go_roundw
            case rel => exact ⟨m + 1, _, by omega, by go_num, int_eq HN.out.symm, rfl⟩
            case measure => simp [intOf]; omega
        · obtain rfl : m = b.length := by omega
          have HN := Lib.hid (show sumTo a (aF b) (k + 1) = sumTo a (aF b) k + y * sumTo b (cF x) b.length by rw [Hs.out, sumTo_all])
          generalize sumTo a (aF b) k + y * sumTo b (cF x) b.length = S at HN
          go_wp2
          go_roundw
          case rel => exact ⟨k + 1, mq, by omega, by go_num, int_eq HN.out.symm, rfl⟩
          case measure => simp [intOf]; omega
    · obtain rfl : k = a.length := by omega
      have HE := Lib.hid (show sumTo a (aF b) a.length = gAB a b from sumTo_all a (aF b))
      go_wp2
      go_ret
      exact ⟨ret_int HE.out, nq, rfl⟩

end Go.Proofs.YtlobdeakgoicpaaDoor
