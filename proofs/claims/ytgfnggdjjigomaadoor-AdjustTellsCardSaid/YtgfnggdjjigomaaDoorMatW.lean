/- The walks of the package match: Compare of two integers, Right, sums over parts, what a result gets from another one. -/
import Derived.Test.YtgfnggdjjigomaaDoorFracW
import Derived.Test.YtgfnggdjjigomaaDoorAppend
namespace Go.Proofs.YtgfnggdjjigomaaDoor
open Go.RowKit

/-! ### Slices of parts -/
def pC (l : List Pt) : List Value := l.flatMap fun b => [.int .i64 b.1, .int .i64 b.2]
theorem pC_len (l : List Pt) : (pC l).length = l.length * 2 := by
  induction l with
  | nil => rfl
  | cons b l ih => simp [pC] at ih ⊢; omega
theorem pC_get (l : List Pt) : ∀ (k : Nat) (h : k < l.length), (pC l)[k * 2]? = some (.int .i64 l[k].1) ∧ (pC l)[k * 2 + 1]? = some (.int .i64 l[k].2) := by
  induction l with
  | nil => intro k h; simp at h
  | cons b l ih =>
    intro k h
    have e : pC (b :: l) = [.int .i64 b.1, .int .i64 b.2] ++ pC l := rfl
    rw [e]
    cases k with
    | zero => exact ⟨rfl, rfl⟩
    | succ k =>
      have := ih k (by simpa using h)
      rw [List.getElem?_append_right (by simp; omega), List.getElem?_append_right (by simp; omega)]
      simpa [show (k + 1) * 2 - 2 = k * 2 by omega, show (k + 1) * 2 + 1 - 2 = k * 2 + 1 by omega] using this
theorem pC_snoc (l : List Pt) (p : Pt) : pC (l ++ [p]) = pC l ++ [.int .i64 p.1, .int .i64 p.2] := by simp [pC]
theorem pC_one (l : List Pt) : ∀ u ∈ pC l, u.oneCell' = true := by
  intro u hu
  obtain ⟨p, _, hp⟩ := List.mem_flatMap.1 hu
  simp at hp
  rcases hp with rfl | rfl <;> rfl
theorem rd_p {w : World} {B : Nat} {A : Option Addr} {l : List Pt} (h : Rd w B 2 A l.length (pC l)) (k : Nat) (hk : k < l.length) :
    ∃ b off, A = some ⟨b, off, none⟩ ∧ b < B ∧ w.cell? ⟨b, off + k * 2, none⟩ = some (.int .i64 l[k].1) ∧ w.cell? ⟨b, off + k * 2 + 1, none⟩ = some (.int .i64 l[k].2) := by
  obtain ⟨b, off, e, hb, hc⟩ := h.pos (by omega)
  obtain ⟨h1, h2⟩ := pC_get l k hk
  have hl := pC_len l
  exact ⟨b, off, e, hb, (hc _ (by omega)).trans h1, by rw [Nat.add_assoc]; exact (hc _ (by omega)).trans h2⟩

/-! ### Comparing integers -/
def cmpI (p q : Int) : Int := if p < q then -1 else if q < p then 1 else 0
theorem cmpI_G (p q : Int) : 1 + cmpI p q = cmpG p q := by unfold cmpI cmpG; repeat' split <;> omega
theorem cmpI_bd (p q : Int) : -1 ≤ cmpI p q ∧ cmpI p q ≤ 1 := by unfold cmpI; repeat' split <;> omega

set_option maxHeartbeats 400000 in
theorem nan_any (p : Int) (w : World) : Calls Tryd.prog 94 #[.int .i64 p] w fun e w' => e = .returned (.bool false) ∧ w = w' := by
  go_enter Tryd.func94, Tryd.ntmps94
  go_wp2
  go_ret
  exact ⟨rfl, rfl⟩

set_option maxHeartbeats 400000 in
theorem icmp_any (p q : Int) (w : World) : Calls Tryd.prog 80 #[.int .i64 p, .int .i64 q] w fun e w' => e = .returned (.int .i64 (cmpI p q)) ∧ w' = w := by
  obtain ⟨c, hc⟩ : ∃ c, cmpI p q = c := ⟨_, rfl⟩
  rw [hc]
  have Hc := Lib.hid hc
  clear hc
  rcases Int.lt_trichotomy p q with h | h | h
  · obtain rfl : c = -1 := by rw [← Hc.out]; unfold cmpI; rw [if_pos h]
    go_enter Tryd.func80, Tryd.ntmps80
    go_wp2_with (go_at_call 94; refine (nan_any _ _).mono ?_; rintro e _ ⟨rfl, rfl⟩)
    go_ret
    exact ⟨rfl, rfl⟩
  · subst h
    obtain rfl : c = 0 := by rw [← Hc.out]; unfold cmpI; rw [if_neg (by omega), if_neg (by omega)]
    go_enter Tryd.func80, Tryd.ntmps80
    go_wp2_with (go_at_call 94; refine (nan_any _ _).mono ?_; rintro e _ ⟨rfl, rfl⟩)
    go_ret
    exact ⟨rfl, rfl⟩
  · obtain rfl : c = 1 := by rw [← Hc.out]; unfold cmpI; rw [if_neg (by omega), if_pos h]
    go_enter Tryd.func80, Tryd.ntmps80
    go_wp2_with (go_at_call 94; refine (nan_any _ _).mono ?_; rintro e _ ⟨rfl, rfl⟩)
    go_ret
    exact ⟨rfl, rfl⟩

/-! ### Sums over parts -/
set_option maxHeartbeats 1000000 in
theorem sumP_R ( l : List Pt) (f : Pt → Int) (A : Option Addr) (c : Nat) (w : World) (hl : Rd w w.heap.size 2 A l.length (pC l)) (hn : l.length ≤ 1000) (hf : ∀ p ∈ l, 0 ≤ f p ∧ f p ≤ 1000000)
    (hcall : ∀ W : World, Below w.heap.size w W → ∀ p ∈ l, Calls Tryd.prog 55 #[.agg #[.int .i64 p.1, .int .i64 p.2]] W fun e w' => e = .returned (.int .i64 (f p)) ∧ Below W.heap.size W w') :
    Calls Tryd.prog 54 #[.slice A l.length c, .func (.func 55) #[] #[]] w fun e w' => e = .returned (.int .i64 (sumF l f)) ∧ Below w.heap.size w w' := by
  have HF := Lib.hid hf
  have HC := Lib.hid hcall
  clear hf hcall
  go_enter Tryd.func54, Tryd.ntmps54
  go_wp2
  go_loopw [5, 10] (fun s i wr => ∃ k : Nat, k ≤ l.length ∧ i = .int .i64 (k : Int) ∧ s = .int .i64 (sumTo l f k) ∧ Below w.heap.size w wr) (fun _ i _ => l.length - (intOf i).toNat)
  case atStart => exact ⟨0, by omega, rfl, rfl, Below.refl _ _⟩
  case round =>
    obtain ⟨k, hk, rfl, rfl, hbel⟩ := hrel
    by_cases hlt : k < l.length
    · obtain ⟨b, off, rfl, hbw, hc1, hc2⟩ := rd_p hl k hlt
      have hd1 := (bcell hbel b (off + k * 2) hbw).trans hc1
      have hd2 := (bcell hbel b (off + k * 2 + 1) hbw).trans hc2
      have hsb := sumTo_bd l f 1000000 HF.out k hk
      have hfb := HF.out _ (List.getElem_mem hlt)
      have Hs := Lib.hid (sumTo_succ l f k hlt)
      have HQ := Lib.hid (fun W hW => HC.out W hW _ (List.getElem_mem hlt))
      have hsr := hbel.size
      clear hc1 hc2
      generalize l[k] = p at hd1 hd2 hfb Hs HQ
      obtain ⟨p1, p2⟩ := p
      generalize f (p1, p2) = y at hfb Hs HQ
      go_wp2_with fail
      refine (HQ.out _ (by repeat (first | exact Below.refl _ _ | assumption | refine Below.drew ?_ | refine below_drewN ?_ _ | refine Below.alloc ?_ (by first | omega | (simp; done) | (simp; omega)) _ | refine Below.setCell ?_ (by first | omega | (simp; done) | (simp; omega)) _))).mono ?_
      rintro e w1 ⟨rfl, hb1⟩
      have hb2 : Below w.heap.size w w1 := (hbel.alloc hsr _).trans (hb1.mono (by simp; omega))
      go_wp2
      go_roundw
      case rel => exact ⟨k + 1, by omega, by go_num, int_eq Hs.out.symm, hb2⟩
      case measure => simp [intOf]; omega
    · obtain rfl : k = l.length := by omega
      have Hs := Lib.hid (sumTo_all l f)
      go_wp2
      go_ret
      exact ⟨ret_int Hs.out, hbel⟩

set_option maxHeartbeats 1000000 in
theorem sumP_A (cp : Addr) ( l : List Pt) (f : Pt → Int) (A : Option Addr) (c : Nat) (w : World) (hl : Rd w w.heap.size 2 A l.length (pC l)) (hn : l.length ≤ 1000) (hf : ∀ p ∈ l, 0 ≤ f p ∧ f p ≤ 1000000)
    (hcall : ∀ W : World, Below w.heap.size w W → ∀ p ∈ l, Calls Tryd.prog 78 #[.agg #[.int .i64 p.1, .int .i64 p.2], .pointer (some cp)] W fun e w' => e = .returned (.int .i64 (f p)) ∧ Below W.heap.size W w') :
    Calls Tryd.prog 54 #[.slice A l.length c, .func (.func 78) #[] #[.pointer (some cp)]] w fun e w' => e = .returned (.int .i64 (sumF l f)) ∧ Below w.heap.size w w' := by
  have HF := Lib.hid hf
  have HC := Lib.hid hcall
  clear hf hcall
  go_enter Tryd.func54, Tryd.ntmps54
  go_wp2
  go_loopw [5, 10] (fun s i wr => ∃ k : Nat, k ≤ l.length ∧ i = .int .i64 (k : Int) ∧ s = .int .i64 (sumTo l f k) ∧ Below w.heap.size w wr) (fun _ i _ => l.length - (intOf i).toNat)
  case atStart => exact ⟨0, by omega, rfl, rfl, Below.refl _ _⟩
  case round =>
    obtain ⟨k, hk, rfl, rfl, hbel⟩ := hrel
    by_cases hlt : k < l.length
    · obtain ⟨b, off, rfl, hbw, hc1, hc2⟩ := rd_p hl k hlt
      have hd1 := (bcell hbel b (off + k * 2) hbw).trans hc1
      have hd2 := (bcell hbel b (off + k * 2 + 1) hbw).trans hc2
      have hsb := sumTo_bd l f 1000000 HF.out k hk
      have hfb := HF.out _ (List.getElem_mem hlt)
      have Hs := Lib.hid (sumTo_succ l f k hlt)
      have HQ := Lib.hid (fun W hW => HC.out W hW _ (List.getElem_mem hlt))
      have hsr := hbel.size
      clear hc1 hc2
      generalize l[k] = p at hd1 hd2 hfb Hs HQ
      obtain ⟨p1, p2⟩ := p
      generalize f (p1, p2) = y at hfb Hs HQ
      go_wp2_with fail
      refine (HQ.out _ (by repeat (first | exact Below.refl _ _ | assumption | refine Below.drew ?_ | refine below_drewN ?_ _ | refine Below.alloc ?_ (by first | omega | (simp; done) | (simp; omega)) _ | refine Below.setCell ?_ (by first | omega | (simp; done) | (simp; omega)) _))).mono ?_
      rintro e w1 ⟨rfl, hb1⟩
      have hb2 : Below w.heap.size w w1 := (hbel.alloc hsr _).trans (hb1.mono (by simp; omega))
      go_wp2
      go_roundw
      case rel => exact ⟨k + 1, by omega, by go_num, int_eq Hs.out.symm, hb2⟩
      case measure => simp [intOf]; omega
    · obtain rfl : k = l.length := by omega
      have Hs := Lib.hid (sumTo_all l f)
      go_wp2
      go_ret
      exact ⟨ret_int Hs.out, hbel⟩

set_option maxHeartbeats 1000000 in
theorem sumP_B (cp : Addr) ( l : List Pt) (f : Pt → Int) (A : Option Addr) (c : Nat) (w : World) (hl : Rd w w.heap.size 2 A l.length (pC l)) (hn : l.length ≤ 1000) (hf : ∀ p ∈ l, 0 ≤ f p ∧ f p ≤ 1000000)
    (hcall : ∀ W : World, Below w.heap.size w W → ∀ p ∈ l, Calls Tryd.prog 79 #[.agg #[.int .i64 p.1, .int .i64 p.2], .pointer (some cp)] W fun e w' => e = .returned (.int .i64 (f p)) ∧ Below W.heap.size W w') :
    Calls Tryd.prog 54 #[.slice A l.length c, .func (.func 79) #[] #[.pointer (some cp)]] w fun e w' => e = .returned (.int .i64 (sumF l f)) ∧ Below w.heap.size w w' := by
  have HF := Lib.hid hf
  have HC := Lib.hid hcall
  clear hf hcall
  go_enter Tryd.func54, Tryd.ntmps54
  go_wp2
  go_loopw [5, 10] (fun s i wr => ∃ k : Nat, k ≤ l.length ∧ i = .int .i64 (k : Int) ∧ s = .int .i64 (sumTo l f k) ∧ Below w.heap.size w wr) (fun _ i _ => l.length - (intOf i).toNat)
  case atStart => exact ⟨0, by omega, rfl, rfl, Below.refl _ _⟩
  case round =>
    obtain ⟨k, hk, rfl, rfl, hbel⟩ := hrel
    by_cases hlt : k < l.length
    · obtain ⟨b, off, rfl, hbw, hc1, hc2⟩ := rd_p hl k hlt
      have hd1 := (bcell hbel b (off + k * 2) hbw).trans hc1
      have hd2 := (bcell hbel b (off + k * 2 + 1) hbw).trans hc2
      have hsb := sumTo_bd l f 1000000 HF.out k hk
      have hfb := HF.out _ (List.getElem_mem hlt)
      have Hs := Lib.hid (sumTo_succ l f k hlt)
      have HQ := Lib.hid (fun W hW => HC.out W hW _ (List.getElem_mem hlt))
      have hsr := hbel.size
      clear hc1 hc2
      generalize l[k] = p at hd1 hd2 hfb Hs HQ
      obtain ⟨p1, p2⟩ := p
      generalize f (p1, p2) = y at hfb Hs HQ
      go_wp2_with fail
      refine (HQ.out _ (by repeat (first | exact Below.refl _ _ | assumption | refine Below.drew ?_ | refine below_drewN ?_ _ | refine Below.alloc ?_ (by first | omega | (simp; done) | (simp; omega)) _ | refine Below.setCell ?_ (by first | omega | (simp; done) | (simp; omega)) _))).mono ?_
      rintro e w1 ⟨rfl, hb1⟩
      have hb2 : Below w.heap.size w w1 := (hbel.alloc hsr _).trans (hb1.mono (by simp; omega))
      go_wp2
      go_roundw
      case rel => exact ⟨k + 1, by omega, by go_num, int_eq Hs.out.symm, hb2⟩
      case measure => simp [intOf]; omega
    · obtain rfl : k = l.length := by omega
      have Hs := Lib.hid (sumTo_all l f)
      go_wp2
      go_ret
      exact ⟨ret_int Hs.out, hbel⟩

/-! ### Right -/
set_option maxHeartbeats 400000 in
theorem right1_any (p q : Int) (w : World) : Calls Tryd.prog 55 #[.agg #[.int .i64 p, .int .i64 q]] w fun e w' => e = .returned (.int .i64 q) ∧ Below w.heap.size w w' := by
  go_enter Tryd.func55, Tryd.ntmps55
  go_wp2
  go_ret
  exact ⟨rfl, (by repeat (first | exact Below.refl _ _ | assumption | refine Below.drew ?_ | refine below_drewN ?_ _ | refine Below.alloc ?_ (by first | omega | (simp; done) | (simp; omega)) _ | refine Below.setCell ?_ (by first | omega | (simp; done) | (simp; omega)) _))⟩

theorem right_len (l : List Pt) (h : l.length < 1 ∨ 4 < l.length) : rightM l = false := by
  cases hr : rightM l with
  | false => rfl
  | true => have := (rightM_iff l).1 hr; omega
theorem right_bad (l : List Pt) (k : Nat) (hk : k < l.length) (h : ¬ okPt l[k] = true) : rightM l = false := by
  cases hr : rightM l with
  | false => rfl
  | true => exact absurd (((rightM_iff l).1 hr).2.2.1 _ (List.getElem_mem hk)) h

set_option maxHeartbeats 1000000 in
theorem rightM_any (l : List Pt) (A : Option Addr) (c : Nat) (w : World) (hl : Rd w w.heap.size 2 A l.length (pC l)) (hn : l.length ≤ 4611686018427387904) :
    Calls Tryd.prog 28 #[.slice A l.length c] w fun e w' => e = .returned (.bool (rightM l)) ∧ Below w.heap.size w w' := by
  by_cases h1 : l.length < 1
  · rw [right_len l (.inl h1)]
    go_enter Tryd.func28, Tryd.ntmps28
    go_wp2
    go_ret
    exact ⟨rfl, Below.refl _ _⟩
  by_cases h2 : 4 < l.length
  · rw [right_len l (.inr h2)]
    go_enter Tryd.func28, Tryd.ntmps28
    go_wp2
    go_ret
    exact ⟨rfl, Below.refl _ _⟩
  have hn4 : 1 ≤ l.length ∧ l.length ≤ 4 := by omega
  clear h1 h2 hn
  have Hl := Lib.hid hl
  go_enter Tryd.func28, Tryd.ntmps28
  go_wp2
  go_loopw [15] (fun i wr => ∃ k : Nat, k ≤ l.length ∧ i = .int .i64 (k : Int) ∧ Hid (∀ j (hj : j < l.length), j < k → okPt l[j] = true) ∧ Below w.heap.size w wr) (fun i _ => l.length - (intOf i).toNat)
  case atStart => exact ⟨0, by omega, rfl, fun j _ h => by omega, Below.refl _ _⟩
  case round =>
    obtain ⟨k, hk, rfl, hok, hbel⟩ := hrel
    have hsr := hbel.size
    by_cases hlt : k < l.length
    · obtain ⟨b, off, rfl, hbw, hc1, hc2⟩ := rd_p hl k hlt
      have hd1 := (bcell hbel b (off + k * 2) hbw).trans hc1
      have hd2 := (bcell hbel b (off + k * 2 + 1) hbw).trans hc2
      have hi := okPt_iff l[k]
      clear hc1 hc2
      by_cases hp : okPt l[k] = true
      · have hb := hi.1 hp
        have Hp := Lib.hid hp
        clear hi hp
        generalize l[k].1 = x at hd1 hb
        generalize l[k].2 = y at hd2 hb
        go_wp2
        go_roundw
        case rel =>
          refine ⟨k + 1, by omega, by go_num, fun j hj h => ?_, (by repeat (first | exact Below.refl _ _ | assumption | refine Below.drew ?_ | refine below_drewN ?_ _ | refine Below.alloc ?_ (by first | omega | (simp; done) | (simp; omega)) _ | refine Below.setCell ?_ (by first | omega | (simp; done) | (simp; omega)) _))⟩
          by_cases e : j = k
          · subst e; exact Hp.out
          · exact hok.out j hj (by omega)
        case measure => simp [intOf]; omega
      · have hf := Lib.hid (right_bad l k hlt hp)
        have hb : ¬ ((1 ≤ l[k].2 ∧ l[k].2 ≤ 100) ∧ -10000 ≤ l[k].1 ∧ l[k].1 ≤ 10000) := fun h => hp (hi.2 h)
        clear hi hp
        generalize l[k].1 = x at hd1 hb
        generalize l[k].2 = y at hd2 hb
        have Hb := Lib.hid hb
        clear hb
        go_wp2
        all_goals first
          | (go_ret
             exact ⟨by rw [hf.out]; rfl, (by repeat (first | exact Below.refl _ _ | assumption | refine Below.drew ?_ | refine below_drewN ?_ _ | refine Below.alloc ?_ (by first | omega | (simp; done) | (simp; omega)) _ | refine Below.setCell ?_ (by first | omega | (simp; done) | (simp; omega)) _))⟩)
          | (exfalso; have := Hb.out; omega)
    · obtain rfl : k = l.length := by omega
      have hall : ∀ p ∈ l, okPt p = true := fun p hp => by obtain ⟨j, hj, rfl⟩ := List.getElem_of_mem hp; exact hok.out j hj hj
      have hf := Lib.hid (show rightM l = (sumW l == 100) by
        unfold rightM
        rw [decide_eq_true hn4.1, decide_eq_true hn4.2, List.all_eq_true.2 hall]; rfl)
      have hl2 := (hl.below hbel).more hsr
      have HB := Lib.hid (show ∀ p ∈ l, 0 ≤ (fun p : Pt => p.2) p ∧ (fun p : Pt => p.2) p ≤ 1000000 from fun p hp => by have := (okPt_iff p).1 (hall p hp); show 0 ≤ p.2 ∧ p.2 ≤ 1000000; omega)
      clear hall hl
      go_wp2_with fail
      refine (sumP_R l (fun p => p.2) A c _ hl2 (by omega) HB.out (fun W _ p _ => right1_any p.1 p.2 W)).mono ?_
      rintro e w1 ⟨rfl, hb1⟩
      go_wp2
      go_ret
      exact ⟨by rw [hf.out]; rfl, hbel.trans (hb1.mono hsr)⟩

/-! ### What a result gets from another one -/
/-- What the tied table match.gets holds. -/
def Laid (w : World) : Prop := ∃ t fr, w.heap[0]? = some (.cells #[.int .i64 0, .int .i64 1, .int .i64 2] t fr)
theorem Laid.lt {w : World} (h : Laid w) : 0 < w.heap.size := by
  obtain ⟨t, fr, h⟩ := h; exact blk_lt h
theorem Laid.below {w w' : World} {B : Nat} (h : Laid w) (hb : Below B w w') (hB : 0 < B) : Laid w' := by
  obtain ⟨t, fr, h⟩ := h; exact ⟨t, fr, blk_below h hb hB⟩
theorem Laid.cell {w : World} (h : Laid w) (p q : Int) : w.cell? ⟨0, (1 + cmpI p q).toNat, none⟩ = some (.int .i64 (cmpG p q)) := by
  obtain ⟨t, fr, h⟩ := h
  rw [cmpI_G, blk_cell h]
  unfold cmpG
  repeat' split
  all_goals rfl

set_option maxHeartbeats 1000000 in
theorem against11_any (x y p q : Int) (g : Nat) (w : World) (hL : Laid w) (hg : w.heap[g]? = some (.cells #[.int .i64 x, .int .i64 y] 47)) (hq : 1 ≤ q ∧ q ≤ 100) :
    Calls Tryd.prog 79 #[.agg #[.int .i64 p, .int .i64 q], .pointer (some ⟨g, 0, none⟩)] w fun e w' => e = .returned (.int .i64 (q * cmpG x p)) ∧ Below w.heap.size w w' := by
  have h0 := hL.cell x p
  have hb := cmpI_bd x p
  have hgb := cmpG_bd x p
  have hc := blk_cell hg 0
  have hglt := blk_lt hg
  have hmul := mulB (X := 100) (Y := 2) ⟨show 0 ≤ q by omega, hq.2⟩ hgb
  have h0lt := hL.lt
  clear hL hg
  generalize cmpG x p = v at *
  have HC := Lib.hid (fun W => icmp_any x p W)
  obtain ⟨ci, hci⟩ : ∃ ci, cmpI x p = ci := ⟨_, rfl⟩
  rw [hci] at h0 hb HC
  clear hci
  have i1 : IntKind.i64.wrap (1 + ci) = 1 + ci := IntWalk.i64_in _ (by omega)
  have i2 : IntKind.i64.wrap (q * v) = q * v := IntWalk.i64_in _ (by omega)
  have j1 : 0 ≤ 1 + ci := by omega
  have j2 : 1 + ci < 3 := by omega
  go_enter Tryd.func79, Tryd.ntmps79
  go_wp2_with fail
  go_quiet ((go_at_call 80; exact Calls.quiet_of_same (HC.out _)))
  clear i1 i2
  go_wp2
  go_ret
  exact ⟨rfl, (by repeat (first | exact Below.refl _ _ | assumption | refine Below.drew ?_ | refine below_drewN ?_ _ | refine Below.alloc ?_ (by first | omega | (simp; done) | (simp; omega)) _ | refine Below.setCell ?_ (by first | omega | (simp; done) | (simp; omega)) _))⟩

theorem gB_le (p q : Int) (b : List Pt) (hb : rightM b = true) (hq : 1 ≤ q ∧ q ≤ 100) : 0 ≤ q * gB p b ∧ q * gB p b ≤ 80000 := mulB (X := 100) (Y := 800) ⟨by omega, hq.2⟩ (gB_bd p b hb)

set_option maxHeartbeats 1000000 in
theorem against1_any (b : List Pt) (B : Option Addr) (c : Nat) (p q : Int) (g : Nat) (w : World) (hL : Laid w) (hg : w.heap[g]? = some (.cells #[.slice B b.length c] 31)) (hb : Rd w w.heap.size 2 B b.length (pC b)) (hr : rightM b = true) (hq : 1 ≤ q ∧ q ≤ 100) :
    Calls Tryd.prog 78 #[.agg #[.int .i64 p, .int .i64 q], .pointer (some ⟨g, 0, none⟩)] w fun e w' => e = .returned (.int .i64 (q * gB p b)) ∧ Below w.heap.size w w' := by
  have hri := (rightM_iff b).1 hr
  have hc := blk_cell hg 0
  have hglt := blk_lt hg
  have hmul := gB_le p q b hr hq
  have hW0 : Below w.heap.size w (w.alloc (.cells #[.int .i64 p, .int .i64 q] 47)) := (Below.refl _ _).alloc (Nat.le_refl _) _
  have HS := Lib.hid (fun (W : World) (hW : Below (w.heap.size + 1) (w.alloc (.cells #[.int .i64 p, .int .i64 q] 47)) W) =>
    (show Calls Tryd.prog 54 #[.slice B b.length c, .func (.func 79) #[] #[.pointer (some ⟨w.heap.size, 0, none⟩)]] W fun e w' => e = .returned (.int .i64 (gB p b)) ∧ Below W.heap.size W w' from
      sumP_B ⟨w.heap.size, 0, none⟩ b (fun r => r.2 * cmpG p r.1) B c W (((hb.below hW0).below (hW.mono (by omega))).more (by have := hW.size; simp at this; omega)) (by omega)
        (fun r hr2 => by have h1 := (okPt_iff r).1 (hri.2.2.1 r hr2); have := mulB (X := 100) (Y := 2) (x := r.2) (by omega) (cmpG_bd p r.1); omega)
        (fun V hV r hr2 => against11_any p q r.1 r.2 w.heap.size V ((hL.below hW0 hL.lt).below (hW.trans (hV.mono (by have := hW.size; simp at this; omega))) (by omega))
          (blk_below (blk_new _ rfl) (hW.trans (hV.mono (by have := hW.size; simp at this; omega))) (by omega)) ((okPt_iff r).1 (hri.2.2.1 r hr2)).1)))
  clear hL hg hb hr hri
  generalize gB p b = v at *
  have i2 : IntKind.i64.wrap (q * v) = q * v := IntWalk.i64_in _ (by omega)
  go_enter Tryd.func78, Tryd.ntmps78
  go_wp2_with fail
  have hb1 : Below (w.heap.size + 1) (w.alloc (.cells #[.int .i64 p, .int .i64 q] 47)) (w.alloc (.cells #[.int .i64 p, .int .i64 q] 47)) := Below.refl _ _
  have hk0 := blk_cell (blk_new (w := w) (.cells #[.int .i64 p, .int .i64 q] 47) rfl) 0
  have hk1 := blk_cell (blk_new (w := w) (.cells #[.int .i64 p, .int .i64 q] 47) rfl) 1
  go_region_held3 (fun w' => w'.cell? ⟨w.heap.size, 1, none⟩ = some (.int .i64 q) ∧ w'.cell? ⟨g, 0, none⟩ = some (.slice B b.length c))
    ((first | go_keep | exact ⟨(hba.cell (p := ⟨w.heap.size, 1, none⟩) (by simp)).trans hk1, (hba.cell (p := ⟨g, 0, none⟩) (by simp; omega)).trans ((hW0.cell (p := ⟨g, 0, none⟩) hglt).trans hc)⟩))
    ((go_at_call 54; (with_reducible refine (HS.out _ ?_).mono ?_); (focus (repeat (first | exact Below.refl _ _ | assumption | (with_reducible refine Below.drew ?_) | (with_reducible refine below_drewN ?_ _) | ((with_reducible refine Below.alloc ?_ ?_ _); rotate_left; (first | omega | (simp <;> omega))) | ((with_reducible refine Below.setCell ?_ ?_ _); rotate_left; (first | omega | (simp <;> omega)))))); rintro e wa ⟨rfl, hba⟩))
  clear i2
  have hB : Below w.heap.size w wa := hW0.drew.trans (hba.mono (by simp))
  go_wp2
  go_ret
  exact ⟨rfl, hB⟩

set_option maxHeartbeats 1000000 in
theorem against_any (a b : List Pt) (A B : Option Addr) (ca cb : Nat) (w : World) (hL : Laid w) (ha : Rd w w.heap.size 2 A a.length (pC a)) (hb : Rd w w.heap.size 2 B b.length (pC b)) (hra : rightM a = true) (hrb : rightM b = true) :
    Calls Tryd.prog 57 #[.slice A a.length ca, .slice B b.length cb] w fun e w' => e = .returned (.int .i64 (gAB a b)) ∧ Below w.heap.size w w' := by
  have hri := (rightM_iff a).1 hra
  have hW0 : Below w.heap.size w (w.alloc (.cells #[.slice B b.length cb] 31)) := (Below.refl _ _).alloc (Nat.le_refl _) _
  have HS := Lib.hid (show Calls Tryd.prog 54 #[.slice A a.length ca, .func (.func 78) #[] #[.pointer (some ⟨w.heap.size, 0, none⟩)]] (w.alloc (.cells #[.slice B b.length cb] 31)) fun e w' => e = .returned (.int .i64 (gAB a b)) ∧ Below (w.alloc (.cells #[.slice B b.length cb] 31)).heap.size (w.alloc (.cells #[.slice B b.length cb] 31)) w' from
      sumP_A ⟨w.heap.size, 0, none⟩ a (fun r => r.2 * gB r.1 b) A ca _ ((ha.below hW0).more (by simp)) (by omega)
        (fun r hr2 => by have := gB_le r.1 r.2 b hrb ((okPt_iff r).1 (hri.2.2.1 r hr2)).1; omega)
        (fun V hV r hr2 => against1_any b B cb r.1 r.2 w.heap.size V ((hL.below hW0 hL.lt).below hV (by simp))
          (blk_below (blk_new _ rfl) hV (by simp)) (((hb.below hW0).below (hV.mono (by simp))).more (by have := hV.size; simp at this; omega)) hrb ((okPt_iff r).1 (hri.2.2.1 r hr2)).1))
  clear hL ha hb hra hrb hri
  go_enter Tryd.func57, Tryd.ntmps57
  go_wp2_with fail
  refine HS.out.mono ?_
  rintro e w1 ⟨rfl, hb1⟩
  go_wp2
  go_ret
  exact ⟨rfl, hW0.trans (hb1.mono (by simp))⟩

/-! ### Compare, Turn, One -/
def zeroF : Pt := (0, 0)
def cmpV (a b : List Pt) : Pt := if rightM a && rightM b then fr (gAB a b) 10000 else zeroF
def cmpE (a b : List Pt) : Int := if rightM a && rightM b then 0 else 2
def fV (f : Pt) : Value := .agg #[.int .i64 f.1, .int .i64 f.2]

theorem info_part : (Tryd.prog.info? 47).map (fun i => (i.zero, i.size, i.bytes)) = some (some (.agg #[.int .i64 0, .int .i64 0]), 2, 16) := by kernel_rfl
def negP (l : List Pt) : List Pt := l.map fun p => (-p.1, p.2)
theorem negP_snoc (l : List Pt) (k : Nat) (h : k < l.length) : negP (l.take (k + 1)) = negP (l.take k) ++ [(-l[k].1, l[k].2)] := by
  unfold negP; rw [List.take_succ_eq_append_getElem h, List.map_append]; rfl

set_option maxHeartbeats 1000000 in
theorem turn_bad (l : List Pt) (A : Option Addr) (c : Nat) (w : World) (hl : Rd w w.heap.size 2 A l.length (pC l)) (hn : l.length ≤ 1000) (hr : rightM l = false) :
    Calls Tryd.prog 29 #[.slice A l.length c] w fun e w' => e = .returned (.tuple #[.slice none 0 0, .int .i64 2]) ∧ Below w.heap.size w w' := by
  have Hr := Lib.hid hr
  clear hr
  go_enter Tryd.func29, Tryd.ntmps29
  go_wp2_with fail
  refine (rightM_any l A c _ hl (by omega)).mono ?_
  rintro e w1 ⟨rfl, hb1⟩
  rw [Hr.out]
  go_wp2
  go_ret2
  exact ⟨rfl, hb1⟩

set_option maxHeartbeats 2000000 in
theorem turn_any (l : List Pt) (A : Option Addr) (c : Nat) (w : World) (hl : Rd w w.heap.size 2 A l.length (pC l)) (hr : rightM l = true) :
    Calls Tryd.prog 29 #[.slice A l.length c] w fun e w' => ∃ v, e = .returned (.tuple #[v, .int .i64 0]) ∧ w'.ownsRow w.heap.size 47 2 v l.length (pC (negP l)) ∧ Below w.heap.size w w' := by
  obtain ⟨i0, hi, hz0, hz1, hz2⟩ := info_parts info_part
  have hri := (rightM_iff l).1 hr
  have hn4 : 1 ≤ l.length ∧ l.length ≤ 4 := ⟨hri.1, hri.2.1⟩
  have Hok := Lib.hid hri.2.2.1
  have Hr := Lib.hid hr
  clear hr hri
  go_enter Tryd.func29, Tryd.ntmps29
  go_wp2_with fail
  refine (rightM_any l A c _ hl (by omega)).mono ?_
  rintro e w1 ⟨rfl, hb1⟩
  rw [Hr.out]
  have s1 := hb1.size
  go_wp2_with (refine wpList_make_own _ rfl _ _ 31 rfl w.heap.size 47 i0 (.agg #[.int .i64 0, .int .i64 0]) 2 Tryd.underlying31 hi hz0 hz1 .i64 .i64 _ l.length rfl rfl (by simp) ?b2 ?b3 ?b4 ?_)
  case b2 => rw [hz2]; omega
  case b3 => unfold maxLen; omega
  case b4 => omega
  intro w2 ho2 hg2
  have hb2 : Below w.heap.size w w2 := hb1.grown hg2 s1 (fun g hg => by cases hg)
  go_wp2_with fail
  go_loopw [4, 15] (fun v i wr => ∃ (k : Nat) (xs : List Value), k ≤ l.length ∧ i = .int .i64 (k : Int) ∧ Hid (xs = pC (negP (l.take k))) ∧ wr.ownsRow w.heap.size 47 2 v k xs ∧ Below w.heap.size w wr) (fun _ i _ => l.length - (intOf i).toNat)
  case atStart => exact ⟨0, [], by omega, rfl, rfl, ho2, hb2⟩
  case round =>
    obtain ⟨k, xs, hk, rfl, hxs, hown, hbel⟩ := hrel
    have hsr := hbel.size
    by_cases hlt : k < l.length
    · obtain ⟨b, off, rfl, hbw, hc1, hc2⟩ := rd_p hl k hlt
      have hd1 := (bcell hbel b (off + k * 2) hbw).trans hc1
      have hd2 := (bcell hbel b (off + k * 2 + 1) hbw).trans hc2
      have hbd := (okPt_iff l[k]).1 (Hok.out _ (List.getElem_mem hlt))
      have Hs := Lib.hid (negP_snoc l k hlt)
      clear hc1 hc2
      generalize l[k].1 = x at hd1 hbd Hs
      generalize l[k].2 = y at hd2 hbd Hs
      go_wp2_with (at_builtin; refine wpList_append_own _ rfl _ _ 31 rfl w.heap.size 47 i0 (.agg #[.int .i64 0, .int .i64 0]) 2 16 Tryd.underlying31 hi hz0 hz1 hz2 rfl (by decide) _ _ _ rfl ((hown.alloc _).alloc _) _ 1 1 [.int .i64 (-x), .int .i64 y] rfl rfl ?c1 ?c2 ?c3 ?c4 ?c5 ?_)
      case c1 => exact cells_new_at _ #[.int .i64 (-x), .int .i64 y] _ _ (by simp)
      case c2 => simp [Value.oneCell']
      case c3 => unfold maxLen; omega
      case c4 => omega
      case c5 => simp; omega
      intro v' w3 hown1 hgrow _
      go_wp2
      go_roundw
      case rel =>
        refine ⟨k + 1, _, by omega, by go_num, ?_, hown1, ((hbel.alloc hsr _).alloc (by simp; omega) _).grown hgrow (by simp; omega) (fun g hg => (hown.lt g hg).1)⟩
        show _ = pC (negP (l.take (k + 1))); rw [Hs.out, hxs.out, pC_snoc]
      case measure => simp [intOf]; omega
    · obtain rfl : k = l.length := by omega
      rw [List.take_length] at hxs
      go_wp2
      go_ret2
      exact ⟨_, rfl, by rw [← show _ = _ from hxs.out]; exact hown, hbel⟩

set_option maxHeartbeats 400000 in
theorem topN_any (n : Int) (w : World) (h : -9223372036854775808 ≤ n ∧ n ≤ 1073741824) : Calls Tryd.prog 64 #[.int .i64 n] w fun e w' => e = .returned (.int .i64 (if n < 1 then 0 else 2 * (n - 1))) ∧ w = w' := by
  by_cases h1 : n < 1
  · rw [if_pos h1]
    go_enter Tryd.func64, Tryd.ntmps64
    go_wp2
    go_ret
    exact ⟨rfl, rfl⟩
  · rw [if_neg h1]
    go_enter Tryd.func64, Tryd.ntmps64
    go_wp2
    go_ret
    exact ⟨rfl, rfl⟩

end Go.Proofs.YtgfnggdjjigomaaDoor
