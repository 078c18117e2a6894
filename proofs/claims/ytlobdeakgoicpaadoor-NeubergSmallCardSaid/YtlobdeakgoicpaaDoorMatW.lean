/- The walks of the package match: Compare of two integers, Right, sums over parts, what a result gets from another one. Plain laws of matchpoints: what two results get from each other is 2 together; the matchpoints are not less than 0. No program stands in this text. The walks of the package match: the matchpoints of results. -/
import Derived.Test.YtlobdeakgoicpaaDoorFracW
import Derived.Test.YtlobdeakgoicpaaDoorAppend
import Derived.Test.YtlobdeakgoicpaaDoorScoMath
namespace Go.Proofs.YtlobdeakgoicpaaDoor
open Go.RowKit

/-! ### The walks of the package match: Compare of two integers, Right, sums over parts, what a result gets from another one. -/
/-! ### Slices of parts -/
def pC (l : List Pt) : List Value := l.flatMap fun b => [.int .i64 b.1, .int .i64 b.2]
theorem pC_len (l : List Pt) : (pC l).length = l.length * 2 := by
  induction l with
  | nil => rfl
  | cons b l ih => simp [pC] at ih ⊢; omega
theorem pC_get (l : List Pt) : ∀ (k : Nat) (h : k < l.length), (pC l)[k * 2]? = some (.int .i64 l[k].1) ∧ (pC l)[k * 2 + 1]? = some (.int .i64 l[k].2) := by
  induction l with
  | nil => intro k h; simp at h
  | cons b l ih =>
    intro k h
    have e : pC (b :: l) = [.int .i64 b.1, .int .i64 b.2] ++ pC l := rfl
    rw [e]
    cases k with
    | zero => exact ⟨rfl, rfl⟩
    | succ k =>
      have := ih k (by simpa using h)
      rw [List.getElem?_append_right (by simp; omega), List.getElem?_append_right (by simp; omega)]
      simpa [show (k + 1) * 2 - 2 = k * 2 by omega, show (k + 1) * 2 + 1 - 2 = k * 2 + 1 by omega] using this
theorem pC_snoc (l : List Pt) (p : Pt) : pC (l ++ [p]) = pC l ++ [.int .i64 p.1, .int .i64 p.2] := by simp [pC]
theorem pC_one (l : List Pt) : ∀ u ∈ pC l, u.oneCell' = true := by
  intro u hu
  obtain ⟨p, _, hp⟩ := List.mem_flatMap.1 hu
  simp at hp
  rcases hp with rfl | rfl <;> rfl
theorem rd_p {w : World} {B : Nat} {A : Option Addr} {l : List Pt} (h : Rd w B 2 A l.length (pC l)) (k : Nat) (hk : k < l.length) :
    ∃ b off, A = some ⟨b, off, none⟩ ∧ b < B ∧ w.cell? ⟨b, off + k * 2, none⟩ = some (.int .i64 l[k].1) ∧ w.cell? ⟨b, off + k * 2 + 1, none⟩ = some (.int .i64 l[k].2) := by
  obtain ⟨b, off, e, hb, hc⟩ := h.pos (by omega)
  obtain ⟨h1, h2⟩ := pC_get l k hk
  have hl := pC_len l
  exact ⟨b, off, e, hb, (hc _ (by omega)).trans h1, by rw [Nat.add_assoc]; exact (hc _ (by omega)).trans h2⟩

/-! ### Comparing integers -/
def cmpI (p q : Int) : Int := if p < q then -1 else if q < p then 1 else 0
theorem cmpI_G (p q : Int) : 1 + cmpI p q = cmpG p q := by unfold cmpI cmpG; repeat' split <;> omega
theorem cmpI_bd (p q : Int) : -1 ≤ cmpI p q ∧ cmpI p q ≤ 1 := by unfold cmpI; repeat' split <;> omega

set_option maxHeartbeats 400000 in
theorem nan_any (p : Int) (w : World) : Calls Tryd.prog 93 #[.int .i64 p] w fun e w' => e = .returned (.bool false) ∧ w = w' := by
  go_enter Tryd.func93, Tryd.ntmps93
  go_wp2
  go_ret
  exact ⟨rfl, rfl⟩

set_option maxHeartbeats 400000 in
theorem icmp_any (p q : Int) (w : World) : Calls Tryd.prog 80 #[.int .i64 p, .int .i64 q] w fun e w' => e = .returned (.int .i64 (cmpI p q)) ∧ w' = w := by
  obtain ⟨c, hc⟩ : ∃ c, cmpI p q = c := ⟨_, rfl⟩
  rw [hc]
  have Hc := Lib.hid hc
  clear hc
  rcases Int.lt_trichotomy p q with h | h | h
  · obtain rfl : c = -1 := by rw [← Hc.out]; unfold cmpI; rw [if_pos h]
    go_enter Tryd.func80, Tryd.ntmps80
    go_wp2_with (go_at_call 93; refine (nan_any _ _).mono ?_; rintro e _ ⟨rfl, rfl⟩)
    go_ret
    exact ⟨rfl, rfl⟩
  · subst h
    obtain rfl : c = 0 := by rw [← Hc.out]; unfold cmpI; rw [if_neg (by omega), if_neg (by omega)]
    go_enter Tryd.func80, Tryd.ntmps80
    go_wp2_with (go_at_call 93; refine (nan_any _ _).mono ?_; rintro e _ ⟨rfl, rfl⟩)
    go_ret
    exact ⟨rfl, rfl⟩
  · obtain rfl : c = 1 := by rw [← Hc.out]; unfold cmpI; rw [if_neg (by omega), if_pos h]
    go_enter Tryd.func80, Tryd.ntmps80
    go_wp2_with (go_at_call 93; refine (nan_any _ _).mono ?_; rintro e _ ⟨rfl, rfl⟩)
    go_ret
    exact ⟨rfl, rfl⟩

/-! ### Sums over parts -/
set_option maxHeartbeats 1000000 in
theorem sumP_R ( l : List Pt) (f : Pt → Int) (A : Option Addr) (c : Nat) (w : World) (hl : Rd w w.heap.size 2 A l.length (pC l)) (hn : l.length ≤ 1000) (hf : ∀ p ∈ l, 0 ≤ f p ∧ f p ≤ 1000000)
    (hcall : ∀ W : World, Below w.heap.size w W → ∀ p ∈ l, Calls Tryd.prog 77 #[.agg #[.int .i64 p.1, .int .i64 p.2]] W fun e w' => e = .returned (.int .i64 (f p)) ∧ Below W.heap.size W w') :
    Calls Tryd.prog 76 #[.slice A l.length c, .func (.func 77) #[] #[]] w fun e w' => e = .returned (.int .i64 (sumF l f)) ∧ Below w.heap.size w w' := by
  have HF := Lib.hid hf
  have HC := Lib.hid hcall
  clear hf hcall
  go_enter Tryd.func76, Tryd.ntmps76
  go_wp2
  go_loopw [5, 10] (fun s i wr => ∃ k : Nat, k ≤ l.length ∧ i = .int .i64 (k : Int) ∧ s = .int .i64 (sumTo l f k) ∧ Below w.heap.size w wr) (fun _ i _ => l.length - (intOf i).toNat)
  case atStart => exact ⟨0, by omega, rfl, rfl, Below.refl _ _⟩
  case round =>
    obtain ⟨k, hk, rfl, rfl, hbel⟩ := hrel
    by_cases hlt : k < l.length
    · obtain ⟨b, off, rfl, hbw, hc1, hc2⟩ := rd_p hl k hlt
      have hd1 := (bcell hbel b (off + k * 2) hbw).trans hc1
      have hd2 := (bcell hbel b (off + k * 2 + 1) hbw).trans hc2
      have hsb := sumTo_bd l f 1000000 HF.out k hk
      have hfb := HF.out _ (List.getElem_mem hlt)
      have Hs := Lib.hid (sumTo_succ l f k hlt)
      have HQ := Lib.hid (fun W hW => HC.out W hW _ (List.getElem_mem hlt))
      have hsr := hbel.size
      clear hc1 hc2
      generalize l[k] = p at hd1 hd2 hfb Hs HQ
      obtain ⟨p1, p2⟩ := p
      generalize f (p1, p2) = y at hfb Hs HQ
      go_wp2_with fail
      refine (HQ.out _ (by repeat (first | exact Below.refl _ _ | assumption | refine Below.drew ?_ | refine below_drewN ?_ _ | refine Below.alloc ?_ (by first | omega | (simp; done) | (simp; omega)) _ | refine Below.setCell ?_ (by first | omega | (simp; done) | (simp; omega)) _))).mono ?_
      rintro e w1 ⟨rfl, hb1⟩
      have hb2 : Below w.heap.size w w1 := (hbel.alloc hsr _).trans (hb1.mono (by simp; omega))
      go_wp2
      go_roundw
      case rel => exact ⟨k + 1, by omega, by go_num, int_eq Hs.out.symm, hb2⟩
      case measure => simp [intOf]; omega
    · obtain rfl : k = l.length := by omega
      have Hs := Lib.hid (sumTo_all l f)
      go_wp2
      go_ret
      exact ⟨ret_int Hs.out, hbel⟩

set_option maxHeartbeats 1000000 in
theorem sumP_A (cp : Addr) ( l : List Pt) (f : Pt → Int) (A : Option Addr) (c : Nat) (w : World) (hl : Rd w w.heap.size 2 A l.length (pC l)) (hn : l.length ≤ 1000) (hf : ∀ p ∈ l, 0 ≤ f p ∧ f p ≤ 1000000)
    (hcall : ∀ W : World, Below w.heap.size w W → ∀ p ∈ l, Calls Tryd.prog 78 #[.agg #[.int .i64 p.1, .int .i64 p.2], .pointer (some cp)] W fun e w' => e = .returned (.int .i64 (f p)) ∧ Below W.heap.size W w') :
    Calls Tryd.prog 76 #[.slice A l.length c, .func (.func 78) #[] #[.pointer (some cp)]] w fun e w' => e = .returned (.int .i64 (sumF l f)) ∧ Below w.heap.size w w' := by
  have HF := Lib.hid hf
  have HC := Lib.hid hcall
  clear hf hcall
  go_enter Tryd.func76, Tryd.ntmps76
  go_wp2
  go_loopw [5, 10] (fun s i wr => ∃ k : Nat, k ≤ l.length ∧ i = .int .i64 (k : Int) ∧ s = .int .i64 (sumTo l f k) ∧ Below w.heap.size w wr) (fun _ i _ => l.length - (intOf i).toNat)
  case atStart => exact ⟨0, by omega, rfl, rfl, Below.refl _ _⟩
  case round =>
    obtain ⟨k, hk, rfl, rfl, hbel⟩ := hrel
    by_cases hlt : k < l.length
    · obtain ⟨b, off, rfl, hbw, hc1, hc2⟩ := rd_p hl k hlt
      have hd1 := (bcell hbel b (off + k * 2) hbw).trans hc1
      have hd2 := (bcell hbel b (off + k * 2 + 1) hbw).trans hc2
      have hsb := sumTo_bd l f 1000000 HF.out k hk
      have hfb := HF.out _ (List.getElem_mem hlt)
      have Hs := Lib.hid (sumTo_succ l f k hlt)
      have HQ := Lib.hid (fun W hW => HC.out W hW _ (List.getElem_mem hlt))
      have hsr := hbel.size
      clear hc1 hc2
      generalize l[k] = p at hd1 hd2 hfb Hs HQ
      obtain ⟨p1, p2⟩ := p
      generalize f (p1, p2) = y at hfb Hs HQ
      go_wp2_with fail
      refine (HQ.out _ (by repeat (first | exact Below.refl _ _ | assumption | refine Below.drew ?_ | refine below_drewN ?_ _ | refine Below.alloc ?_ (by first | omega | (simp; done) | (simp; omega)) _ | refine Below.setCell ?_ (by first | omega | (simp; done) | (simp; omega)) _))).mono ?_
      rintro e w1 ⟨rfl, hb1⟩
      have hb2 : Below w.heap.size w w1 := (hbel.alloc hsr _).trans (hb1.mono (by simp; omega))
      go_wp2
      go_roundw
      case rel => exact ⟨k + 1, by omega, by go_num, int_eq Hs.out.symm, hb2⟩
      case measure => simp [intOf]; omega
    · obtain rfl : k = l.length := by omega
      have Hs := Lib.hid (sumTo_all l f)
      go_wp2
      go_ret
      exact ⟨ret_int Hs.out, hbel⟩

set_option maxHeartbeats 1000000 in
theorem sumP_B (cp : Addr) ( l : List Pt) (f : Pt → Int) (A : Option Addr) (c : Nat) (w : World) (hl : Rd w w.heap.size 2 A l.length (pC l)) (hn : l.length ≤ 1000) (hf : ∀ p ∈ l, 0 ≤ f p ∧ f p ≤ 1000000)
    (hcall : ∀ W : World, Below w.heap.size w W → ∀ p ∈ l, Calls Tryd.prog 79 #[.agg #[.int .i64 p.1, .int .i64 p.2], .pointer (some cp)] W fun e w' => e = .returned (.int .i64 (f p)) ∧ Below W.heap.size W w') :
    Calls Tryd.prog 76 #[.slice A l.length c, .func (.func 79) #[] #[.pointer (some cp)]] w fun e w' => e = .returned (.int .i64 (sumF l f)) ∧ Below w.heap.size w w' := by
  have HF := Lib.hid hf
  have HC := Lib.hid hcall
  clear hf hcall
  go_enter Tryd.func76, Tryd.ntmps76
  go_wp2
  go_loopw [5, 10] (fun s i wr => ∃ k : Nat, k ≤ l.length ∧ i = .int .i64 (k : Int) ∧ s = .int .i64 (sumTo l f k) ∧ Below w.heap.size w wr) (fun _ i _ => l.length - (intOf i).toNat)
  case atStart => exact ⟨0, by omega, rfl, rfl, Below.refl _ _⟩
  case round =>
    obtain ⟨k, hk, rfl, rfl, hbel⟩ := hrel
    by_cases hlt : k < l.length
    · obtain ⟨b, off, rfl, hbw, hc1, hc2⟩ := rd_p hl k hlt
      have hd1 := (bcell hbel b (off + k * 2) hbw).trans hc1
      have hd2 := (bcell hbel b (off + k * 2 + 1) hbw).trans hc2
      have hsb := sumTo_bd l f 1000000 HF.out k hk
      have hfb := HF.out _ (List.getElem_mem hlt)
      have Hs := Lib.hid (sumTo_succ l f k hlt)
      have HQ := Lib.hid (fun W hW => HC.out W hW _ (List.getElem_mem hlt))
      have hsr := hbel.size
      clear hc1 hc2
      generalize l[k] = p at hd1 hd2 hfb Hs HQ
      obtain ⟨p1, p2⟩ := p
      generalize f (p1, p2) = y at hfb Hs HQ
      go_wp2_with fail
      refine (HQ.out _ (by repeat (first | exact Below.refl _ _ | assumption | refine Below.drew ?_ | refine below_drewN ?_ _ | refine Below.alloc ?_ (by first | omega | (simp; done) | (simp; omega)) _ | refine Below.setCell ?_ (by first | omega | (simp; done) | (simp; omega)) _))).mono ?_
      rintro e w1 ⟨rfl, hb1⟩
      have hb2 : Below w.heap.size w w1 := (hbel.alloc hsr _).trans (hb1.mono (by simp; omega))
      go_wp2
      go_roundw
      case rel => exact ⟨k + 1, by omega, by go_num, int_eq Hs.out.symm, hb2⟩
      case measure => simp [intOf]; omega
    · obtain rfl : k = l.length := by omega
      have Hs := Lib.hid (sumTo_all l f)
      go_wp2
      go_ret
      exact ⟨ret_int Hs.out, hbel⟩

/-! ### Right -/
set_option maxHeartbeats 400000 in
theorem right1_any (p q : Int) (w : World) : Calls Tryd.prog 77 #[.agg #[.int .i64 p, .int .i64 q]] w fun e w' => e = .returned (.int .i64 q) ∧ Below w.heap.size w w' := by
  go_enter Tryd.func77, Tryd.ntmps77
  go_wp2
  go_ret
  exact ⟨rfl, (by repeat (first | exact Below.refl _ _ | assumption | refine Below.drew ?_ | refine below_drewN ?_ _ | refine Below.alloc ?_ (by first | omega | (simp; done) | (simp; omega)) _ | refine Below.setCell ?_ (by first | omega | (simp; done) | (simp; omega)) _))⟩

theorem right_len (l : List Pt) (h : l.length < 1 ∨ 4 < l.length) : rightM l = false := by
  cases hr : rightM l with
  | false => rfl
  | true => have := (rightM_iff l).1 hr; omega
theorem right_bad (l : List Pt) (k : Nat) (hk : k < l.length) (h : ¬ okPt l[k] = true) : rightM l = false := by
  cases hr : rightM l with
  | false => rfl
  | true => exact absurd (((rightM_iff l).1 hr).2.2.1 _ (List.getElem_mem hk)) h

set_option maxHeartbeats 1000000 in
theorem rightM_any (l : List Pt) (A : Option Addr) (c : Nat) (w : World) (hl : Rd w w.heap.size 2 A l.length (pC l)) (hn : l.length ≤ 4611686018427387904) :
    Calls Tryd.prog 52 #[.slice A l.length c] w fun e w' => e = .returned (.bool (rightM l)) ∧ Below w.heap.size w w' := by
  by_cases h1 : l.length < 1
  · rw [right_len l (.inl h1)]
    go_enter Tryd.func52, Tryd.ntmps52
    go_wp2
    go_ret
    exact ⟨rfl, Below.refl _ _⟩
  by_cases h2 : 4 < l.length
  · rw [right_len l (.inr h2)]
    go_enter Tryd.func52, Tryd.ntmps52
    go_wp2
    go_ret
    exact ⟨rfl, Below.refl _ _⟩
  have hn4 : 1 ≤ l.length ∧ l.length ≤ 4 := by omega
  clear h1 h2 hn
  have Hl := Lib.hid hl
  go_enter Tryd.func52, Tryd.ntmps52
  go_wp2
  go_loopw [15] (fun i wr => ∃ k : Nat, k ≤ l.length ∧ i = .int .i64 (k : Int) ∧ Hid (∀ j (hj : j < l.length), j < k → okPt l[j] = true) ∧ Below w.heap.size w wr) (fun i _ => l.length - (intOf i).toNat)
  case atStart => exact ⟨0, by omega, rfl, fun j _ h => by omega, Below.refl _ _⟩
  case round =>
    obtain ⟨k, hk, rfl, hok, hbel⟩ := hrel
    have hsr := hbel.size
    by_cases hlt : k < l.length
    · obtain ⟨b, off, rfl, hbw, hc1, hc2⟩ := rd_p hl k hlt
      have hd1 := (bcell hbel b (off + k * 2) hbw).trans hc1
      have hd2 := (bcell hbel b (off + k * 2 + 1) hbw).trans hc2
      have hi := okPt_iff l[k]
      clear hc1 hc2
      by_cases hp : okPt l[k] = true
      · have hb := hi.1 hp
        have Hp := Lib.hid hp
        clear hi hp
        generalize l[k].1 = x at hd1 hb
        generalize l[k].2 = y at hd2 hb
        go_wp2
        go_roundw
        case rel =>
          refine ⟨k + 1, by omega, by go_num, fun j hj h => ?_, (by repeat (first | exact Below.refl _ _ | assumption | refine Below.drew ?_ | refine below_drewN ?_ _ | refine Below.alloc ?_ (by first | omega | (simp; done) | (simp; omega)) _ | refine Below.setCell ?_ (by first | omega | (simp; done) | (simp; omega)) _))⟩
          by_cases e : j = k
          · subst e; exact Hp.out
          · exact hok.out j hj (by omega)
        case measure => simp [intOf]; omega
      · have hf := Lib.hid (right_bad l k hlt hp)
        have hb : ¬ ((1 ≤ l[k].2 ∧ l[k].2 ≤ 100) ∧ -10000 ≤ l[k].1 ∧ l[k].1 ≤ 10000) := fun h => hp (hi.2 h)
        clear hi hp
        generalize l[k].1 = x at hd1 hb
        generalize l[k].2 = y at hd2 hb
        have Hb := Lib.hid hb
        clear hb
        go_wp2
        all_goals first
          | (go_ret
             exact ⟨by rw [hf.out]; rfl, (by repeat (first | exact Below.refl _ _ | assumption | refine Below.drew ?_ | refine below_drewN ?_ _ | refine Below.alloc ?_ (by first | omega | (simp; done) | (simp; omega)) _ | refine Below.setCell ?_ (by first | omega | (simp; done) | (simp; omega)) _))⟩)
          | (exfalso; have := Hb.out; omega)
    · obtain rfl : k = l.length := by omega
      have hall : ∀ p ∈ l, okPt p = true := fun p hp => by obtain ⟨j, hj, rfl⟩ := List.getElem_of_mem hp; exact hok.out j hj hj
      have hf := Lib.hid (show rightM l = (sumW l == 100) by
        unfold rightM
        rw [decide_eq_true hn4.1, decide_eq_true hn4.2, List.all_eq_true.2 hall]; rfl)
      have hl2 := (hl.below hbel).more hsr
      have HB := Lib.hid (show ∀ p ∈ l, 0 ≤ (fun p : Pt => p.2) p ∧ (fun p : Pt => p.2) p ≤ 1000000 from fun p hp => by have := (okPt_iff p).1 (hall p hp); show 0 ≤ p.2 ∧ p.2 ≤ 1000000; omega)
      clear hall hl
      go_wp2_with fail
      refine (sumP_R l (fun p => p.2) A c _ hl2 (by omega) HB.out (fun W _ p _ => right1_any p.1 p.2 W)).mono ?_
      rintro e w1 ⟨rfl, hb1⟩
      go_wp2
      go_ret
      exact ⟨by rw [hf.out]; rfl, hbel.trans (hb1.mono hsr)⟩

/-! ### What a result gets from another one -/
/-- What the tied table match.gets holds. -/
def Laid (w : World) : Prop := ∃ t fr, w.heap[0]? = some (.cells #[.int .i64 0, .int .i64 1, .int .i64 2] t fr)
theorem Laid.lt {w : World} (h : Laid w) : 0 < w.heap.size := by
  obtain ⟨t, fr, h⟩ := h; exact blk_lt h
theorem Laid.below {w w' : World} {B : Nat} (h : Laid w) (hb : Below B w w') (hB : 0 < B) : Laid w' := by
  obtain ⟨t, fr, h⟩ := h; exact ⟨t, fr, blk_below h hb hB⟩
theorem Laid.cell {w : World} (h : Laid w) (p q : Int) : w.cell? ⟨0, (1 + cmpI p q).toNat, none⟩ = some (.int .i64 (cmpG p q)) := by
  obtain ⟨t, fr, h⟩ := h
  rw [cmpI_G, blk_cell h]
  unfold cmpG
  repeat' split
  all_goals rfl

set_option maxHeartbeats 1000000 in
theorem against11_any (x y p q : Int) (g : Nat) (w : World) (hL : Laid w) (hg : w.heap[g]? = some (.cells #[.int .i64 x, .int .i64 y] 80)) (hq : 1 ≤ q ∧ q ≤ 100) :
    Calls Tryd.prog 79 #[.agg #[.int .i64 p, .int .i64 q], .pointer (some ⟨g, 0, none⟩)] w fun e w' => e = .returned (.int .i64 (q * cmpG x p)) ∧ Below w.heap.size w w' := by
  have h0 := hL.cell x p
  have hb := cmpI_bd x p
  have hgb := cmpG_bd x p
  have hc := blk_cell hg 0
  have hglt := blk_lt hg
  have hmul := mulB (X := 100) (Y := 2) ⟨show 0 ≤ q by omega, hq.2⟩ hgb
  have h0lt := hL.lt
  clear hL hg
  generalize cmpG x p = v at *
  have HC := Lib.hid (fun W => icmp_any x p W)
  obtain ⟨ci, hci⟩ : ∃ ci, cmpI x p = ci := ⟨_, rfl⟩
  rw [hci] at h0 hb HC
  clear hci
  have i1 : IntKind.i64.wrap (1 + ci) = 1 + ci := IntWalk.i64_in _ (by omega)
  have i2 : IntKind.i64.wrap (q * v) = q * v := IntWalk.i64_in _ (by omega)
  have j1 : 0 ≤ 1 + ci := by omega
  have j2 : 1 + ci < 3 := by omega
  go_enter Tryd.func79, Tryd.ntmps79
  go_wp2_with fail
  go_quiet ((go_at_call 80; exact Calls.quiet_of_same (HC.out _)))
  clear i1 i2
  go_wp2
  go_ret
  exact ⟨rfl, (by repeat (first | exact Below.refl _ _ | assumption | refine Below.drew ?_ | refine below_drewN ?_ _ | refine Below.alloc ?_ (by first | omega | (simp; done) | (simp; omega)) _ | refine Below.setCell ?_ (by first | omega | (simp; done) | (simp; omega)) _))⟩

theorem gB_le (p q : Int) (b : List Pt) (hb : rightM b = true) (hq : 1 ≤ q ∧ q ≤ 100) : 0 ≤ q * gB p b ∧ q * gB p b ≤ 80000 := mulB (X := 100) (Y := 800) ⟨by omega, hq.2⟩ (gB_bd p b hb)

set_option maxHeartbeats 1000000 in
theorem against1_any (b : List Pt) (B : Option Addr) (c : Nat) (p q : Int) (g : Nat) (w : World) (hL : Laid w) (hg : w.heap[g]? = some (.cells #[.slice B b.length c] 35)) (hb : Rd w w.heap.size 2 B b.length (pC b)) (hr : rightM b = true) (hq : 1 ≤ q ∧ q ≤ 100) :
    Calls Tryd.prog 78 #[.agg #[.int .i64 p, .int .i64 q], .pointer (some ⟨g, 0, none⟩)] w fun e w' => e = .returned (.int .i64 (q * gB p b)) ∧ Below w.heap.size w w' := by
  have hri := (rightM_iff b).1 hr
  have hc := blk_cell hg 0
  have hglt := blk_lt hg
  have hmul := gB_le p q b hr hq
  have hW0 : Below w.heap.size w (w.alloc (.cells #[.int .i64 p, .int .i64 q] 80)) := (Below.refl _ _).alloc (Nat.le_refl _) _
  have HS := Lib.hid (fun (W : World) (hW : Below (w.heap.size + 1) (w.alloc (.cells #[.int .i64 p, .int .i64 q] 80)) W) =>
    (show Calls Tryd.prog 76 #[.slice B b.length c, .func (.func 79) #[] #[.pointer (some ⟨w.heap.size, 0, none⟩)]] W fun e w' => e = .returned (.int .i64 (gB p b)) ∧ Below W.heap.size W w' from
      sumP_B ⟨w.heap.size, 0, none⟩ b (fun r => r.2 * cmpG p r.1) B c W (((hb.below hW0).below (hW.mono (by omega))).more (by have := hW.size; simp at this; omega)) (by omega)
        (fun r hr2 => by have h1 := (okPt_iff r).1 (hri.2.2.1 r hr2); have := mulB (X := 100) (Y := 2) (x := r.2) (by omega) (cmpG_bd p r.1); omega)
        (fun V hV r hr2 => against11_any p q r.1 r.2 w.heap.size V ((hL.below hW0 hL.lt).below (hW.trans (hV.mono (by have := hW.size; simp at this; omega))) (by have := hL.lt; omega))
          (blk_below (blk_new _ rfl) (hW.trans (hV.mono (by have := hW.size; simp at this; omega))) (by omega)) ((okPt_iff r).1 (hri.2.2.1 r hr2)).1)))
  clear hL hg hb hr hri
  generalize gB p b = v at *
  have i2 : IntKind.i64.wrap (q * v) = q * v := IntWalk.i64_in _ (by omega)
  go_enter Tryd.func78, Tryd.ntmps78
  go_wp2_with fail
  have hb1 : Below (w.heap.size + 1) (w.alloc (.cells #[.int .i64 p, .int .i64 q] 80)) (w.alloc (.cells #[.int .i64 p, .int .i64 q] 80)) := Below.refl _ _
  have hk0 := blk_cell (blk_new (w := w) (.cells #[.int .i64 p, .int .i64 q] 80) rfl) 0
  have hk1 := blk_cell (blk_new (w := w) (.cells #[.int .i64 p, .int .i64 q] 80) rfl) 1
  go_region_held3 (fun w' => w'.cell? ⟨w.heap.size, 1, none⟩ = some (.int .i64 q) ∧ w'.cell? ⟨g, 0, none⟩ = some (.slice B b.length c))
    ((first | go_keep | exact ⟨(hba.cell (p := ⟨w.heap.size, 1, none⟩) (by simp)).trans hk1, (hba.cell (p := ⟨g, 0, none⟩) (by simp; omega)).trans ((hW0.cell (p := ⟨g, 0, none⟩) hglt).trans hc)⟩))
    ((go_at_call 76; (with_reducible refine (HS.out _ ?_).mono ?_); (focus (repeat (first | exact Below.refl _ _ | assumption | (with_reducible refine Below.drew ?_) | (with_reducible refine below_drewN ?_ _) | ((with_reducible refine Below.alloc ?_ ?_ _); rotate_left; (first | omega | (simp <;> omega))) | ((with_reducible refine Below.setCell ?_ ?_ _); rotate_left; (first | omega | (simp <;> omega)))))); rintro e wa ⟨rfl, hba⟩))
  clear i2
  have hB : Below w.heap.size w wa := hW0.drew.trans (hba.mono (by simp))
  go_wp2
  go_ret
  exact ⟨rfl, hB⟩

set_option maxHeartbeats 1000000 in
theorem against_any (a b : List Pt) (A B : Option Addr) (ca cb : Nat) (w : World) (hL : Laid w) (ha : Rd w w.heap.size 2 A a.length (pC a)) (hb : Rd w w.heap.size 2 B b.length (pC b)) (hra : rightM a = true) (hrb : rightM b = true) :
    Calls Tryd.prog 55 #[.slice A a.length ca, .slice B b.length cb] w fun e w' => e = .returned (.int .i64 (gAB a b)) ∧ Below w.heap.size w w' := by
  have hri := (rightM_iff a).1 hra
  have hW0 : Below w.heap.size w (w.alloc (.cells #[.slice B b.length cb] 35)) := (Below.refl _ _).alloc (Nat.le_refl _) _
  have HS := Lib.hid (show Calls Tryd.prog 76 #[.slice A a.length ca, .func (.func 78) #[] #[.pointer (some ⟨w.heap.size, 0, none⟩)]] (w.alloc (.cells #[.slice B b.length cb] 35)) fun e w' => e = .returned (.int .i64 (gAB a b)) ∧ Below (w.alloc (.cells #[.slice B b.length cb] 35)).heap.size (w.alloc (.cells #[.slice B b.length cb] 35)) w' from
      sumP_A ⟨w.heap.size, 0, none⟩ a (fun r => r.2 * gB r.1 b) A ca _ ((ha.below hW0).more (by simp)) (by omega)
        (fun r hr2 => by have := gB_le r.1 r.2 b hrb ((okPt_iff r).1 (hri.2.2.1 r hr2)).1; omega)
        (fun V hV r hr2 => against1_any b B cb r.1 r.2 w.heap.size V ((hL.below hW0 hL.lt).below hV (by have := hL.lt; simp <;> omega))
          (blk_below (blk_new _ rfl) hV (by simp)) (((hb.below hW0).below (hV.mono (by simp))).more (by have := hV.size; simp at this; omega)) hrb ((okPt_iff r).1 (hri.2.2.1 r hr2)).1))
  clear hL ha hb hra hrb hri
  go_enter Tryd.func55, Tryd.ntmps55
  go_wp2_with fail
  refine HS.out.mono ?_
  rintro e w1 ⟨rfl, hb1⟩
  go_wp2
  go_ret
  exact ⟨rfl, hW0.trans (hb1.mono (by simp))⟩

/-! ### Compare, Turn, One -/
def zeroF : Pt := (0, 0)
def cmpV (a b : List Pt) : Pt := if rightM a && rightM b then fr (gAB a b) 10000 else zeroF
def cmpE (a b : List Pt) : Int := if rightM a && rightM b then 0 else 2
def fV (f : Pt) : Value := .agg #[.int .i64 f.1, .int .i64 f.2]

theorem info_part : (Tryd.prog.info? 80).map (fun i => (i.zero, i.size, i.bytes)) = some (some (.agg #[.int .i64 0, .int .i64 0]), 2, 16) := by kernel_rfl
def negP (l : List Pt) : List Pt := l.map fun p => (-p.1, p.2)
theorem negP_snoc (l : List Pt) (k : Nat) (h : k < l.length) : negP (l.take (k + 1)) = negP (l.take k) ++ [(-l[k].1, l[k].2)] := by
  unfold negP; rw [List.take_succ_eq_append_getElem h, List.map_append]; rfl

set_option maxHeartbeats 1000000 in
theorem turn_bad (l : List Pt) (A : Option Addr) (c : Nat) (w : World) (hl : Rd w w.heap.size 2 A l.length (pC l)) (hn : l.length ≤ 1000) (hr : rightM l = false) :
    Calls Tryd.prog 32 #[.slice A l.length c] w fun e w' => e = .returned (.tuple #[.slice none 0 0, .int .i64 2]) ∧ Below w.heap.size w w' := by
  have Hr := Lib.hid hr
  clear hr
  go_enter Tryd.func32, Tryd.ntmps32
  go_wp2_with fail
  refine (rightM_any l A c _ hl (by omega)).mono ?_
  rintro e w1 ⟨rfl, hb1⟩
  rw [Hr.out]
  go_wp2
  go_ret2
  exact ⟨rfl, hb1⟩

set_option maxHeartbeats 2000000 in
theorem turn_any (l : List Pt) (A : Option Addr) (c : Nat) (w : World) (hl : Rd w w.heap.size 2 A l.length (pC l)) (hr : rightM l = true) :
    Calls Tryd.prog 32 #[.slice A l.length c] w fun e w' => ∃ v, e = .returned (.tuple #[v, .int .i64 0]) ∧ w'.ownsRow w.heap.size 80 2 v l.length (pC (negP l)) ∧ Below w.heap.size w w' := by
  obtain ⟨i0, hi, hz0, hz1, hz2⟩ := info_parts info_part
  have hri := (rightM_iff l).1 hr
  have hn4 : 1 ≤ l.length ∧ l.length ≤ 4 := ⟨hri.1, hri.2.1⟩
  have Hok := Lib.hid hri.2.2.1
  have Hr := Lib.hid hr
  clear hr hri
  go_enter Tryd.func32, Tryd.ntmps32
  go_wp2_with fail
  refine (rightM_any l A c _ hl (by omega)).mono ?_
  rintro e w1 ⟨rfl, hb1⟩
  rw [Hr.out]
  have s1 := hb1.size
  go_wp2_with (refine wpList_make_own _ rfl _ _ 35 rfl w.heap.size 80 i0 (.agg #[.int .i64 0, .int .i64 0]) 2 Tryd.underlying35 hi hz0 hz1 .i64 .i64 _ l.length rfl rfl (by simp) ?b2 ?b3 ?b4 ?_)
  case b2 => rw [hz2]; omega
  case b3 => unfold maxLen; omega
  case b4 => omega
  intro w2 ho2 hg2
  have hb2 : Below w.heap.size w w2 := hb1.grown hg2 s1 (fun g hg => by cases hg)
  go_wp2_with fail
  go_loopw [4, 15] (fun v i wr => ∃ (k : Nat) (xs : List Value), k ≤ l.length ∧ i = .int .i64 (k : Int) ∧ Hid (xs = pC (negP (l.take k))) ∧ wr.ownsRow w.heap.size 80 2 v k xs ∧ Below w.heap.size w wr) (fun _ i _ => l.length - (intOf i).toNat)
  case atStart => exact ⟨0, [], by omega, rfl, rfl, ho2, hb2⟩
  case round =>
    obtain ⟨k, xs, hk, rfl, hxs, hown, hbel⟩ := hrel
    have hsr := hbel.size
    by_cases hlt : k < l.length
    · obtain ⟨b, off, rfl, hbw, hc1, hc2⟩ := rd_p hl k hlt
      have hd1 := (bcell hbel b (off + k * 2) hbw).trans hc1
      have hd2 := (bcell hbel b (off + k * 2 + 1) hbw).trans hc2
      have hbd := (okPt_iff l[k]).1 (Hok.out _ (List.getElem_mem hlt))
      have Hs := Lib.hid (negP_snoc l k hlt)
      clear hc1 hc2
      generalize l[k].1 = x at hd1 hbd Hs
      generalize l[k].2 = y at hd2 hbd Hs
      go_wp2_with (at_builtin; refine wpList_append_own _ rfl _ _ 35 rfl w.heap.size 80 i0 (.agg #[.int .i64 0, .int .i64 0]) 2 16 Tryd.underlying35 hi hz0 hz1 hz2 rfl (by decide) _ _ _ rfl ((hown.alloc _).alloc _) _ 1 1 [.int .i64 (-x), .int .i64 y] rfl rfl ?c1 ?c2 ?c3 ?c4 ?c5 ?_)
      case c1 => exact cells_new_at _ #[.int .i64 (-x), .int .i64 y] _ _ (by simp)
      case c2 => simp [Value.oneCell']
      case c3 => unfold maxLen; omega
      case c4 => omega
      case c5 => simp; omega
      intro v' w3 hown1 hgrow _
      go_wp2
      go_roundw
      case rel =>
        refine ⟨k + 1, _, by omega, by go_num, ?_, hown1, ((hbel.alloc hsr _).alloc (by simp; omega) _).grown hgrow (by simp; omega) (fun g hg => (hown.lt g hg).1)⟩
        show _ = pC (negP (l.take (k + 1))); rw [Hs.out, hxs.out, pC_snoc]
      case measure => simp [intOf]; omega
    · obtain rfl : k = l.length := by omega
      rw [List.take_length] at hxs
      go_wp2
      go_ret2
      exact ⟨_, rfl, by rw [← show _ = _ from hxs.out]; exact hown, hbel⟩

set_option maxHeartbeats 400000 in
theorem one_any (n : Int) (w : World) : Calls Tryd.prog 26 #[.int .i64 n] w fun e w' => e = .returned (.slice (some ⟨w.heap.size, 0, none⟩) 1 1) ∧ w' = w.alloc (.cells #[.int .i64 n, .int .i64 100] 80) := by
  go_enter Tryd.func26, Tryd.ntmps26
  go_wp2
  go_ret
  exact ⟨rfl, rfl⟩

set_option maxHeartbeats 400000 in
theorem sumN_any (n : Int) (w : World) (h : -9223372036854775808 ≤ n ∧ n ≤ 1073741824) : Calls Tryd.prog 31 #[.int .i64 n] w fun e w' => e = .returned (.int .i64 (if n < 1 then 0 else n * (n - 1))) ∧ w = w' := by
  by_cases h1 : n < 1
  · rw [if_pos h1]
    go_enter Tryd.func31, Tryd.ntmps31
    go_wp2
    go_ret
    exact ⟨rfl, rfl⟩
  · rw [if_neg h1]
    have hm := mulB (x := n) (y := n - 1) (X := 1073741824) (Y := 1073741824) (by omega) (by omega)
    go_enter Tryd.func31, Tryd.ntmps31
    go_wp2
    go_ret
    exact ⟨rfl, rfl⟩
set_option maxHeartbeats 400000 in
theorem topN_any (n : Int) (w : World) (h : -9223372036854775808 ≤ n ∧ n ≤ 1073741824) : Calls Tryd.prog 35 #[.int .i64 n] w fun e w' => e = .returned (.int .i64 (if n < 1 then 0 else 2 * (n - 1))) ∧ w = w' := by
  by_cases h1 : n < 1
  · rw [if_pos h1]
    go_enter Tryd.func35, Tryd.ntmps35
    go_wp2
    go_ret
    exact ⟨rfl, rfl⟩
  · rw [if_neg h1]
    go_enter Tryd.func35, Tryd.ntmps35
    go_wp2
    go_ret
    exact ⟨rfl, rfl⟩

/-! ### Plain laws of matchpoints: what two results get from each other is 2 together; the matchpoints are not less than 0. No program stands in this text. -/
theorem cmpG_two (p q : Int) : cmpG p q + cmpG q p = 2 := by unfold cmpG; repeat' split <;> omega
theorem sumF_nil (f : Pt → Int) : sumF [] f = 0 := rfl
theorem sumF_cons (p : Pt) (l : List Pt) (f : Pt → Int) : sumF (p :: l) f = f p + sumF l f := by simp [sumF]
theorem sumF_app (l m : List Pt) (f : Pt → Int) : sumF (l ++ m) f = sumF l f + sumF m f := by simp [sumF]
theorem sumF_add (l : List Pt) (f g : Pt → Int) : sumF l (fun p => f p + g p) = sumF l f + sumF l g := by
  induction l with
  | nil => rfl
  | cons p l ih => rw [sumF_cons, sumF_cons, sumF_cons, ih]; omega
theorem sumF_mul (c : Int) (l : List Pt) (f : Pt → Int) : sumF l (fun p => c * f p) = c * sumF l f := by
  induction l with
  | nil => simp [sumF]
  | cons p l ih => rw [sumF_cons, sumF_cons, ih, Int.mul_add]
theorem sumF_mul_r (c : Int) (l : List Pt) (f : Pt → Int) : sumF l (fun p => f p * c) = sumF l f * c := by
  induction l with
  | nil => simp [sumF]
  | cons p l ih => rw [sumF_cons, sumF_cons, ih, Int.add_mul]
theorem sumF_congr (l : List Pt) (f g : Pt → Int) (h : ∀ p ∈ l, f p = g p) : sumF l f = sumF l g := by
  unfold sumF; rw [List.map_congr_left h]
theorem sumF_zero (l : List Pt) : sumF l (fun _ => 0) = 0 := by
  induction l with
  | nil => rfl
  | cons p l ih => rw [sumF_cons, ih]; rfl
theorem gB_cons (p : Int) (q : Pt) (b : List Pt) : gB p (q :: b) = q.2 * cmpG p q.1 + gB p b := sumF_cons _ _ _
theorem gAB_cons (p : Pt) (a b : List Pt) : gAB (p :: a) b = p.2 * gB p.1 b + gAB a b := sumF_cons _ _ _
theorem gAB_nil_r (a : List Pt) : gAB a [] = 0 := by
  unfold gAB; rw [sumF_congr a _ (fun _ => 0) (fun p _ => by show p.2 * gB p.1 [] = 0; simp [gB, sumF])]; exact sumF_zero a
theorem gAB_cons_r (a : List Pt) (q : Pt) (b : List Pt) : gAB a (q :: b) = sumF a (fun p => p.2 * (q.2 * cmpG p.1 q.1)) + gAB a b := by
  unfold gAB
  rw [← sumF_add]
  exact sumF_congr a _ _ fun p _ => by rw [gB_cons, Int.mul_add]
/-- What two results get from each other is 2 together. -/
theorem gAB_two (a b : List Pt) : gAB a b + gAB b a = 2 * (sumW a * sumW b) := by
  induction a with
  | nil => rw [gAB_nil_r]; simp [gAB, sumF, sumW]
  | cons p a ih =>
    rw [gAB_cons, gAB_cons_r]
    have e1 : sumF b (fun q => q.2 * (p.2 * cmpG q.1 p.1)) = p.2 * sumF b (fun q => q.2 * cmpG q.1 p.1) := by
      rw [← sumF_mul]; exact sumF_congr b _ _ fun q _ => by grind
    have e2 : p.2 * gB p.1 b + p.2 * sumF b (fun q => q.2 * cmpG q.1 p.1) = p.2 * (2 * sumW b) := by
      rw [← Int.mul_add]; congr 1
      unfold gB sumW
      rw [← sumF_add, ← sumF_mul]
      exact sumF_congr b _ _ fun q _ => by rw [← Int.mul_add, cmpG_two]; omega
    have e3 : sumW (p :: a) = p.2 + sumW a := sumF_cons _ _ _
    rw [e1, e3]
    have e4 : 2 * ((p.2 + sumW a) * sumW b) = p.2 * (2 * sumW b) + 2 * (sumW a * sumW b) := by grind
    omega
theorem gAB_right (a b : List Pt) (ha : rightM a = true) (hb : rightM b = true) : gAB a b + gAB b a = 20000 := by
  rw [gAB_two, ((rightM_iff a).1 ha).2.2.2, ((rightM_iff b).1 hb).2.2.2]; rfl
theorem gAB_self (a : List Pt) (ha : rightM a = true) : gAB a a = 10000 := by have := gAB_right a a ha ha; omega
theorem gAB_range (a b : List Pt) (ha : rightM a = true) (hb : rightM b = true) : 0 ≤ gAB a b ∧ gAB a b ≤ 20000 := by
  have h1 := gAB_bd a b ha hb
  have h2 := gAB_bd b a hb ha
  have := gAB_right a b ha hb
  omega
theorem gAll_cons (r o : List Pt) (L : List (List Pt)) : gAll r (o :: L) = gAB r o + gAll r L := by simp [gAll]
theorem gAll_app (r : List Pt) (L M : List (List Pt)) : gAll r (L ++ M) = gAll r L + gAll r M := by simp [gAll]
theorem gAll_nonneg (r : List Pt) (L : List (List Pt)) (hr : rightM r = true) (hL : ∀ o ∈ L, rightM o = true) : 0 ≤ gAll r L := by
  have := gAllTo_bd r L hr hL L.length (Nat.le_refl _)
  rw [gAllTo_all] at this; exact this.1
theorem gAll_mem (r : List Pt) (L : List (List Pt)) (hL : ∀ o ∈ L, rightM o = true) (h : r ∈ L) : 10000 ≤ gAll r L := by
  have hr := hL r h
  obtain ⟨L1, L2, rfl⟩ := List.append_of_mem h
  rw [gAll_app, gAll_cons, gAB_self r hr]
  have h1 := gAll_nonneg r L1 hr (fun o ho => hL o (by simp [ho]))
  have h2 := gAll_nonneg r L2 hr (fun o ho => hL o (by simp [ho]))
  omega
theorem gAll_le (r : List Pt) (L : List (List Pt)) (hr : rightM r = true) (hL : ∀ o ∈ L, rightM o = true) : gAll r L ≤ 20000 * L.length := by
  induction L with
  | nil => simp [gAll]
  | cons o L ih =>
    have := ih fun x hx => hL x (by simp [hx])
    have := gAB_range r o hr (hL o (by simp))
    rw [gAll_cons, List.length_cons]; omega

/-! ### The walks of the package match: the matchpoints of results. -/
/-! ### Slices of results -/
/-- The slice with address A reads as the results L; each of them, and the slice, lies in blocks below B. -/
def RdL (w : World) (B : Nat) (A : Option Addr) (L : List (List Pt)) : Prop :=
  ∀ k (h : k < L.length), ∃ b off Ak ck, A = some ⟨b, off, none⟩ ∧ b < B ∧ w.cell? ⟨b, off + k, none⟩ = some (.slice Ak (L[k]).length ck) ∧ (Ak = none → ck = 0) ∧ Rd w B 2 Ak (L[k]).length (pC L[k])
theorem RdL.below {w w' : World} {B : Nat} {A : Option Addr} {L : List (List Pt)} (h : RdL w B A L) (hb : Below B w w') : RdL w' B A L := fun k hk => by
  obtain ⟨b, off, Ak, ck, h1, h2, h3, h4, h5⟩ := h k hk
  exact ⟨b, off, Ak, ck, h1, h2, (bcell hb _ _ h2).trans h3, h4, h5.below hb⟩
theorem RdL.more {w : World} {B B' : Nat} {A : Option Addr} {L : List (List Pt)} (h : RdL w B A L) (hB : B ≤ B') : RdL w B' A L := fun k hk => by
  obtain ⟨b, off, Ak, ck, h1, h2, h3, h4, h5⟩ := h k hk
  exact ⟨b, off, Ak, ck, h1, by omega, h3, h4, h5.more hB⟩
theorem RdL.go {w w' : World} {A : Option Addr} {L : List (List Pt)} (h : RdL w w.heap.size A L) (hb : Below w.heap.size w w') : RdL w' w'.heap.size A L := (h.below hb).more hb.size
theorem Rd.go {w w' : World} {sz n : Nat} {A : Option Addr} {xs : List Value} (h : Rd w w.heap.size sz A n xs) (hb : Below w.heap.size w w') : Rd w' w'.heap.size sz A n xs := (h.below hb).more hb.size

set_option maxHeartbeats 1000000 in
theorem points1_any (r o : List Pt) (R O : Option Addr) (cr co g : Nat) (w : World) (hL : Laid w) (hg : w.heap[g]? = some (.cells #[.slice R r.length cr] 35)) (hr : Rd w w.heap.size 2 R r.length (pC r)) (ho : Rd w w.heap.size 2 O o.length (pC o)) (hrr : rightM r = true) (hro : rightM o = true) :
    Calls Tryd.prog 54 #[.slice O o.length co, .pointer (some ⟨g, 0, none⟩)] w fun e w' => e = .returned (.int .i64 (gAB r o)) ∧ Below w.heap.size w w' := by
  have hc := blk_cell hg 0
  have HS := Lib.hid (against_any r o R O cr co w hL hr ho hrr hro)
  clear hL hg hr ho hrr hro
  go_enter Tryd.func54, Tryd.ntmps54
  go_wp2_with fail
  refine HS.out.mono ?_
  rintro e w1 ⟨rfl, hb1⟩
  go_wp2
  go_ret
  exact ⟨rfl, hb1⟩

set_option maxHeartbeats 1000000 in
theorem sumR_any (r : List Pt) (L : List (List Pt)) (R A : Option Addr) (cr c g : Nat) (w : World) (hL : Laid w) (hg : w.heap[g]? = some (.cells #[.slice R r.length cr] 35)) (hr : Rd w w.heap.size 2 R r.length (pC r)) (hA : RdL w w.heap.size A L) (hrr : rightM r = true) (hro : ∀ o ∈ L, rightM o = true) (hn : L.length ≤ 1000) :
    Calls Tryd.prog 53 #[.slice A L.length c, .func (.func 54) #[] #[.pointer (some ⟨g, 0, none⟩)]] w fun e w' => e = .returned (.int .i64 (gAll r L)) ∧ Below w.heap.size w w' := by
  have hglt := blk_lt hg
  have HL := Lib.hid hL
  have Hg := Lib.hid hg
  have HA := Lib.hid hA
  have Hro := Lib.hid hro
  have h0 := hL.lt
  clear hL hg hA hro
  go_enter Tryd.func53, Tryd.ntmps53
  go_wp2
  go_loopw [5, 10] (fun s i wr => ∃ k : Nat, k ≤ L.length ∧ i = .int .i64 (k : Int) ∧ s = .int .i64 (gAllTo r L k) ∧ Below w.heap.size w wr) (fun _ i _ => L.length - (intOf i).toNat)
  case atStart => exact ⟨0, by omega, rfl, rfl, Below.refl _ _⟩
  case round =>
    obtain ⟨k, hk, rfl, rfl, hbel⟩ := hrel
    have hsr := hbel.size
    by_cases hlt : k < L.length
    · obtain ⟨b, off, Ak, ck, rfl, hbw, hc1, hc2, hc3⟩ := HA.out k hlt
      have hd1 := (bcell hbel b (off + k) hbw).trans hc1
      have hsb := gAllTo_bd r L hrr Hro.out k hk
      have hrk := Hro.out _ (List.getElem_mem hlt)
      have hfb := gAB_bd r L[k] hrr hrk
      have Hs := Lib.hid (gAllTo_succ r L k hlt)
      have HQ := Lib.hid (points1_any r L[k] R Ak cr ck g wr (HL.out.below hbel h0) (blk_below Hg.out hbel hglt) ((hr.below hbel).more hsr) ((hc3.below hbel).more hsr) hrr hrk)
      clear hc1 hc2 hc3 hrk
      generalize gAB r L[k] = y at hfb Hs HQ
      generalize (L[k]).length = nk at hd1 HQ
      go_wp2_with fail
      refine HQ.out.mono ?_
      rintro e w1 ⟨rfl, hb1⟩
      have hb2 : Below w.heap.size w w1 := hbel.trans (hb1.mono hsr)
      go_wp2
      go_roundw
      case rel => exact ⟨k + 1, by omega, by go_num, int_eq Hs.out.symm, hb2⟩
      case measure => simp [intOf]; omega
    · obtain rfl : k = L.length := by omega
      have Hs := Lib.hid (gAllTo_all r L)
      go_wp2
      go_ret
      exact ⟨ret_int Hs.out, hbel⟩

/-! ### Points -/
def ptsTo (L : List (List Pt)) (k : Nat) : List Pt := (L.take k).map fun r => ptsM r L
theorem ptsTo_succ (L : List (List Pt)) (k : Nat) (h : k < L.length) : ptsTo L (k + 1) = ptsTo L k ++ [ptsM L[k] L] := by
  unfold ptsTo; rw [List.take_succ_eq_append_getElem h, List.map_append]; rfl
/-- The matchpoints of all results. -/
def ptsL (L : List (List Pt)) : List Pt := L.map fun r => ptsM r L
theorem ptsTo_all (L : List (List Pt)) : ptsTo L L.length = ptsL L := by unfold ptsTo ptsL; rw [List.take_length]
theorem ptsL_len (L : List (List Pt)) : (ptsL L).length = L.length := by simp [ptsL]
theorem info_frac : (Tryd.prog.info? 23).map (fun i => (i.zero, i.size, i.bytes)) = some (some (.agg #[.int .i64 0, .int .i64 0]), 2, 16) := by kernel_rfl
/-- The error of results: 2 if one of them is not right, 5 if there are too many. -/
def ptsErr (L : List (List Pt)) : Int := if okAll L then (if 24 < L.length then 5 else 0) else 2

set_option maxHeartbeats 2000000 in
theorem points_bad (L : List (List Pt)) (A : Option Addr) (c : Nat) (w : World) (hA : RdL w w.heap.size A L) (hn : L.length ≤ 1000) (hlen : ∀ o ∈ L, o.length ≤ 1000) (h : ptsErr L ≠ 0) :
    Calls Tryd.prog 28 #[.slice A L.length c] w fun e w' => e = .returned (.tuple #[.slice none 0 0, .int .i64 (ptsErr L)]) ∧ Below w.heap.size w w' := by
  have HA := Lib.hid hA
  have Hlen := Lib.hid hlen
  have Hh := Lib.hid h
  clear hA hlen h
  go_enter Tryd.func28, Tryd.ntmps28
  go_wp2
  go_loopw [14] (fun i wr => ∃ k : Nat, k ≤ L.length ∧ i = .int .i64 (k : Int) ∧ Hid (∀ j (hj : j < L.length), j < k → rightM L[j] = true) ∧ Below w.heap.size w wr) (fun i _ => L.length - (intOf i).toNat)
  case atStart => exact ⟨0, by omega, rfl, fun j _ h => by omega, Below.refl _ _⟩
  case round =>
    obtain ⟨k, hk, rfl, hok, hbel⟩ := hrel
    have hsr := hbel.size
    by_cases hlt : k < L.length
    · obtain ⟨b, off, Ak, ck, rfl, hbw, hc1, hc2, hc3⟩ := HA.out k hlt
      have hd1 := (bcell hbel b (off + k) hbw).trans hc1
      have HQ := Lib.hid (rightM_any L[k] Ak ck wr ((hc3.below hbel).more hsr) (by have := Hlen.out _ (List.getElem_mem hlt); omega))
      clear hc1 hc2 hc3
      by_cases hp : rightM L[k] = true
      · have Hp := Lib.hid hp
        rw [hp] at HQ
        clear hp
        generalize (L[k]).length = nk at hd1 HQ
        go_wp2_with fail
        refine HQ.out.mono ?_
        rintro e w1 ⟨rfl, hb1⟩
        have hb2 : Below w.heap.size w w1 := hbel.trans (hb1.mono hsr)
        go_wp2
        go_roundw
        case rel =>
          refine ⟨k + 1, by omega, by go_num, fun j hj h => ?_, hb2⟩
          by_cases e : j = k
          · subst e; exact Hp.out
          · exact hok.out j hj (by omega)
        case measure => simp [intOf]; omega
      · have hp' : rightM L[k] = false := by simpa using hp
        have HE := Lib.hid (show ptsErr L = 2 by
          unfold ptsErr okAll
          rw [List.all_eq_false.2 ⟨L[k], List.getElem_mem hlt, by simp [hp']⟩]; rfl)
        rw [hp'] at HQ
        clear hp hp'
        generalize (L[k]).length = nk at hd1 HQ
        go_wp2_with fail
        refine HQ.out.mono ?_
        rintro e w1 ⟨rfl, hb1⟩
        have hb2 : Below w.heap.size w w1 := hbel.trans (hb1.mono hsr)
        go_wp2
        go_ret2
        exact ⟨by rw [HE.out]; rfl, hb2⟩
    · have hall : okAll L = true := by
        unfold okAll; rw [List.all_eq_true]
        intro o ho
        obtain ⟨j, hj, rfl⟩ := List.getElem_of_mem ho
        exact hok.out j hj (by omega)
      have h24 : 24 < L.length := by
        have := Hh.out
        unfold ptsErr at this
        rw [hall] at this
        by_cases h : 24 < L.length
        · exact h
        · rw [if_neg h] at this; exact absurd rfl this
      have HE := Lib.hid (show ptsErr L = 5 by unfold ptsErr; rw [hall, if_pos h24]; rfl)
      clear hall
      go_wp2
      go_ret2
      exact ⟨by rw [HE.out]; rfl, hbel⟩

set_option maxHeartbeats 4000000 in
set_option maxRecDepth 100000 in
theorem points_any (L : List (List Pt)) (A : Option Addr) (c : Nat) (w : World) (hL : Laid w) (hA : RdL w w.heap.size A L) (hn : L.length ≤ 24) (hro : ∀ o ∈ L, rightM o = true) :
    Calls Tryd.prog 28 #[.slice A L.length c] w fun e w' => ∃ v, e = .returned (.tuple #[v, .int .i64 0]) ∧ w'.ownsRow w.heap.size 23 2 v L.length (pC (ptsL L)) ∧ Below w.heap.size w w' := by
  obtain ⟨i0, hi, hz0, hz1, hz2⟩ := info_parts info_frac
  have HL := Lib.hid hL
  have HA := Lib.hid hA
  have Hro := Lib.hid hro
  have h0 := hL.lt
  clear hL hA hro
  go_enter Tryd.func28, Tryd.ntmps28
  go_wp2
  go_loopw [14] (fun i wr => ∃ k : Nat, k ≤ L.length ∧ i = .int .i64 (k : Int) ∧ Below w.heap.size w wr) (fun i _ => L.length - (intOf i).toNat)
  case atStart => exact ⟨0, by omega, rfl, Below.refl _ _⟩
  case round =>
    obtain ⟨k, hk, rfl, hbel⟩ := hrel
    have hsr := hbel.size
    by_cases hlt : k < L.length
    · obtain ⟨b, off, Ak, ck, rfl, hbw, hc1, hc2, hc3⟩ := HA.out k hlt
      have hd1 := (bcell hbel b (off + k) hbw).trans hc1
      have hrk := Hro.out _ (List.getElem_mem hlt)
      have HQ := Lib.hid (rightM_any L[k] Ak ck wr ((hc3.below hbel).more hsr) (by have := (rightM_iff _).1 hrk; omega))
      rw [hrk] at HQ
      clear hc1 hc2 hc3 hrk
      generalize (L[k]).length = nk at hd1 HQ
      go_wp2_with fail
      refine HQ.out.mono ?_
      rintro e w1 ⟨rfl, hb1⟩
      have hb2 : Below w.heap.size w w1 := hbel.trans (hb1.mono hsr)
      go_wp2
      go_roundw
      case rel => exact ⟨k + 1, by omega, by go_num, hb2⟩
      case measure => simp [intOf]; omega
    · have t0 : decide ((k : Int) < (L.length : Int)) = false := decide_eq_false (by omega)
      obtain ⟨w1, rfl⟩ : ∃ w1 : World, w1 = wr := ⟨_, rfl⟩
      have HL1 := Lib.hid (HL.out.below hbel h0)
      have HA1 := Lib.hid ((HA.out.below hbel).more hsr)
      clear HL HA
      go_wp2_with (refine wpList_make_own _ rfl _ _ 38 rfl w1.heap.size 23 i0 (.agg #[.int .i64 0, .int .i64 0]) 2 Tryd.underlying38 hi hz0 hz1 .i64 .i64 _ L.length rfl rfl (by simp) ?b2 ?b3 ?b4 ?_)
      case b2 => rw [hz2]; omega
      case b3 => unfold maxLen; omega
      case b4 => omega
      intro w2 ho2 hg2
      have hb2 : Below w1.heap.size w1 w2 := (Below.refl _ _).grown hg2 (by omega) (fun g hg => by cases hg)
      go_wp2_with fail
      go_loopw [6, 30] (fun v i wr => ∃ (j : Nat) (xs : List Value), j ≤ L.length ∧ i = .int .i64 (j : Int) ∧ Hid (xs = pC (ptsTo L j)) ∧ wr.ownsRow w1.heap.size 23 2 v j xs ∧ Below w1.heap.size w1 wr) (fun _ i _ => L.length - (intOf i).toNat)
      case atStart => exact ⟨0, [], by omega, rfl, rfl, ho2, hb2⟩
      case round =>
        obtain ⟨j, xs, hj, rfl, hxs, hown, hbr⟩ := hrel
        have hsr2 := hbr.size
        by_cases hlt2 : j < L.length
        · obtain ⟨b, off, Ak, ck, rfl, hbw, hc1, hc2, hc3⟩ := HA1.out j hlt2
          have hd1 := (bcell hbr b (off + j) hbw).trans hc1
          have hrk := Hro.out _ (List.getElem_mem hlt2)
          have hfb := gAll_mem L[j] L Hro.out (List.getElem_mem hlt2)
          have hfb2 := gAll_le L[j] L hrk Hro.out
          have Hs := Lib.hid (ptsTo_succ L j hlt2)
          have hW0 : Below wr.heap.size wr (wr.alloc (.cells #[.slice Ak (L[j]).length ck] 35)) := (Below.refl _ _).alloc (Nat.le_refl _) _
          have HQ := Lib.hid (sumR_any L[j] L Ak (some ⟨b, off, none⟩) ck c wr.heap.size (wr.alloc (.cells #[.slice Ak (L[j]).length ck] 35)) ((HL1.out.below hbr HL1.out.lt).below hW0 (HL1.out.below hbr HL1.out.lt).lt) (blk_new _ rfl)
            ((((hc3.below hbr).more hsr2).below hW0).more hW0.size) ((((HA1.out.below hbr).more hsr2).below hW0).more hW0.size) hrk Hro.out (by omega))
          have hf := show ptsM L[j] L = fr (gAll L[j] L - 10000) 10000 from rfl
          clear hc1 hc2 hc3 hrk
          generalize gAll L[j] L = y at hfb hfb2 HQ hf
          generalize (L[j]).length = nk at hd1 HQ hW0
          generalize ptsM L[j] L = f at hf Hs
          have Hf := Lib.hid hf
          clear hf
          obtain ⟨f1, f2⟩ := f
          go_wp2_with fail
          refine HQ.out.mono ?_
          rintro e w3 ⟨rfl, hb3⟩
          have hb3' := hW0.trans (hb3.mono hW0.size)
          have s3 := hb3'.size
          clear hb3
          go_wp2_with fail
          refine (make_pos (y - 10000) 10000 _ (by omega) (by omega)).mono ?_
          rintro e w4 ⟨rfl, hb4⟩
          rw [← Hf.out]
          have hb4' := hb3'.trans (hb4.mono s3)
          have s4 := hb4'.size
          have hown4 := own_below hown hb4' (Nat.le_refl _)
          have hbr4 := hbr.trans (hb4'.mono hsr2)
          have s14 := hbr4.size
          clear hb4 hb3' hb4' hW0
          go_wp2_with (at_builtin; refine wpList_append_own _ rfl _ _ 38 rfl w1.heap.size 23 i0 (.agg #[.int .i64 0, .int .i64 0]) 2 16 Tryd.underlying38 hi hz0 hz1 hz2 rfl (by decide) _ _ _ rfl ((hown4.alloc _).alloc _) _ 1 1 [.int .i64 f1, .int .i64 f2] rfl rfl ?c1 ?c2 ?c3 ?c4 ?c5 ?_)
          case c1 => exact cells_new_at _ #[.int .i64 f1, .int .i64 f2] _ _ (by simp)
          case c2 => simp [Value.oneCell']
          case c3 => unfold maxLen; omega
          case c4 => omega
          case c5 => simp; omega
          intro v' w5 hown1 hgrow _
          go_wp2
          go_roundw
          case rel =>
            refine ⟨j + 1, _, by omega, by go_num, ?_, hown1, ((hbr4.alloc s14 _).alloc (by simp; omega) _).grown hgrow (by simp; omega) (fun g hg => (hown4.lt g hg).1)⟩
            show _ = pC (ptsTo L (j + 1)); rw [Hs.out, hxs.out, pC_snoc]
          case measure => simp [intOf]; omega
        · obtain rfl : j = L.length := by omega
          have hB := hbel.trans (hbr.mono hsr)
          have Hx := Lib.hid (show xs = pC (ptsL L) by rw [hxs.out, ptsTo_all])
          go_wp2
          go_ret2
          exact ⟨_, rfl, by rw [← show _ = _ from Hx.out]; exact own_mono hown hsr, hB⟩

end Go.Proofs.YtlobdeakgoicpaaDoor
