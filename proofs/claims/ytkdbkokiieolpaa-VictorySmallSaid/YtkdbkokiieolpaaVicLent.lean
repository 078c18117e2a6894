/- The walks of LentInts and KeptInts: a slice of integers lent with marks behind it, and whether it was kept. -/
import Derived.Test.YtkdbkokiieolpaaVicAwake
import Derived.Test.YtkdbkokiieolpaaAppend
namespace Go.Proofs.Ytkdbkokiieolpaa
open Go.RowKit

def marks (k : Nat) : List Int := (List.range k).map fun (i : Nat) => 8000024 + (i : Int)
theorem marks_succ (k : Nat) : marks (k + 1) = marks k ++ [8000024 + (k : Int)] := by unfold marks; rw [List.range_succ, List.map_append]; rfl
theorem marks_len (k : Nat) : (marks k).length = k := by simp [marks]
theorem marks_at (k i : Nat) (h : i < (marks k).length) : (marks k)[i] = 8000024 + (i : Int) := by simp [marks]
theorem rd_add {w : World} {B n : Nat} {A : Option Addr} {xs : List Value} (h : Rd w B 1 A n xs) : ∀ ad, A = some ad → ∀ j u, xs[j]? = some u → w.cell? (ad.add j) = some u := by
  intro ad he j u hj
  have hjl := (List.getElem?_eq_some_iff.1 hj).1
  obtain ⟨b, off, e, hb, hc⟩ := h.pos (by have := h.len; omega)
  obtain rfl := Option.some.inj (he.symm.trans e)
  have := (hc j hjl).trans hj
  unfold Addr.add
  split
  · rename_i h0; subst h0; simpa using this
  · exact this
theorem iC_app (a b : List Int) : iC (a ++ b) = iC a ++ iC b := by simp [iC]
theorem iC_len (a : List Int) : (iC a).length = a.length := by simp [iC]

set_option maxHeartbeats 400000 in
theorem mark_any (k i : Int) (w : World) (hk : 0 ≤ k ∧ k ≤ 1000) (hi : 0 ≤ i ∧ i ≤ 1000000000) :
    Calls Try.prog 28 #[.int .i64 k, .int .i64 i] w fun e w' => e = .returned (.int .i64 (1000003 * (k + 7) + i)) ∧ w = w' := by
  go_enter Try.func28, Try.ntmps28
  go_wp2
  go_ret
  exact ⟨rfl, rfl⟩

theorem mark_quiet (k i : Int) (w : World) (hk : 0 ≤ k ∧ k ≤ 1000) (hi : 0 ≤ i ∧ i ≤ 1000000000) :
    Calls Try.prog 28 #[.int .i64 k, .int .i64 i] w fun e w' => e = .returned (.int .i64 (1000003 * (k + 7) + i)) ∧ w' = w := (mark_any k i w hk hi).mono fun _ _ ⟨a, b⟩ => ⟨a, b.symm⟩

/-- What a lent slice is: its elements at the head of a row, the marks behind them. -/
def Lent (w : World) (B : Nat) (l : List Int) (g : Nat) : Prop := w.ownsRow B 3 1 (.slice (some ⟨g, 0, none⟩) (l.length + 12) (l.length + 12)) (l.length + 12) (iC (l ++ marks 12))
theorem Lent.rd {w : World} {B : Nat} {l : List Int} {g : Nat} (h : Lent w B l g) : Rd w w.heap.size 1 (some ⟨g, 0, none⟩) l.length (iC l) := by
  have h1 := (Rd.of_own h).pre (k := l.length) (by omega)
  rw [iC_app, List.take_left' (by rw [iC_len]; omega)] at h1
  exact h1
theorem Lent.all {w : World} {B : Nat} {l : List Int} {g : Nat} (h : Lent w B l g) : Rd w w.heap.size 1 (some ⟨g, 0, none⟩) (l ++ marks 12).length (iC (l ++ marks 12)) := by
  have h1 := Rd.of_own h
  rw [show l.length + 12 = (l ++ marks 12).length by rw [List.length_append, marks_len]] at h1
  exact h1

set_option maxHeartbeats 1000000 in
theorem lent_any (l : List Int) (A : Option Addr) (c : Nat) (w : World) (hl : Rd w w.heap.size 1 A l.length (iC l)) (hA : A = none → c = 0) (hm : l.length ≤ 1000000) :
    Calls Try.prog 22 #[.slice A l.length c] w fun e w' => ∃ g, e = .returned (.slice (some ⟨g, 0, none⟩) l.length (l.length + 12)) ∧ Lent w' w.heap.size l g ∧ Below w.heap.size w w' := by
  obtain ⟨i0, hi, hz0, hz1, hz2⟩ := info_parts info_int
  have hnone : A = none → l.length = 0 ∧ c = 0 := fun h => ⟨(by
    rcases Nat.eq_zero_or_pos l.length with h0 | h0
    · exact h0
    · obtain ⟨b, off, e, _⟩ := hl.pos h0; (rw [h] at e; cases e)), hA h⟩
  have Hl := Lib.hid hl
  have Hnone := Lib.hid hnone
  clear hl hnone hA
  go_enter Try.func22, Try.ntmps22
  go_wp2_with (refine wpList_make_own _ rfl _ _ 24 rfl w.heap.size 3 i0 (.int .i64 0) 1 Try.underlying24 hi hz0 hz1 .i64 .i64 _ (l.length + 12) rfl rfl (by simp) ?b2 ?b3 ?b4 ?_)
  case b2 => rw [hz2]; omega
  case b3 => unfold maxLen; omega
  case b4 => omega
  intro w1 ho1 hg1
  have hb1 : Below w.heap.size w w1 := (Below.refl _ _).grown hg1 (by omega) (fun g hg => by cases hg)
  go_wp2_with (at_builtin; refine wpList_append_fits_any _ rfl _ _ 24 rfl w.heap.size 3 i0 1 Try.underlying24 hi hz1 w.heap.size 0 (l.length + 12) [] rfl ho1 A l.length c (iC l) rfl ?c1 ?c2 ?c3 ?c4 ?c5 ?_)
  case c1 => rw [iC_len]; omega
  case c2 => exact Hnone.out
  case c3 => exact rd_add (Hl.out.below hb1)
  case c4 => intro u hu; unfold iC at hu; obtain ⟨x, _, rfl⟩ := List.mem_map.1 hu; rfl
  case c5 => omega
  intro w2 ho2 hg2
  have hb2 : Below w.heap.size w w2 := hb1.grown hg2 (by have := hb1.size; omega) (fun g hg => by cases hg; exact Nat.le_refl _)
  go_wp2
  go_loopw [3, 4] (fun v i wr => ∃ (k n' : Nat) (xs : List Value), k ≤ 12 ∧ i = .int .i64 (k : Int) ∧ v = .slice (some ⟨w.heap.size, 0, none⟩) n' (l.length + 12) ∧ Hid (n' = l.length + k) ∧ Hid (xs = iC (l ++ marks k)) ∧ n' + (12 - k) ≤ l.length + 12 ∧
      wr.ownsRow w.heap.size 3 1 (.slice (some ⟨w.heap.size, 0, none⟩) n' (l.length + 12)) n' xs ∧ Below w.heap.size w wr) (fun _ i _ => 12 - (intOf i).toNat)
  case atStart => exact ⟨0, l.length, iC l, by omega, rfl, rfl, (Nat.add_zero _).symm, (by show iC l = _; simp [marks]), by omega, by simpa using ho2, hb2⟩
  case round =>
    obtain ⟨k, n', xs, hk, rfl, rfl, hn', hxs, hle, hown, hbel⟩ := hrel
    by_cases hlt : k < 12
    · have hsr := hbel.size
      go_wp2_with fail
      refine (mark_any 1 k _ (by omega) (by omega)).mono ?_
      rintro e _ ⟨rfl, rfl⟩
      go_wp2_with (at_builtin; refine wpList_append_fits _ rfl _ _ 24 rfl w.heap.size 3 i0 1 Try.underlying24 hi hz1 w.heap.size n' (l.length + 12) xs rfl (hown.alloc _) ⟨wr.heap.size, 0, none⟩ 1 1 [.int .i64 (8000024 + (k : Int))] rfl rfl ?d1 ?d2 ?d3 ?_)
      case d1 => exact cell_one_at _ _ _ _ (by simp)
      case d2 => simp [Value.oneCell']
      case d3 => omega
      intro w3 ho3 hg3
      go_wp2
      go_roundw
      case rel =>
        refine ⟨k + 1, n' + 1, _, by omega, by go_num, rfl, ?_, ?_, by omega, ho3, (hbel.alloc hsr _).grown hg3 (by simp; omega) (fun g hg => by cases hg; exact Nat.le_refl _)⟩
        · show _ = _; rw [hn'.out]; omega
        · show _ = iC (l ++ marks (k + 1)); rw [marks_succ, ← List.append_assoc, iC_app (l ++ marks k), ← show _ = _ from hxs.out]; rfl
      case measure => simp [intOf]; omega
    · obtain rfl : k = 12 := by omega
      have h1 := hn'.out
      subst h1
      have h2 := hxs.out
      subst h2
      go_wp2
      go_ret
      exact ⟨_, rfl, hown, hbel⟩

/-- What is read lies in a slice that was lent, and behind it the marks. -/
theorem all_at (l : List Int) (k : Nat) (h : k < l.length + 12) : (l ++ marks 12)[k]'(by rw [List.length_append, marks_len]; exact h) = if h1 : k < l.length then l[k] else 8000024 + ((k : Int) - l.length) := by
  split
  · rename_i h1; exact List.getElem_append_left h1
  · rename_i h1
    rw [List.getElem_append_right (by omega), marks_at]; omega

set_option maxHeartbeats 1000000 in
theorem kept_any (l : List Int) (g : Nat) (A : Option Addr) (c : Nat) (w : World) (hg : Rd w w.heap.size 1 (some ⟨g, 0, none⟩) (l ++ marks 12).length (iC (l ++ marks 12))) (hl : Rd w w.heap.size 1 A l.length (iC l)) (hm : l.length ≤ 1000000) :
    Calls Try.prog 27 #[.slice (some ⟨g, 0, none⟩) l.length (l.length + 12), .slice A l.length c] w fun e w' => e = .returned (.bool true) ∧ Below w.heap.size w w' := by
  have hlen : (l ++ marks 12).length = l.length + 12 := by rw [List.length_append, marks_len]
  go_enter Try.func27, Try.ntmps27
  go_wp2
  go_loopw [6] (fun i wr => ∃ k : Nat, k ≤ l.length + 12 ∧ i = .int .i64 (k : Int) ∧ Below w.heap.size w wr) (fun i _ => l.length + 12 - (intOf i).toNat)
  case atStart => exact ⟨0, by omega, rfl, Below.refl _ _⟩
  case round =>
    obtain ⟨k, hk, rfl, hb⟩ := hrel
    by_cases hlt : k < l.length + 12
    · obtain ⟨b1, o1, he1, hw1, hd1⟩ := rd_i hg k (by omega)
      obtain ⟨rfl, rfl⟩ : g = b1 ∧ 0 = o1 := by injection he1 with he1; injection he1 with e1 e2; exact ⟨e1, e2⟩
      rw [all_at l k hlt] at hd1
      have hx1 := (bcell hb g (0 + k) hw1).trans hd1
      rw [Nat.zero_add] at hx1
      have j2 : (0 : Int) ≤ (k : Int) := by omega
      have j3 : (k : Int) < (l.length : Int) + 12 := by omega
      clear hd1 he1
      by_cases h1 : k < l.length
      · obtain ⟨b2, o2, rfl, hw2, hd2⟩ := rd_i hl k h1
        have hx2 := (bcell hb b2 (o2 + k) hw2).trans hd2
        rw [dif_pos h1] at hx1
        have t1 : decide (k < l.length) = true := decide_eq_true h1
        have t2 : decide (l.length ≤ k) = false := decide_eq_false (by omega)
        have j1 : (k : Int) < (l.length : Int) := by omega
        clear hd2
        generalize l[k] = x at hx1 hx2
        go_wp2
        go_quiet (fail)
        go_wp2
        go_roundw
        case rel => exact ⟨k + 1, by omega, by go_num, (by repeat (first | exact Below.refl _ _ | assumption | refine Below.drew ?_ | refine below_drewN ?_ _ | refine Below.alloc ?_ (by first | omega | (simp; done) | (simp; omega)) _ | refine Below.setCell ?_ (by first | omega | (simp; done) | (simp; omega)) _))⟩
        case measure => simp [intOf]; omega
      · rw [dif_neg h1] at hx1
        have t1 : decide (k < l.length) = false := decide_eq_false h1
        have t2 : decide (l.length ≤ k) = true := decide_eq_true (by omega)
        have m1 : 0 ≤ (k : Int) - (l.length : Int) ∧ (k : Int) - (l.length : Int) ≤ 1000000000 := by omega
        have i1 : IntKind.i64.wrap ((k : Int) - (l.length : Int)) = (k : Int) - (l.length : Int) := IntWalk.i64_in _ (by omega)
        have i2 : (8000024 + ((k : Int) - (l.length : Int)) == 1000003 * (1 + 7) + ((k : Int) - (l.length : Int))) = true := by simp
        go_wp2
        go_quiet ((go_at_call 28; exact Calls.quiet_of_same (mark_quiet _ _ _ (by decide) m1)))
        clear i1 i2
        go_wp2
        go_roundw
        case rel => exact ⟨k + 1, by omega, by go_num, (by repeat (first | exact Below.refl _ _ | assumption | refine Below.drew ?_ | refine below_drewN ?_ _ | refine Below.alloc ?_ (by first | omega | (simp; done) | (simp; omega)) _ | refine Below.setCell ?_ (by first | omega | (simp; done) | (simp; omega)) _))⟩
        case measure => simp [intOf]; omega
    · obtain rfl : k = l.length + 12 := by omega
      go_wp2
      go_ret
      exact ⟨rfl, hb⟩

end Go.Proofs.Ytkdbkokiieolpaa
