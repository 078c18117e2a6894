/- The walk of the statements' own scale, made of numbers; it is right. -/
import Derived.Test.YtkdbkokiieolpaaVicAwake
import Derived.Test.YtkdbkokiieolpaaAppend
namespace Go.Proofs.Ytkdbkokiieolpaa
open Go.RowKit

def U8s (l : List Int) : Prop := ∀ x ∈ l, 0 ≤ x ∧ x ≤ 255
def u8C (l : List Int) : List Value := l.map (Value.int .u8)
def scTo (l : List Int) (k : Nat) : Int := ((l.take k).map fun n => 1 + n).sum
theorem scTo_succ (l : List Int) (k : Nat) (h : k < l.length) : scTo l (k + 1) = scTo l k + (1 + l[k]) := vsum_succ l _ k h
def scL (l : List Int) (k : Nat) : List Int := (List.range k).map fun i => scTo l (i + 1)
theorem scL_succ (l : List Int) (k : Nat) : scL l (k + 1) = scL l k ++ [scTo l (k + 1)] := by
  unfold scL; rw [List.range_succ, List.map_append]; rfl
theorem scL_len (l : List Int) (k : Nat) : (scL l k).length = k := by simp [scL]
/-- The right scale made of numbers. -/
def scaleOf (l : List Int) : List Int := if l.length = 0 then [1] else scL l (min 50 l.length)
theorem scTo_bd (l : List Int) (hu : U8s l) (k : Nat) (h : k ≤ l.length) : (k : Int) ≤ scTo l k ∧ scTo l k ≤ 256 * k := by
  induction k with
  | zero => simp [scTo]
  | succ k ih =>
    have := ih (by omega)
    have := hu l[k] (List.getElem_mem (by omega))
    rw [scTo_succ l k (by omega)]
    omega
theorem up_append (s : List Int) : ∀ (b x : Int), up b s = true → (∀ y ∈ s, y < x) → b < x → x ≤ 1000000 → up b (s ++ [x]) = true := by
  induction s with
  | nil => intro b x _ _ h1 h2; simp [up, h1, h2]
  | cons y r ih =>
    intro b x h h1 h2 h3
    rw [up_cons] at h
    simp only [Bool.and_eq_true, decide_eq_true_eq] at h
    rw [List.cons_append, up_cons, ih y x h.2 (fun z hz => h1 z (List.mem_cons_of_mem _ hz)) (h1 y (List.mem_cons_self ..)) h3, decide_eq_true h.1.1, decide_eq_true h.1.2]
    rfl
theorem scL_up (l : List Int) (hu : U8s l) (k : Nat) (h : k ≤ l.length) (hk : k ≤ 50) : up 0 (scL l k) = true ∧ ∀ y ∈ scL l k, y ≤ scTo l k := by
  induction k with
  | zero => exact ⟨rfl, fun y hy => by simp [scL] at hy⟩
  | succ k ih =>
    obtain ⟨h1, h2⟩ := ih (by omega) (by omega)
    have hb := scTo_bd l hu (k + 1) h
    have hn := hu l[k] (List.getElem_mem (by omega))
    have hs := scTo_succ l k (by omega)
    have hb0 := scTo_bd l hu k (by omega)
    rw [scL_succ]
    refine ⟨up_append _ _ _ h1 (fun y hy => by have := h2 y hy; omega) (by omega) (by omega), fun y hy => ?_⟩
    rcases List.mem_append.1 hy with hy | hy
    · have := h2 y hy; omega
    · simp at hy; omega
theorem scale_right (l : List Int) (hu : U8s l) : rightS (scaleOf l) = true := by
  rw [rightS_iff]
  unfold scaleOf
  by_cases h : l.length = 0
  · rw [if_pos h]; decide
  · rw [if_neg h, scL_len]
    exact ⟨by omega, by omega, (scL_up l hu _ (by omega) (by omega)).1⟩
/-- A new slice of the elements that the text lists. -/
theorem own_lit (w : World) (base : Nat) (l : List Int) (t m : Nat) (hb : base ≤ w.heap.size) (hl : l.length ≤ maxLen) (hm : m = w.heap.size := by rfl) : (w.alloc (.cells (iC l).toArray t)).ownsRow base t 1 (.slice (some ⟨m, 0, none⟩) l.length l.length) l.length (iC l) := by
  subst hm
  exact ⟨by simp [iC], .inr ⟨w.heap.size, l.length, (iC l).toArray, rfl, hb, heap_alloc_new w _, Nat.le_refl _, hl, by simp [iC], by simp [iC, List.take_of_length_le]⟩⟩
theorem rd_u8 {w : World} {B : Nat} {A : Option Addr} {l : List Int} (h : Rd w B 1 A l.length (u8C l)) (k : Nat) (hk : k < l.length) :
    ∃ b off, A = some ⟨b, off, none⟩ ∧ b < B ∧ w.cell? ⟨b, off + k, none⟩ = some (.int .u8 l[k]) := by
  obtain ⟨b, off, e, hb, hc⟩ := h.pos (by omega)
  exact ⟨b, off, e, hb, by rw [hc k (by simpa [u8C] using hk)]; simp [u8C, List.getElem?_map, List.getElem?_eq_getElem hk]⟩

set_option maxHeartbeats 1000000 in
set_option maxRecDepth 100000 in
theorem scale_any (l : List Int) (A : Option Addr) (c : Nat) (w : World) (hl : Rd w w.heap.size 1 A l.length (u8C l)) (hu : U8s l) (hc : l.length ≤ c) (hm : c ≤ 9223372036854775807) :
    Calls Try.prog 10 #[.slice A l.length c] w fun e w' => ∃ v, e = .returned v ∧ w'.ownsRow w.heap.size 3 1 v (scaleOf l).length (iC (scaleOf l)) ∧ Below w.heap.size w w' := by
  obtain ⟨i0, hi, hz0, hz1, hz2⟩ := info_parts info_int
  obtain ⟨N, hN⟩ : ∃ N : Nat, N = min 50 l.length := ⟨_, rfl⟩
  have hN1 : N ≤ 50 ∧ N ≤ l.length := by omega
  have hif : (if (50 : Int) < (l.length : Int) then 50 else (l.length : Int)) = (N : Int) := by split <;> omega
  have c1 : (N : Int) ≤ (c : Int) := by omega
  have c2 : (0 : Int) ≤ (N : Int) := by omega
  have Hl := Lib.hid hl
  have HN := Lib.hid hN
  clear hl hN
  go_enter Try.func10, Try.ntmps10
  go_wp2
  go_loopw [3, 4, 14] (fun v t i wr => ∃ (k : Nat) (xs : List Value), k ≤ N ∧ i = .int .i64 (k : Int) ∧ t = .int .i64 (scTo l k) ∧ Hid (xs = iC (scL l k)) ∧ wr.ownsRow w.heap.size 3 1 v k xs ∧ Below w.heap.size w wr) (fun _ _ i _ => N - (intOf i).toNat)
  case atStart => exact ⟨0, [], by omega, rfl, rfl, rfl, own_empty _ _ _ _ rfl, (by repeat (first | exact Below.refl _ _ | assumption | refine Below.drew ?_ | refine below_drewN ?_ _ | refine Below.alloc ?_ (by first | omega | (simp; done) | (simp; omega)) _ | refine Below.setCell ?_ (by first | omega | (simp; done) | (simp; omega)) _))⟩
  case round =>
    obtain ⟨k, xs, hk, rfl, rfl, hxs, hown, hbel⟩ := hrel
    by_cases hlt : k < N
    · obtain ⟨b, off, rfl, hbw, hcc⟩ := rd_u8 Hl.out k (by omega)
      have hd := (bcell hbel b (off + k) hbw).trans hcc
      have hx := hu (l[k]'(by omega)) (List.getElem_mem (by omega))
      have hs := scTo_bd l hu k (by omega)
      have Hs := Lib.hid (scTo_succ l k (by omega))
      clear hcc
      generalize (l[k]'(by omega)) = x at hd hx Hs
      go_wp2_with (at_builtin; refine wpList_append_own _ rfl _ _ 24 rfl w.heap.size 3 i0 (.int .i64 0) 1 8 Try.underlying24 hi hz0 hz1 hz2 rfl (by decide) _ _ _ rfl (hown.alloc _) _ 1 1 [.int .i64 (scTo l k + (1 + x))] rfl rfl ?c1 ?c2 ?c3 ?c4 ?c5 ?_)
      case c1 => exact cell_one_at _ _ _ _ (by simp)
      case c2 => simp [Value.oneCell']
      case c3 => unfold maxLen; omega
      case c4 => omega
      case c5 => have := hbel.size; simp; omega
      intro v' w1 hown1 hgrow _
      go_wp2
      go_roundw
      case rel =>
        refine ⟨k + 1, _, by omega, by go_num, int_eq Hs.out.symm, ?_, hown1, (hbel.alloc hbel.size _).grown hgrow (by have := hbel.size; simp; omega) (fun g hg => (hown.lt g hg).1)⟩
        show _ = iC (scL l (k + 1))
        rw [scL_succ, Hs.out, hxs.out]; unfold iC; rw [List.map_append]; rfl
      case measure => simp [intOf]; omega
    · obtain rfl : k = N := by omega
      obtain ⟨A', c', rfl⟩ := own_form hown
      by_cases h0 : k = 0
      · have hz : ((k : Int) == 0) = true := beq_iff_eq.2 (by omega)
        have hsc := Lib.hid (show scaleOf l = [1] by unfold scaleOf; rw [if_pos (by have := HN.out; omega)])
        have hsz := hbel.size
        go_wp2
        go_ret
        exact ⟨_, rfl, by rw [hsc.out]; exact own_lit _ _ [1] _ _ (by omega) (by unfold maxLen; decide), hbel.alloc hsz _⟩
      · have hz : ((k : Int) == 0) = false := beq_eq_false_iff_ne.2 (by omega)
        have hsc := Lib.hid (show scaleOf l = scL l k by unfold scaleOf; rw [if_neg (by have := HN.out; omega), ← HN.out])
        go_wp2
        go_ret
        exact ⟨_, rfl, by rw [hsc.out, scL_len, ← show _ = _ from hxs.out]; exact hown, hbel⟩

end Go.Proofs.Ytkdbkokiieolpaa
