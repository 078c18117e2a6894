/- The boards that the statements make of numbers. -/
import Derived.Test.YtkkemdjeobnpfaaDoorImpW3
namespace Go.Proofs.YtkkemdjeobnpfaaDoor
open Go.RowKit

def madeB (n : Int) : Int × Int := (n % 1521 * 10 - 7600, n / 1521 % 1521 * 10 - 7600)
def madeL (l : List Int) : List (Int × Int) := (l.take 128).map madeB
/-- Numbers of the kind uint32. -/
def U32s (l : List Int) : Prop := ∀ x ∈ l, 0 ≤ x ∧ x ≤ 4294967295
def u32C (l : List Int) : List Value := l.map (Value.int .u32)

theorem info_board : (Tryd.prog.info? 29).map (fun i => (i.zero, i.size, i.bytes)) = some (some (.agg #[.int .i64 0, .int .i64 0]), 2, 16) := by kernel_rfl
theorem rd_u32 {w : World} {B : Nat} {A : Option Addr} {l : List Int} (h : Rd w B 1 A l.length (u32C l)) (k : Nat) (hk : k < l.length) :
    ∃ b off, A = some ⟨b, off, none⟩ ∧ b < B ∧ w.cell? ⟨b, off + k, none⟩ = some (.int .u32 l[k]) := by
  obtain ⟨b, off, e, hb, hc⟩ := h.pos (by omega)
  exact ⟨b, off, e, hb, by rw [hc k (by simpa [u32C] using hk)]; simp [u32C, List.getElem?_map, List.getElem?_eq_getElem hk]⟩
theorem bCells_snoc (l : List (Int × Int)) (b : Int × Int) : bCells (l ++ [b]) = bCells l ++ [.int .i64 b.1, .int .i64 b.2] := by simp [bCells]
theorem madeL_len (l : List Int) : (madeL l).length = min 128 l.length := by simp [madeL]

set_option maxRecDepth 100000 in
set_option maxHeartbeats 1000000 in
theorem made_any (l : List Int) (A : Option Addr) (c : Nat) (w : World) (hl : Rd w w.heap.size 1 A l.length (u32C l)) (hu : U32s l) (hc : l.length ≤ c) (hm : c ≤ 9223372036854775807) :
    Calls Tryd.prog 19 #[.slice A l.length c] w fun e w' => ∃ v, e = .returned v ∧ w'.ownsRow w.heap.size 29 2 v (madeL l).length (bCells (madeL l)) ∧ Below w.heap.size w w' := by
  obtain ⟨i0, hi, hz0, hz1, hz2⟩ := info_parts info_board
  obtain ⟨n, hn⟩ : ∃ n, n = (madeL l).length := ⟨_, rfl⟩
  have hn' : n ≤ 128 ∧ n ≤ l.length := by rw [hn, madeL_len]; omega
  by_cases h128 : l.length ≤ 128
  · obtain rfl : n = l.length := by rw [hn, madeL_len]; omega
    have hmin : (min (l.length : Int) 128) = (l.length : Int) := by omega
    have hN := Lib.hid hn
    clear hn
    go_enter Tryd.func19, Tryd.ntmps19
    go_wp2
    try clear hmin
    go_loopw [3, 12] (fun v i wr => ∃ (k : Nat) (xs : List Value), k ≤ l.length ∧ i = .int .i64 (k : Int) ∧ Hid (xs = bCells ((l.take k).map madeB)) ∧ wr.ownsRow w.heap.size 29 2 v k xs ∧ Below w.heap.size w wr) (fun _ i _ => l.length - (intOf i).toNat)
    case atStart => exact ⟨0, [], by omega, rfl, rfl, own_nil, Below.refl _ _⟩
    case round =>
      obtain ⟨k, xs, hk, rfl, hxs, hown, hbel⟩ := hrel
      by_cases hlt : k < l.length
      · have hkl : k < l.length := by omega
        obtain ⟨b, off, rfl, hbw, hcell⟩ := rd_u32 hl k hkl
        have hcell' := (bcell hbel b (off + k) hbw).trans hcell
        have hx := hu l[k] (List.getElem_mem hkl)
        have Hs := Lib.hid (show bCells ((l.take (k + 1)).map madeB) = bCells ((l.take k).map madeB) ++ [.int .i64 (l[k] % 1521 * 10 - 7600), .int .i64 (l[k] / 1521 % 1521 * 10 - 7600)] by
          rw [List.take_succ_eq_append_getElem hkl, List.map_append]; exact bCells_snoc _ _)
        clear hcell
        generalize l[k] = x at hcell' hx Hs
        have hx1 : 0 ≤ x % 1521 ∧ x % 1521 < 1521 := by omega
        have hx2 : 0 ≤ x / 1521 ∧ x / 1521 ≤ 4294967295 := by omega
        have hx3 : 0 ≤ x / 1521 % 1521 ∧ x / 1521 % 1521 < 1521 := by omega
        go_wp2_with (at_builtin; refine wpList_append_own _ rfl _ _ 34 rfl w.heap.size 29 i0 (.agg #[.int .i64 0, .int .i64 0]) 2 16 Tryd.underlying34 hi hz0 hz1 hz2 rfl (by decide) _ _ _ rfl (hown.alloc _) _ 1 1 [.int .i64 (x % 1521 * 10 - 7600), .int .i64 (x / 1521 % 1521 * 10 - 7600)] rfl rfl ?c1 ?c2 ?c3 ?c4 ?c5 ?_)
        case c1 => exact cells_new_at _ _ _ _ (by simp)
        case c2 => simp [Value.oneCell']
        case c3 => unfold maxLen; omega
        case c4 => omega
        case c5 => have := hbel.size; simp; omega
        intro v' w1 hown1 hgrow _
        go_wp2
        go_roundw
        case rel =>
          refine ⟨k + 1, _, by omega, by go_num, ?_, hown1, (hbel.alloc hbel.size _).grown hgrow (by have := hbel.size; simp; omega) (fun g hg => (hown.lt g hg).1)⟩
          rw [Hs.out, hxs.out]; exact rfl
        case measure => simp [intOf]; omega
      · obtain rfl : k = l.length := by omega
        go_wp2
        go_ret
        refine ⟨_, rfl, ?_, hbel⟩
        rw [← hN.out, show bCells (madeL l) = xs from (by rw [hxs.out]; unfold madeL; rw [List.take_of_length_le (by omega), List.take_of_length_le (Nat.le_refl _)])]
        exact hown
  · obtain rfl : n = 128 := by rw [hn, madeL_len]; omega
    have hN := Lib.hid hn
    clear hn
    go_enter Tryd.func19, Tryd.ntmps19
    go_wp2
    try clear hmin
    go_loopw [3, 12] (fun v i wr => ∃ (k : Nat) (xs : List Value), k ≤ 128 ∧ i = .int .i64 (k : Int) ∧ Hid (xs = bCells ((l.take k).map madeB)) ∧ wr.ownsRow w.heap.size 29 2 v k xs ∧ Below w.heap.size w wr) (fun _ i _ => 128 - (intOf i).toNat)
    case atStart => exact ⟨0, [], by omega, rfl, rfl, own_nil, Below.refl _ _⟩
    case round =>
      obtain ⟨k, xs, hk, rfl, hxs, hown, hbel⟩ := hrel
      by_cases hlt : k < 128
      · have hkl : k < l.length := by omega
        obtain ⟨b, off, rfl, hbw, hcell⟩ := rd_u32 hl k hkl
        have hcell' := (bcell hbel b (off + k) hbw).trans hcell
        have hx := hu l[k] (List.getElem_mem hkl)
        have Hs := Lib.hid (show bCells ((l.take (k + 1)).map madeB) = bCells ((l.take k).map madeB) ++ [.int .i64 (l[k] % 1521 * 10 - 7600), .int .i64 (l[k] / 1521 % 1521 * 10 - 7600)] by
          rw [List.take_succ_eq_append_getElem hkl, List.map_append]; exact bCells_snoc _ _)
        clear hcell
        generalize l[k] = x at hcell' hx Hs
        have hx1 : 0 ≤ x % 1521 ∧ x % 1521 < 1521 := by omega
        have hx2 : 0 ≤ x / 1521 ∧ x / 1521 ≤ 4294967295 := by omega
        have hx3 : 0 ≤ x / 1521 % 1521 ∧ x / 1521 % 1521 < 1521 := by omega
        go_wp2_with (at_builtin; refine wpList_append_own _ rfl _ _ 34 rfl w.heap.size 29 i0 (.agg #[.int .i64 0, .int .i64 0]) 2 16 Tryd.underlying34 hi hz0 hz1 hz2 rfl (by decide) _ _ _ rfl (hown.alloc _) _ 1 1 [.int .i64 (x % 1521 * 10 - 7600), .int .i64 (x / 1521 % 1521 * 10 - 7600)] rfl rfl ?c1 ?c2 ?c3 ?c4 ?c5 ?_)
        case c1 => exact cells_new_at _ _ _ _ (by simp)
        case c2 => simp [Value.oneCell']
        case c3 => unfold maxLen; omega
        case c4 => omega
        case c5 => have := hbel.size; simp; omega
        intro v' w1 hown1 hgrow _
        go_wp2
        go_roundw
        case rel =>
          refine ⟨k + 1, _, by omega, by go_num, ?_, hown1, (hbel.alloc hbel.size _).grown hgrow (by have := hbel.size; simp; omega) (fun g hg => (hown.lt g hg).1)⟩
          rw [Hs.out, hxs.out]; exact rfl
        case measure => simp [intOf]; omega
      · obtain rfl : k = 128 := by omega
        go_wp2
        go_ret
        refine ⟨_, rfl, ?_, hbel⟩
        rw [← hN.out, show bCells (madeL l) = xs from hxs.out.symm]
        exact hown

end Go.Proofs.YtkkemdjeobnpfaaDoor
