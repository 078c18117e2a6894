/- The walk of the package victory: Usual. -/
import Derived.Test.YtkdbkokiieolpaaVicW2
namespace Go.Proofs.Ytkdbkokiieolpaa
open Go.RowKit

theorem info_int : (Try.prog.info? 3).map (fun i => (i.zero, i.size, i.bytes)) = some (some (.int .i64 0), 1, 8) := by kernel_rfl

set_option maxHeartbeats 1000000 in
theorem usual_bad (b : Int) (w : World) (hb : b < 1 ∨ 128 < b) :
    Calls Try.prog 14 #[.int .i64 b] w fun e w' => e = .returned (.tuple #[.slice none 0 0, .int .i64 2]) ∧ w = w' := by
  rcases hb with hb | hb
  · go_enter Try.func14, Try.ntmps14
    go_wp2
    go_ret2
    exact ⟨rfl, rfl⟩
  · go_enter Try.func14, Try.ntmps14
    go_wp2
    go_ret2
    exact ⟨rfl, rfl⟩

set_option maxHeartbeats 1000000 in
theorem usual_any (b : Int) (w : World) (hb : 1 ≤ b ∧ b ≤ 128) :
    Calls Try.prog 14 #[.int .i64 b] w fun e w' => ∃ v L, e = .returned (.tuple #[v, .int .i64 0]) ∧ w'.ownsRow w.heap.size 3 1 v 10 (iC L) ∧ L.length = 10 ∧ isUsual b L ∧ Below w.heap.size w w' := by
  obtain ⟨i0, hi, hz0, hz1, hz2⟩ := info_parts info_int
  have hmk : ∀ W : World, (Instr.makeSlice 24 (.int .i64 0) (.int .i64 10)).run Try.prog W = .ok (.slice (some ⟨W.heap.size, 0, none⟩) 0 10) (W.alloc (.cells #[.int .i64 0, .int .i64 0, .int .i64 0, .int .i64 0, .int .i64 0, .int .i64 0, .int .i64 0, .int .i64 0, .int .i64 0, .int .i64 0] 3)) := fun _ => by kernel_rfl
  go_enter Try.func14, Try.ntmps14
  go_wp2
  go_loopw [4, 5, 6] (fun v m k wr => ∃ (x : Int) (n : Nat) (L : List Int) (xs : List Value), n ≤ 10 ∧ k = .int .i64 ((n : Int) + 1) ∧ m = .int .i64 x ∧ Hid (L.length = n) ∧ Hid (xs = iC L) ∧ wr.ownsRow w.heap.size 3 1 v n xs ∧ Hid (isUsual b L) ∧ Hid (below4 (want b (n + 1)) x) ∧ Below w.heap.size w wr) (fun _ _ k _ => 11 - (intOf k).toNat)
  case atStart => exact ⟨1, 0, [], [], by omega, rfl, rfl, rfl, rfl, own_room _ _ _ _ _ _ (by rfl) (by decide) rfl, (fun j h => by simp at h), ⟨by omega, .inl rfl⟩, (by repeat (first | exact Below.refl _ _ | assumption | refine Below.drew ?_ | refine below_drewN ?_ _ | refine Below.alloc ?_ (by first | omega | (simp; done) | (simp; omega)) _ | refine Below.setCell ?_ (by first | omega | (simp; done) | (simp; omega)) _))⟩
  case round =>
    obtain ⟨x, n, L, xs, hn, rfl, rfl, hL, hxs, hown, hus, hbw, hbel⟩ := hrel
    by_cases hlt : n < 10
    · have hw := want_bd b (n + 1) hb (by omega)
      have hw1 : 0 ≤ 9 * ((n : Int) + 1) * ((n : Int) + 1) ∧ 9 * ((n : Int) + 1) * ((n : Int) + 1) ≤ 900 := ⟨hw.1, hw.2.1⟩
      have hw2 : 0 ≤ 9 * ((n : Int) + 1) * ((n : Int) + 1) * b ∧ 9 * ((n : Int) + 1) * ((n : Int) + 1) * b ≤ 115200 := ⟨hw.2.2.1, hw.2.2.2⟩
      have hdn : decide ((n : Int) + 1 ≤ 10) = true := decide_eq_true (by omega)
      clear hw
      go_wp2
      go_loop [5] (fun m => ∃ y : Int, m = .int .i64 y ∧ 1 ≤ y ∧ y ≤ 170 ∧ Hid (below4 (want b (n + 1)) y)) (fun m => (171 - intOf m).toNat)
      case atStart =>
        have := below4_bd _ x hw2.2 hbw.out
        exact ⟨x, rfl, this.1, this.2, hbw.out⟩
      case round =>
        obtain ⟨y, rfl, hy1, hy2, hby⟩ := hrel
        have hq := sq4_bd y (by omega)
        by_cases ht : 4 * y * y < 9 * ((n : Int) + 1) * ((n : Int) + 1) * b
        · have hb2 := Lib.hid (below4_succ _ y hby.out ht)
          have hbd := below4_bd _ _ hw2.2 hb2.out
          go_wp2
          go_round
          case rel => exact ⟨y + 1, rfl, by omega, by omega, hb2⟩
          case measure => simp [intOf]; omega
        · have hlv := Lib.hid (show least4 (want b (n + 1)) y from ⟨hby.out, by unfold want; omega⟩)
          have ht' : 9 * ((n : Int) + 1) * ((n : Int) + 1) * b ≤ 4 * y * y := by omega
          clear ht
          go_wp2_with (at_builtin; refine wpList_append_own _ rfl _ _ 24 rfl w.heap.size 3 i0 (.int .i64 0) 1 8 Try.underlying24 hi hz0 hz1 hz2 rfl (by decide) _ _ _ rfl (hown.alloc _) _ 1 1 [.int .i64 y] rfl rfl ?c1 ?c2 ?c3 ?c4 ?c5 ?_)
          case c2 => simp [Value.oneCell']
          case c3 => unfold maxLen; omega
          case c4 => omega
          case c5 => have := hbel.size; simp; omega
          intro v' w1 hown1 hgrow _
          go_wp2
          go_roundw
          case rel =>
            refine ⟨y, n + 1, L ++ [y], _, by omega, by go_num, rfl, ?_, ?_, hown1, ?_, ?_, (hbel.alloc hbel.size _).grown hgrow (by have := hbel.size; simp; omega) (fun g hg => (hown.lt g hg).1)⟩
            · show (L ++ [y]).length = n + 1; rw [List.length_append, hL.out]; rfl
            · show _ = iC (L ++ [y]); rw [hxs.out]; unfold iC; rw [List.map_append]; rfl
            · exact isUsual_snoc b L y hus.out (by rw [hL.out]; exact hlv.out)
            · exact below4_mono _ _ _ (by have := want_mono b ((n : Int) + 1) (by omega) (by omega); simpa using this) hby.out
          case measure => simp [intOf]; omega
    · obtain rfl : n = 10 := by omega
      go_wp2
      go_ret2
      exact ⟨_, L, rfl, by rw [← show _ = _ from hxs.out]; exact hown, hL.out, hus.out, hbel⟩

end Go.Proofs.Ytkdbkokiieolpaa
