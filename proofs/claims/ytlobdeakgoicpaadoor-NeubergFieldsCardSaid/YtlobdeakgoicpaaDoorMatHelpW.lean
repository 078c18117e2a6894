/- The walks of the statements' helpers on matchpoints: theirs, copied, kept, SameFracs, ones, is. -/
import Derived.Test.YtlobdeakgoicpaaDoorMatRefW2
import Derived.Test.YtlobdeakgoicpaaDoorMatOwn
namespace Go.Proofs.YtlobdeakgoicpaaDoor
open Go.RowKit

theorem info_rres : (Tryd.prog.info? 44).map (fun i => (i.zero, i.size, i.bytes)) = some (some (.slice none 0 0), 1, 24) := by kernel_rfl

/-! ### Copies -/
/-! ### Equal on equal lists -/
set_option maxHeartbeats 1000000 in
theorem fracs_eq (l : List Pt) (n1 n2 : Nat) (h1 : n1 = l.length) (h2 : n2 = l.length) (A A' : Option Addr) (c c' : Nat) (w : World) (hl : Rd w w.heap.size 2 A l.length (pC l)) (hl' : Rd w w.heap.size 2 A' l.length (pC l)) (hn : l.length ≤ 1000) :
    Calls Tryd.prog 23 #[.slice A n1 c, .slice A' n2 c'] w fun e w' => e = .returned (.bool true) ∧ ∃ n, w' = w.drewN n := by
  subst h1; subst h2
  have Hl := Lib.hid hl
  have Hl' := Lib.hid hl'
  clear hl hl'
  go_enter Tryd.func23, Tryd.ntmps23
  go_wp2
  go_loopw [5] (fun i wr => ∃ k nq : Nat, k ≤ l.length ∧ i = .int .i64 (k : Int) ∧ wr = w.drewN nq) (fun i _ => l.length - (intOf i).toNat)
  case atStart => exact ⟨0, 0, by omega, rfl, rfl⟩
  case round =>
    obtain ⟨k, nq, hk, rfl, rfl⟩ := hrel
    by_cases hlt : k < l.length
    · obtain ⟨b, off, rfl, hbw, hc1, hc2⟩ := rd_p Hl.out k hlt
      obtain ⟨b', off', rfl, hbw', hd1, hd2⟩ := rd_p Hl'.out k hlt
      have j1 : (k : Int) < (l.length : Int) := by omega
      have j2 : (0 : Int) ≤ (k : Int) := by omega
      generalize l[k].1 = x at hc1 hd1
      generalize l[k].2 = y at hc2 hd2
      go_wp2
      go_quiet (fail)
      go_wp2
      go_roundw
      case rel => exact ⟨k + 1, _, by omega, by go_num, rfl⟩
      case measure => simp [intOf]; omega
    · obtain rfl : k = l.length := by omega
      go_wp2
      go_ret
      exact ⟨rfl, nq, rfl⟩

/-! ### is, whole, ones -/
def iC (l : List Int) : List Value := l.map (Value.int .i64)
theorem rd_i {w : World} {B : Nat} {A : Option Addr} {l : List Int} (h : Rd w B 1 A l.length (iC l)) (k : Nat) (hk : k < l.length) :
    ∃ b off, A = some ⟨b, off, none⟩ ∧ b < B ∧ w.cell? ⟨b, off + k, none⟩ = some (.int .i64 l[k]) := by
  obtain ⟨b, off, e, hb, hc⟩ := h.pos (by omega)
  exact ⟨b, off, e, hb, by rw [hc k (by simpa [iC] using hk)]; simp [iC, List.getElem?_map, List.getElem?_eq_getElem hk]⟩
def onesL (l : List Int) : List (List Pt) := l.map fun p => [(p, 100)]

end Go.Proofs.YtlobdeakgoicpaaDoor
