/- The walks of finesseref01.common (the greatest common divisor) and make0. -/
import Derived.Test.YtlobdeakgoicpaaDoorDigD
namespace Go.Proofs.YtlobdeakgoicpaaDoor
open Go.RowKit

theorem mod_ext {n m : Nat} : ∀ k, (∀ i, i < k → dg n i = dg m i) → n % Bs ^ k = m % Bs ^ k := by
  intro k
  induction k with
  | zero => intro _; rw [Nat.pow_zero, Nat.mod_one, Nat.mod_one]
  | succ k ih =>
    intro h
    have h1 := ih (fun i hi => h i (by omega))
    have h2 := h k (by omega)
    rw [Nat.mod_pow_succ, Nat.mod_pow_succ, h1]
    unfold dg at h2
    show _ + Bs ^ k * (n / Bs ^ k % 65536) = _ + Bs ^ k * (m / Bs ^ k % 65536)
    rw [h2]
theorem DS.same {w : World} {n m k c c' : Nat} {A : Option Addr} (h : DS w n k A c) (h' : DS w m k A c') (hn : n < Bs ^ k) (hm : m < Bs ^ k) : n = m := by
  have := mod_ext (n := n) (m := m) k (fun i hi => by
    obtain ⟨b, off, e, _, q⟩ := h.digit i hi
    obtain ⟨b', off', e', _, q'⟩ := h'.digit i hi
    rw [e] at e'
    have e2 := Option.some.inj e'
    injection e2 with e3 e4
    subst e3 e4
    have := q.symm.trans q'
    injection this with this
    injection this with _ this
    omega)
  rwa [Nat.mod_eq_of_lt hn, Nat.mod_eq_of_lt hm] at this
open Classical in
/-- The number that a slice of digits stands for. -/
noncomputable def slN (w : World) (v : Value) : Nat := if h : ∃ n, ∃ A c, v = .slice A (ln n) c ∧ DS w n (ln n) A c then Classical.choose h else 0
theorem slN_eq {w : World} {n c : Nat} {A : Option Addr} (h : DS w n (ln n) A c) : slN w (.slice A (ln n) c) = n := by
  have hx : ∃ m, ∃ A' c', Value.slice A (ln n) c = .slice A' (ln m) c' ∧ DS w m (ln m) A' c' := ⟨n, A, c, rfl, h⟩
  unfold slN
  rw [dif_pos hx]
  obtain ⟨A', c', e, hd⟩ := Classical.choose_spec hx
  generalize Classical.choose hx = m at *
  injection e with e1 e2 e3
  subst e1
  have hm := ln_lt m
  rw [← e2] at hd hm
  exact hd.same h hm (ln_lt n)
/-- What a function of digits returns, whatever it shares. -/
def OutC (n : Nat) (w : World) (e : Ending) (w' : World) : Prop := ∃ A c, e = .returned (.slice A (ln n) c) ∧ DS w' n (ln n) A c ∧ Below w.heap.size w w'

set_option maxRecDepth 100000 in
set_option maxHeartbeats 1000000 in
theorem r01common (a b : Nat) (A B : Option Addr) (ca cb : Nat) (w : World) (ha : DS w a (ln a) A ca) (hb : DS w b (ln b) B cb) (hla : ln a ≤ 80) (hlb : ln b ≤ 80) :
    Calls Tryd.prog 64 #[.slice A (ln a) ca, .slice B (ln b) cb] w (OutC (Nat.gcd a b) w) := by
  have HA := Lib.hid ha
  have HB := Lib.hid hb
  clear ha hb
  go_enter Tryd.func64, Tryd.ntmps64
  go_wp2
  go_loopw [0, 1] (fun u v wr => ∃ (x y c1 c2 : Nat) (A1 A2 : Option Addr), u = .slice A1 (ln x) c1 ∧ v = .slice A2 (ln y) c2 ∧ ln x ≤ 80 ∧ ln y ≤ 80 ∧ Hid (Nat.gcd x y = Nat.gcd a b) ∧ Hid (DS wr x (ln x) A1 c1) ∧ Hid (DS wr y (ln y) A2 c2) ∧ Hid (Below w.heap.size w wr)) (fun _ v wr => slN wr v)
  case atStart => exact ⟨a, b, ca, cb, A, B, rfl, rfl, hla, hlb, rfl, HA.out, HB.out, Below.refl _ _⟩
  case round =>
    obtain ⟨x, y, c1, c2, A1, A2, rfl, rfl, hx, hy, hg, hD1, hD2, hbel⟩ := hrel
    by_cases h0 : ln y = 0
    · have hy0 : y = 0 := ln_nil.1 h0
      have HG := Lib.hid (show x = Nat.gcd a b by rw [← hg.out, hy0, Nat.gcd_zero_right])
      have hc : ¬ (0 : Int) < ((ln y : Nat) : Int) := by omega
      clear hy0
      rw [h0] at hc ⊢
      have hD := Lib.hid hD1.out
      go_wp2
      go_ret
      exact ⟨A1, c1, by rw [← HG.out]; rfl, by rw [← HG.out]; exact hD.out, hbel.out⟩
    · have hy0 : 0 < y := by
        rcases Nat.eq_zero_or_pos y with h | h
        · rw [h, ln_zero] at h0; omega
        · exact h
      have hc : (0 : Int) < ((ln y : Nat) : Int) := by omega
      have HDv := Lib.hid (r01div x y A1 A2 c1 c2 wr hD1.out hD2.out hx hy hy0)
      have HM := Lib.hid (slN_eq hD2.out)
      have hlm : ln (x % y) ≤ 80 := Nat.le_trans (ln_min _ _ (Nat.lt_trans (Nat.mod_lt x hy0) (ln_lt y))) hy
      have HG := Lib.hid (show Nat.gcd y (x % y) = Nat.gcd a b by rw [← hg.out, Nat.gcd_comm y, ← Nat.gcd_rec, Nat.gcd_comm])
      have HLt := Lib.hid (Nat.mod_lt x hy0)
      generalize hlx : ln x = lx at *
      generalize hly : ln y = ly at *
      have HLy := Lib.hid hly
      clear hlx hly
      go_wp2_with fail
      refine HDv.out.mono ?_
      rintro ee w2 ⟨A3, c3, A4, c4, rfl, -, hd4, hb2⟩
      have HD4 := Lib.hid hd4
      have HM4 := Lib.hid (slN_eq hd4)
      have HD2' := Lib.hid (DS.go hD2.out hb2)
      have HB2 := Lib.hid (hbel.out.trans (hb2.mono hbel.out.size))
      clear hd4 hb2 HDv
      go_wp2
      go_roundw
      case rel => exact ⟨y, x % y, c2, c4, A2, A4, by rw [HLy.out], rfl, by rw [HLy.out]; exact hy, hlm, HG, by rw [HLy.out]; exact HD2', HD4, HB2⟩
      case measure => rw [HM.out, HM4.out]; exact HLt.out

end Go.Proofs.YtlobdeakgoicpaaDoor
