/- The walk of finesseref01.make0: a fraction of a sign, a numerator and a denominator. -/
import Derived.Test.YtlobdeakgoicpaaDoorDigG
namespace Go.Proofs.YtlobdeakgoicpaaDoor
open Go.RowKit

/-- A fraction in lowest terms with a sign, and the number of the error. -/
def okK (neg : Bool) (num den : Nat) : Bool := fitsB (neg && decide (0 < ln (num / Nat.gcd num den))) (num / Nat.gcd num den) && fitsB false (den / Nat.gcd num den)
def mk0 (neg : Bool) (num den : Nat) : Pt := if okK neg num den then (numV (neg && decide (0 < ln (num / Nat.gcd num den))) (num / Nat.gcd num den), numV false (den / Nat.gcd num den)) else (0, 0)
def mkE (neg : Bool) (num den : Nat) : Int := if okK neg num den then 0 else 3

set_option maxRecDepth 100000 in
set_option maxHeartbeats 2000000 in
theorem r01make0 (neg : Bool) (num den : Nat) (A B : Option Addr) (ca cb : Nat) (w : World) (ha : DS w num (ln num) A ca) (hb : DS w den (ln den) B cb) (hla : ln num ≤ 80) (hlb : ln den ≤ 80) (hd : 0 < den) :
    Calls Tryd.prog 69 #[.bool neg, .slice A (ln num) ca, .slice B (ln den) cb] w fun e w' => e = .returned (.tuple #[fV (mk0 neg num den), .int .i64 (mkE neg num den)]) ∧ Below w.heap.size w w' := by
  have hg0 : 0 < Nat.gcd num den := Nat.gcd_pos_of_pos_right num hd
  have hgl : ln (Nat.gcd num den) ≤ 80 := Nat.le_trans (ln_min _ _ (Nat.lt_of_le_of_lt (Nat.gcd_le_right num hd) (ln_lt den))) hlb
  have hxl : ln (num / Nat.gcd num den) ≤ 80 := Nat.le_trans (ln_min _ _ (Nat.lt_of_le_of_lt (Nat.div_le_self _ _) (ln_lt num))) hla
  have hyl : ln (den / Nat.gcd num den) ≤ 80 := Nat.le_trans (ln_min _ _ (Nat.lt_of_le_of_lt (Nat.div_le_self _ _) (ln_lt den))) hlb
  have HA := Lib.hid ha
  have HB := Lib.hid hb
  obtain ⟨g, hg⟩ : ∃ g, w.heap.size = g := ⟨_, rfl⟩
  obtain ⟨W1, hW1⟩ : ∃ V, w.alloc (.cells #[.int .i64 0, .int .i64 0] 23) = V := ⟨_, rfl⟩
  have hb1 : Below w.heap.size w W1 := by rw [← hW1]; exact (Below.refl _ _).alloc (Nat.le_refl _) _
  have K1 := Lib.hid (show W1.heap[g]? = some (.cells #[.int .i64 0, .int .i64 0] 23 (0, 0)) by rw [← hW1]; exact blk_new _ hg.symm)
  have HC := Lib.hid (r01common num den A B ca cb W1 (ha.go hb1) (hb.go hb1) hla hlb)
  have Hgw := Lib.hid (show w.heap.size ≤ g from Nat.le_of_eq hg)
  have HB1 := Lib.hid hb1
  have HD1 := Lib.hid (fun A1 c1 W h1 h2 => r01div num (Nat.gcd num den) A A1 ca c1 W h1 h2 hla hgl hg0)
  have HD2 := Lib.hid (fun A1 c1 W h1 h2 => r01div den (Nat.gcd num den) B A1 cb c1 W h1 h2 hlb hgl hg0)
  have HNx := Lib.hid (fun n A1 c1 W h1 => r01number n (num / Nat.gcd num den) A1 c1 W h1 (by omega))
  have HNy := Lib.hid (fun A1 c1 W h1 => r01number false (den / Nat.gcd num den) A1 c1 W h1 (by omega))
  clear ha hb hg0 hgl hb1 hd
  unfold mk0 mkE okK
  unfold OutQ at HD1 HD2
  generalize Nat.gcd num den = G at *
  generalize num / G = X at *
  generalize den / G = Y at *
  generalize hln : ln num = l1 at *
  generalize hld : ln den = l2 at *
  obtain ⟨nn, hnn⟩ : ∃ nn, (neg && decide (0 < ln X)) = nn := ⟨_, rfl⟩
  rw [hnn]
  obtain ⟨F, hF⟩ : ∃ F : Pt, (if (fitsB nn X && fitsB false Y) = true then (numV nn X, numV false Y) else ((0 : Int), (0 : Int))) = F := ⟨_, rfl⟩
  obtain ⟨E, hE⟩ : ∃ E : Int, (if (fitsB nn X && fitsB false Y) = true then (0 : Int) else 3) = E := ⟨_, rfl⟩
  rw [hF, hE]
  have HF := Lib.hid hF
  have HE := Lib.hid hE
  clear hln hld hF hE
  go_enter Tryd.func69, Tryd.ntmps69
  go_wp2_with fail
  (try rw [hW1])
  (try rw [hg])
  clear hW1 hg
  refine HC.out.mono ?_
  rintro ee w2 ⟨A1, c1, rfl, hd2, hb2⟩
  have HGd := Lib.hid hd2
  have HB2 := Lib.hid (HB1.out.trans (hb2.mono HB1.out.size))
  have K2 := Lib.hid (blk_below K1.out hb2 (blk_lt K1.out))
  clear hd2 hb2 HC HB1 K1
  go_wp2_with fail
  refine (HD1.out _ _ _ (HA.out.go HB2.out) HGd.out).mono ?_
  rintro ee w3 ⟨A2, c2, A3, c3, rfl, hd3, -, hb3⟩
  have HX := Lib.hid hd3
  have HGd3 := Lib.hid (DS.go HGd.out hb3)
  have HB3 := Lib.hid (HB2.out.trans (hb3.mono HB2.out.size))
  have K3 := Lib.hid (blk_below K2.out hb3 (blk_lt K2.out))
  clear hd3 hb3 HGd HB2 K2 HD1
  go_wp2_with fail
  refine (HD2.out _ _ _ (HB.out.go HB3.out) HGd3.out).mono ?_
  rintro ee w4 ⟨A4, c4, A5, c5, rfl, hd4, -, hb4⟩
  have HY := Lib.hid hd4
  have HX4 := Lib.hid (DS.go HX.out hb4)
  have HB4 := Lib.hid (HB3.out.trans (hb4.mono HB3.out.size))
  have K4 := Lib.hid (blk_below K3.out hb4 (blk_lt K3.out))
  clear hd4 hb4 HX HB3 K3 HD2 HGd3
  have HNx2 := Lib.hid (HNx.out nn _ _ _ HX4.out)
  have Hnn := Lib.hid hnn
  clear hnn HNx HA HB
  generalize ln X = lx at *
  generalize ln Y = ly at *
  have key : ∀ (Q : Prop), (neg = false → nn = false → Q) → (neg = true → lx = 0 → nn = false → Q) → (neg = true → 0 < lx → nn = true → Q) → Q := fun Q q1 q2 q3 => by
    have h := Hnn.out
    cases neg with
    | false => exact q1 rfl (by rw [← h]; rfl)
    | true =>
      by_cases h0 : 0 < lx
      · exact q3 rfl h0 (by rw [← h, decide_eq_true h0]; rfl)
      · exact q2 rfl (by omega) (by rw [← h, decide_eq_false h0]; rfl)
  go_upto_region 4 with fail
  go_cut [13, 14] (fun v13 v14 wx => v13 = .int .i64 (numV nn X) ∧ v14 = .bool (fitsB nn X) ∧ Below w4.heap.size w4 wx)
  case first =>
    clear Hnn
    refine key _ (fun e1 e2 => ?_) (fun e1 e2 e3 => ?_) (fun e1 e2 e3 => ?_)
    · subst e1
      rw [e2] at HNx2
      have E2 := Lib.hid e2
      clear e2 key
      go_wp2_with fail
      refine HNx2.out.mono ?_
      rintro ee w5 ⟨rfl, hb5⟩
      go_wp2_with fail
      go_meet
      exact ⟨by rw [E2.out], by rw [E2.out], hb5⟩
    · subst e1
      rw [e3] at HNx2
      have E2 := Lib.hid e3
      have c0 : decide (0 < lx) = false := decide_eq_false (by omega)
      clear e2 e3 key
      go_wp2_with fail
      refine HNx2.out.mono ?_
      rintro ee w5 ⟨rfl, hb5⟩
      go_wp2_with fail
      go_meet
      exact ⟨by rw [E2.out], by rw [E2.out], hb5⟩
    · subst e1
      rw [e3] at HNx2
      have E2 := Lib.hid e3
      have c0 : decide (0 < lx) = true := decide_eq_true (by omega)
      clear e2 e3 key
      go_wp2_with fail
      refine HNx2.out.mono ?_
      rintro ee w5 ⟨rfl, hb5⟩
      go_wp2_with fail
      go_meet
      exact ⟨by rw [E2.out], by rw [E2.out], hb5⟩
  case rest =>
    obtain ⟨rfl, rfl, hb5⟩ := hcut
    have HY5 := Lib.hid (DS.go HY.out hb5)
    have HB5 := Lib.hid (HB4.out.trans (hb5.mono HB4.out.size))
    have K5 := Lib.hid (blk_below K4.out hb5 (blk_lt K4.out))
    clear hb5 HY HB4 K4 HX4 HNx2 key Hnn
    go_wp2_with fail
    refine (HNy.out _ _ _ HY5.out).mono ?_
    rintro ee w6 ⟨rfl, hb6⟩
    have HB6 := Lib.hid (HB5.out.trans (hb6.mono HB5.out.size))
    have K6 := Lib.hid (blk_below K5.out hb6 (blk_lt K5.out))
    have a0 := blk_cell K6.out 0
    have a1 := blk_cell K6.out 1
    have f0 := blk_free K6.out 0
    have f1 := blk_free K6.out 1
    clear hb6 HY5 HB5 K5 HNy
    have hfin : ∀ x y : Int, Below w.heap.size w ((w6.setCell ⟨g, 0, none⟩ (.int .i64 x)).setCell ⟨g, 1, none⟩ (.int .i64 y)) := fun x y => (HB6.out.setCell (p := ⟨g, 0, none⟩) Hgw.out _).setCell (p := ⟨g, 1, none⟩) Hgw.out _
    have hblk : ∀ x y : Int, ((w6.setCell ⟨g, 0, none⟩ (.int .i64 x)).setCell ⟨g, 1, none⟩ (.int .i64 y)).heap[g]? = some (.cells #[.int .i64 x, .int .i64 y] 23 (0, 0)) := fun x y => blk_set (blk_set K6.out 0 _) 1 _
    obtain ⟨nx, hnx⟩ : ∃ nx, numV nn X = nx := ⟨_, rfl⟩
    obtain ⟨ny, hny⟩ : ∃ ny, numV false Y = ny := ⟨_, rfl⟩
    obtain ⟨bx, hbx⟩ : ∃ bx, fitsB nn X = bx := ⟨_, rfl⟩
    obtain ⟨bz, hbz⟩ : ∃ bz, fitsB false Y = bz := ⟨_, rfl⟩
    rw [hny, hbz]
    rw [hnx, hbx]
    have HNX := Lib.hid hnx
    have HNY := Lib.hid hny
    have HBX := Lib.hid hbx
    have HBZ := Lib.hid hbz
    clear hnx hny hbx hbz
    cases bx with
    | false =>
      go_wp2
      have z0 := blk_cell (hblk 0 0) 0
      have z1 := blk_cell (hblk 0 0) 1
      exact bodyPost_ret (v := .tuple #[.agg #[.int .i64 0, .int .i64 0], .int .i64 3]) (by simp [results, Tryd.results69, go_sem, z0, z1]) rfl ⟨by rw [← HF.out, ← HE.out, HBX.out, HBZ.out]; rfl, hfin 0 0⟩
    | true =>
      cases bz with
      | false =>
        go_wp2
        have z0 := blk_cell (hblk 0 0) 0
        have z1 := blk_cell (hblk 0 0) 1
        exact bodyPost_ret (v := .tuple #[.agg #[.int .i64 0, .int .i64 0], .int .i64 3]) (by simp [results, Tryd.results69, go_sem, z0, z1]) rfl ⟨by rw [← HF.out, ← HE.out, HBX.out, HBZ.out]; rfl, hfin 0 0⟩
      | true =>
        go_wp2
        have z0 := blk_cell (hblk nx ny) 0
        have z1 := blk_cell (hblk nx ny) 1
        exact bodyPost_ret (v := .tuple #[.agg #[.int .i64 nx, .int .i64 ny], .int .i64 0]) (by simp [results, Tryd.results69, go_sem, z0, z1]) rfl ⟨by rw [← HF.out, ← HE.out, HBX.out, HBZ.out, HNX.out, HNY.out]; rfl, hfin nx ny⟩

end Go.Proofs.YtlobdeakgoicpaaDoor
