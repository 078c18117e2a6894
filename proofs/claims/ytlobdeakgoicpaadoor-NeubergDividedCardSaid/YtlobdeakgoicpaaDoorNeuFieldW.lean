/- The walk of neuberg.Field for results that are right. -/
import Derived.Test.YtlobdeakgoicpaaDoorNeuAdjW
import Derived.Test.YtlobdeakgoicpaaDoorMatBits
namespace Go.Proofs.YtlobdeakgoicpaaDoor
open Go.RowKit

/-- The first matchpoints adjusted, the others not yet. -/
def mixF (L : List (List Pt)) (all : Int) (k : Nat) : List Pt := (adjL L all).take k ++ (ptsL L).drop k
theorem mix_zero (L : List (List Pt)) (all : Int) : mixF L all 0 = ptsL L := rfl
theorem mix_all (L : List (List Pt)) (all : Int) : mixF L all L.length = adjL L all := by
  unfold mixF
  rw [List.take_of_length_le (by rw [adjL_len]; exact Nat.le_refl _), List.drop_of_length_le (by rw [ptsL_len]; exact Nat.le_refl _), List.append_nil]
theorem mix_len (L : List (List Pt)) (all : Int) (k : Nat) (h : k ≤ L.length) : (mixF L all k).length = L.length := by
  unfold mixF; rw [List.length_append, List.length_take, List.length_drop, adjL_len, ptsL_len]; omega
theorem mix_get (L : List (List Pt)) (all : Int) (k : Nat) (h : k < L.length) : (mixF L all k)[k]? = some ((ptsL L)[k]'(by rw [ptsL_len]; exact h)) := by
  unfold mixF
  rw [List.getElem?_append_right (by rw [List.length_take, adjL_len]; omega), List.length_take, adjL_len, List.getElem?_drop, show k + (k - min k L.length) = k by omega, List.getElem?_eq_getElem (by rw [ptsL_len]; exact h)]
theorem mix_succ (L : List (List Pt)) (all : Int) (k : Nat) (h : k < L.length) : (mixF L all k).set k ((adjL L all)[k]'(by rw [adjL_len]; exact h)) = mixF L all (k + 1) := by
  unfold mixF
  have hm : k - min k (adjL L all).length = 0 := by rw [adjL_len]; omega
  rw [List.set_append_right _ _ (by rw [List.length_take, adjL_len]; omega), List.length_take, hm, List.take_succ_eq_append_getElem (by rw [adjL_len]; exact h), List.append_assoc]
  congr 1
  rw [List.drop_eq_getElem_cons (by rw [ptsL_len]; exact h)]
  rfl
theorem pC_set2 (T : List Pt) : ∀ (k : Nat) (_ : k < T.length) (p : Pt), ((pC T).set (k * 2) (.int .i64 p.1)).set (k * 2 + 1) (.int .i64 p.2) = pC (T.set k p) := by
  induction T with
  | nil => intro k h; simp at h
  | cons q T ih =>
    intro k h p
    have e : ∀ (q : Pt) (T : List Pt), pC (q :: T) = .int .i64 q.1 :: .int .i64 q.2 :: pC T := fun q T => rfl
    cases k with
    | zero => rw [e]; rfl
    | succ k =>
      rw [show (k + 1) * 2 = k * 2 + 1 + 1 by omega, e, List.set_cons_succ, List.set_cons_succ, List.set_cons_succ, List.set_cons_succ, ih k (by simpa using h) p]
      rfl

set_option maxHeartbeats 2000000 in
theorem nfield (L : List (List Pt)) (A : Option Addr) (c : Nat) (all : Int) (w : World) (hL : Laid w) (hA : RdL w w.heap.size A L) (hn : (L.length : Int) ≤ all) (ha : 1 ≤ all ∧ all ≤ 24) (hro : ∀ o ∈ L, rightM o = true) :
    Calls Tryd.prog 21 #[.slice A L.length c, .int .i64 all] w fun e w' => ∃ v, e = .returned (.tuple #[v, .int .i64 0]) ∧ w'.ownsRow w.heap.size 23 2 v L.length (pC (adjL L all)) ∧ Below w.heap.size w w' := by
  have HB := Lib.hid (fun W => (nboard all W).mono fun e w' (h : e = .returned (.bool (decide (1 ≤ all ∧ all ≤ 24))) ∧ w' = W) => (show e = .returned (.bool (decide (1 ≤ all ∧ all ≤ 24))) ∧ W = w' from ⟨h.1, h.2.symm⟩))
  rw [decide_eq_true ha] at HB
  have HP := Lib.hid (points_any L A c w hL hA (by omega) hro)
  have Hro := Lib.hid hro
  have t1 : decide ((L.length : Int) > all) = false := decide_eq_false (by omega)
  have t1' : decide (all < (L.length : Int)) = false := decide_eq_false (by omega)
  clear hL hA hro
  go_enter Tryd.func21, Tryd.ntmps21
  go_wp2_with fail
  refine (HB.out _).mono ?_
  rintro ee we ⟨rfl, rfl⟩
  go_wp2_with fail
  refine HP.out.mono ?_
  rintro e w1 ⟨v, rfl, ho1, hb1⟩
  have h1 := hb1.size
  clear HP HB
  by_cases hz : L.length = 0
  · obtain ⟨P, cp, rfl⟩ := own_form ho1
    have hnil : L = [] := List.eq_nil_of_length_eq_zero hz
    subst hnil
    go_wp2_with fail
    go_loopw [29] (fun i wr => i = .int .i64 0 ∧ w1 = wr) (fun i _ => 0)
    case atStart => exact ⟨rfl, rfl⟩
    case round =>
      obtain ⟨rfl, rfl⟩ := hrel
      go_wp2
      go_ret2
      exact ⟨_, rfl, ho1, hb1⟩
  rcases ho1.2 with ⟨_, h0⟩ | ⟨g, cap, cur, rfl, hgb, hblk, hnc, hcm, hcs, htk⟩
  · omega
  have Htk := Lib.hid (show cur.toList.take (L.length * 2) = pC (mixF L all 0) from htk)
  have hgl := blk_lt hblk
  clear htk ho1
  go_wp2_with fail
  go_loopw [29] (fun i wr => ∃ (k : Nat) (cs : Array Value), k ≤ L.length ∧ i = .int .i64 (k : Int) ∧ wr.heap[g]? = some (.cells cs 23 (0, 0)) ∧ cs.size = cap * 2 ∧ Hid (cs.toList.take (L.length * 2) = pC (mixF L all k)) ∧ Below w.heap.size w wr) (fun i _ => L.length - (intOf i).toNat)
  case atStart => exact ⟨0, cur, by omega, rfl, hblk, hcs, Htk.out, hb1⟩
  case round =>
    obtain ⟨k, cs, hk, rfl, hb, hsz, htk, hbel⟩ := hrel
    have hsr := hbel.size
    have hgr := blk_lt hb
    by_cases hlt : k < L.length
    · have hg := mix_get L all k hlt
      have hcell : ∀ j, j < L.length * 2 → wr.cell? ⟨g, j, none⟩ = (pC (mixF L all k))[j]? := fun j hj => by
        rw [blk_cell hb j, ← htk.out, List.getElem?_take_of_lt hj]; simp
      have hml := mix_len L all k hk
      have hget := pC_get (mixF L all k) k (by omega)
      have hmk : (mixF L all k)[k]'(by omega) = (ptsL L)[k]'(by rw [ptsL_len]; exact hlt) := by rw [List.getElem?_eq_getElem (by omega)] at hg; exact Option.some.inj hg
      rw [hmk] at hget
      have d0 := (hcell (k * 2) (by omega)).trans hget.1
      have d1 := (hcell (k * 2 + 1) (by omega)).trans hget.2
      obtain ⟨r1, r2, r3, r4, -, -⟩ := adj_rng L Hro.out all (by omega) ⟨hn, ha.2⟩ k hlt
      have hask := adj_asks L Hro.out k hlt _ rfl
      have HQ := Lib.hid (fun W => nadjust _ (L.length : Int) all W ⟨by omega, hn⟩ ha.2 hask r1 r2 r3)
      have Hs := Lib.hid (show (mixF L all k).set k (adjF ((ptsL L)[k]'(by rw [ptsL_len]; exact hlt)) L.length all) = mixF L all (k + 1) by rw [← mix_succ L all k hlt, adjL_pt L all k hlt])
      clear hcell hml hget hmk hg r1 r2 r3 r4 hask
      generalize adjF ((ptsL L)[k]'_) (L.length : Int) all = r at HQ Hs
      generalize (ptsL L)[k]'_ = f at d0 d1 HQ
      obtain ⟨f1, f2⟩ := f
      obtain ⟨x, y⟩ := r
      unfold fV at HQ
      dsimp only at HQ d0 d1
      go_wp2_with fail
      refine (HQ.out _).mono ?_
      rintro ee wa ⟨rfl, hba⟩
      have hbw : Below wr.heap.size wr wa := ((Below.refl _ _).alloc (Nat.le_refl _) _).trans (hba.mono (by simp))
      have hb2 := blk_below hb hbw hgr
      have e0 := (hbw.cell (p := ⟨g, k * 2, none⟩) hgr).trans d0
      have e1 := (hbw.cell (p := ⟨g, k * 2 + 1, none⟩) hgr).trans d1
      have g0 := blk_free hb2 (k * 2)
      have g1 := blk_free hb2 (k * 2 + 1)
      have hB2 := hbel.trans (hbw.mono hsr)
      go_wp2
      go_roundw
      case rel =>
        refine ⟨k + 1, _, by omega, by go_num, blk_set (blk_set hb2 (k * 2) _) (k * 2 + 1) _, by simp [hsz], ?_, (hB2.setCell hgb _).setCell hgb _⟩
        show _ = pC (mixF L all (k + 1))
        rw [take_set_, take_set_, htk.out, ← Hs.out]
        exact pC_set2 _ k (by rw [mix_len L all k hk]; exact hlt) (x, y)
      case measure => simp [intOf]; omega
    · have t0 : decide ((k : Int) < (L.length : Int)) = false := decide_eq_false (by omega)
      obtain rfl : k = L.length := by omega
      have Hx := Lib.hid (show cs.toList.take (L.length * 2) = pC (adjL L all) by rw [htk.out, mix_all])
      go_wp2
      go_ret2
      exact ⟨_, rfl, ⟨by rw [pC_len, adjL_len], .inr ⟨g, cap, cs, rfl, hgb, hb, hnc, hcm, hsz, Hx.out⟩⟩, hbel⟩

end Go.Proofs.YtlobdeakgoicpaaDoor
