/- The walks of the digit lists of finesseref01: trim, whole, less, add, scale, sub. -/
import Derived.Test.YtlobdeakgoicpaaDoorDig
import Derived.Test.YtlobdeakgoicpaaDoorAppend
import Derived.Test.YtlobdeakgoicpaaDoorMatW
namespace Go.Proofs.YtlobdeakgoicpaaDoor
open Go.RowKit

theorem info_int : (Tryd.prog.info? 3).map (fun i => (i.zero, i.size, i.bytes)) = some (some (.int .i64 0), 1, 8) := by kernel_rfl
/-- A digit of a slice. -/
theorem rd_d {w : World} {B n k : Nat} {A : Option Addr} (h : Rd w B 1 A k (dC n k)) (i : Nat) (hi : i < k) : ∃ b off, A = some ⟨b, off, none⟩ ∧ b < B ∧ w.cell? ⟨b, off + i, none⟩ = some (.int .i64 ((dg n i : Nat) : Int)) := by
  obtain ⟨b, off, e, hb, hc⟩ := h.pos (by omega)
  exact ⟨b, off, e, hb, (hc i (by rw [dC_len]; exact hi)).trans (dC_get n k i hi)⟩
theorem Rd.dpre {w : World} {B n k : Nat} {A : Option Addr} (h : Rd w B 1 A k (dC n k)) (j : Nat) (hj : j ≤ k) : Rd w B 1 A j (dC n j) := by
  have h1 := h.pre hj
  rw [Nat.mul_one, dC_take n k j hj] at h1
  exact h1

/-- A slice of digits. -/
def DS (w : World) (n k : Nat) (A : Option Addr) (c : Nat) : Prop := (A = none → c = 0) ∧ Rd w w.heap.size 1 A k (dC n k) ∧ k ≤ c ∧ c ≤ 9223372036854775807
theorem DS.go {w w' : World} {n k c : Nat} {A : Option Addr} (h : DS w n k A c) (hb : Below w.heap.size w w') : DS w' n k A c := ⟨h.1, ⟨h.2.1.1, fun hk => by
    obtain ⟨b, off, e, hl, hc⟩ := h.2.1.2 hk
    exact ⟨b, off, e, Nat.lt_of_lt_of_le hl hb.size, fun j hj => (bcell hb b _ hl).trans (hc j hj)⟩⟩, h.2.2⟩
theorem DS.pre {w : World} {n k c : Nat} {A : Option Addr} (h : DS w n k A c) (j : Nat) (hj : j ≤ k) : DS w n j A c := ⟨h.1, h.2.1.dpre j hj, by have := h.2.2.1; omega, h.2.2.2⟩
theorem DS.of_own {w : World} {base e n k c : Nat} {A : Option Addr} (h : w.ownsRow base e 1 (.slice A k c) k (dC n k)) : DS w n k A c := by
  refine ⟨own_src h, Rd.of_own h, ?_⟩
  rcases h.2 with ⟨hv, rfl⟩ | ⟨g, cap, cur, hv, _, _, h4, h5, _⟩
  · injection hv with _ _ hc; subst hc; exact ⟨Nat.le_refl _, by decide⟩
  · injection hv with _ _ hc; subst hc
    exact ⟨h4, by unfold maxLen at h5; omega⟩
theorem DS.digit {w : World} {n k c : Nat} {A : Option Addr} (h : DS w n k A c) (i : Nat) (hi : i < k) : ∃ b off, A = some ⟨b, off, none⟩ ∧ b < w.heap.size ∧ w.cell? ⟨b, off + i, none⟩ = some (.int .i64 ((dg n i : Nat) : Int)) := rd_d h.2.1 i hi
/-- What a function of digits returns. -/
def OutD (n : Nat) (w : World) (e : Ending) (w' : World) : Prop := ∃ A c, e = .returned (.slice A (ln n) c) ∧ DS w' n (ln n) A c ∧ (∀ ad, A = some ad → w.heap.size ≤ ad.block) ∧ Below w.heap.size w w'
theorem own_new {w' : World} {B e k c : Nat} {A : Option Addr} {xs : List Value} (h : w'.ownsRow B e 1 (.slice A k c) k xs) : ∀ ad, A = some ad → B ≤ ad.block := by
  rintro ad rfl
  rcases h.2 with ⟨hv, _⟩ | ⟨g, cap, cur, hv, hB, _⟩
  · injection hv with h1; cases h1
  · injection hv with h1
    obtain rfl := Option.some.inj h1
    exact hB

set_option maxRecDepth 100000 in
set_option maxHeartbeats 1000000 in
theorem r01trim (n k : Nat) (A : Option Addr) (c : Nat) (w : World) (hn : n < Bs ^ k) (h : DS w n k A c) (_ : k ≤ 1000) :
    Calls Tryd.prog 85 #[.slice A k c] w fun e w' => e = .returned (.slice A (ln n) c) ∧ w' = w := by
  have HR := Lib.hid h.2.1
  have HN := Lib.hid hn
  have hc := h.2.2
  clear h hn
  go_enter Tryd.func85, Tryd.ntmps85
  go_wp2
  go_loopw [0] (fun v wr => ∃ j : Nat, j ≤ k ∧ v = .slice A j c ∧ Hid (n < Bs ^ j) ∧ wr = w) (fun v _ => match v with | .slice _ j _ => j | _ => 0)
  case atStart => exact ⟨k, Nat.le_refl _, rfl, HN.out, rfl⟩
  case round =>
    obtain ⟨j, hj, rfl, hz, rfl⟩ := hrel
    by_cases h0 : 0 < j
    · obtain ⟨b, off, rfl, hb, hd⟩ := rd_d HR.out (j - 1) (by omega)
      have hcast : (j : Int) - 1 = ((j - 1 : Nat) : Int) := by omega
      have hc1 : (0 : Int) < (j : Int) := by omega
      have HT := Lib.hid (fun h => trim_step h0 hz.out h)
      have HP := Lib.hid (fun h => trim_stop h0 hz.out h)
      generalize dg n (j - 1) = d at *
      by_cases hd0 : d = 0
      · subst hd0
        have HT2 := Lib.hid (HT.out rfl)
        clear HT HP
        go_wp2
        go_roundw
        case rel => exact ⟨j - 1, by omega, by go_num, HT2.out, trivial⟩
        case measure => show j - 1 < j; omega
      · have HP2 := Lib.hid (HP.out hd0)
        have hdi : ((d : Int) == 0) = false := beq_eq_false_iff_ne.2 (by omega)
        clear HT HP
        go_wp2
        go_ret
        exact ⟨by rw [HP2.out]; rfl, rfl⟩
    · obtain rfl : j = 0 := by omega
      have h1 : ln n = 0 := by have := ln_min 0 n hz.out; omega
      have H1 := Lib.hid h1
      go_wp2
      go_ret
      exact ⟨by rw [H1.out]; rfl, rfl⟩

/-- One more digit appended to a row of digits. -/
theorem dC_snoc {n k d : Nat} (h : dg n k = d) : dC n k ++ [.int .i64 (d : Int)] = dC n (k + 1) := by rw [dC_succ, h]

set_option maxRecDepth 100000 in
set_option maxHeartbeats 1000000 in
theorem r01add (a b : Nat) (A B : Option Addr) (ca cb : Nat) (w : World) (ha : DS w a (ln a) A ca) (hb : DS w b (ln b) B cb) (hla : ln a ≤ 100) (hlb : ln b ≤ 100) :
    Calls Tryd.prog 84 #[.slice A (ln a) ca, .slice B (ln b) cb] w (OutD (a + b) w) := by
  obtain ⟨i0, hi, hz0, hz1, hz2⟩ := info_parts info_int
  have HA := Lib.hid ha
  have HB := Lib.hid hb
  have hla0 : a < Bs ^ ln a := ln_lt a
  have hlb0 : b < Bs ^ ln b := ln_lt b
  have HLa := Lib.hid hla0
  have HLb := Lib.hid hlb0
  have HGa := Lib.hid (fun k => @ln_ge a k)
  have HGb := Lib.hid (fun k => @ln_ge b k)
  clear ha hb hla0 hlb0
  generalize ln a = la at *
  generalize ln b = lb at *
  go_enter Tryd.func84, Tryd.ntmps84
  go_wp2
  go_loopw [5, 6, 7] (fun v cv i wr => ∃ (k cy : Nat), k ≤ 101 ∧ i = .int .i64 (k : Int) ∧ cv = .int .i64 (cy : Int) ∧ cy ≤ 1 ∧ Hid ((a + b) / Bs ^ k = cy + a / Bs ^ k + b / Bs ^ k) ∧ Hid (k = 0 ∨ Bs ^ (k - 1) ≤ a + b) ∧ Hid (wr.ownsRow w.heap.size 3 1 v k (dC (a + b) k)) ∧ Hid (Below w.heap.size w wr)) (fun _ _ i _ => 200 - (intOf i).toNat)
  case atStart => exact ⟨0, 0, by omega, rfl, rfl, by omega, (by show (a + b) / Bs ^ 0 = 0 + a / Bs ^ 0 + b / Bs ^ 0; simp), .inl rfl, own_nil, Below.refl _ _⟩
  case round =>
    obtain ⟨k, cy, hk, rfl, rfl, hcy, hz, hmin, hown, hbel⟩ := hrel
    have Hs := Lib.hid (add_step hz.out hcy)
    have hda := dg_lt a k
    have hdb := dg_lt b k
    have HMin := Lib.hid (show (k < la ∨ k < lb ∨ 0 < cy) → Bs ^ k ≤ a + b from fun h => by
      rcases h with h | h | h
      · exact Nat.le_trans (HGa.out k h) (Nat.le_add_right _ _)
      · exact Nat.le_trans (HGb.out k h) (Nat.le_add_left _ _)
      · have h5 := hz.out
        rcases Nat.lt_or_ge (a + b) (Bs ^ k) with h6 | h6
        · rw [Nat.div_eq_of_lt h6] at h5; generalize a / Bs ^ k = x at h5; generalize b / Bs ^ k = y at h5; omega
        · exact h6)
    have HKl := Lib.hid (show (k < la ∨ k < lb ∨ 0 < cy) → k < 101 from fun h => by
      rcases h with h | h | h
      · omega
      · omega
      · rcases Nat.lt_or_ge k 101 with h6 | h6
        · exact h6
        · obtain rfl : k = 101 := by omega
          have h7 := hz.out
          have h8 : a < Bs ^ 100 := Nat.lt_of_lt_of_le HLa.out (bs_le hla)
          have h9 : b < Bs ^ 100 := Nat.lt_of_lt_of_le HLb.out (bs_le hlb)
          have h10 : (a + b) / Bs ^ 101 = 0 := Nat.div_eq_of_lt (by
            have e : Bs ^ 101 = 65536 * Bs ^ 100 := by rw [Nat.pow_succ, Nat.mul_comm]
            rw [e]
            generalize Bs ^ 100 = P at *
            omega)
          rw [h10] at h7
          generalize a / Bs ^ 101 = x at h7
          generalize b / Bs ^ 101 = y at h7
          omega)
    have j0 : (0 : Int) ≤ (k : Int) := by omega
    by_cases h1 : k < la
    · by_cases h2 : k < lb
      · obtain ⟨pa, oa, rfl, hpa, hqa⟩ := HA.out.digit k h1
        have qa := (bcell hbel.out pa _ hpa).trans hqa
        have i1 : (k : Int) < (la : Int) := by omega
        obtain ⟨pb, ob, rfl, hpb, hqb⟩ := HB.out.digit k h2
        have qb := (bcell hbel.out pb _ hpb).trans hqb
        have i2 : (k : Int) < (lb : Int) := by omega
        generalize dg a k = da at *
        generalize dg b k = db at *
        have Hs2 : Hid (dg (a + b) k = (cy + da + db) % 65536 ∧ (a + b) / Bs ^ (k + 1) = (cy + da + db) / 65536 + a / Bs ^ (k + 1) + b / Bs ^ (k + 1) ∧ (cy + da + db) / 65536 ≤ 1) := Lib.hid (by have h := Hs.out; simpa using h)
        have w1 := IntWalk.i64_in ((cy : Int) + (da : Int)) (by omega)
        have w2 := IntWalk.i64_in ((cy : Int) + (da : Int) + (db : Int)) (by omega)
        have m1 : Int.tmod ((cy : Int) + (da : Int) + (db : Int)) 65536 = (((cy + da + db) % 65536 : Nat) : Int) := by rw [Int.tmod_eq_emod_of_nonneg (by omega)]; omega
        have m2 : Int.tdiv ((cy : Int) + (da : Int) + (db : Int)) 65536 = (((cy + da + db) / 65536 : Nat) : Int) := by rw [Int.tdiv_eq_ediv_of_nonneg (by omega)]; omega
        have hlt2 : (cy + da + db) % 65536 < 65536 := Nat.mod_lt _ (by decide)
        have hle2 : (cy + da + db) / 65536 ≤ 1 := Hs2.out.2.2
        generalize hd : (cy + da + db) % 65536 = d at *
        generalize hc : (cy + da + db) / 65536 = cn at *
        have hk1 : k < 101 := HKl.out (.inl h1)
        clear Hs HKl
        go_wp2_with (at_builtin; refine wpList_append_own _ rfl _ _ 52 rfl w.heap.size 3 i0 (.int .i64 0) 1 8 Tryd.underlying52 hi hz0 hz1 hz2 rfl (by decide) _ _ _ rfl (hown.out.alloc _) ⟨wr.heap.size, 0, none⟩ 1 1 [.int .i64 (d : Int)] rfl rfl (cell_one_new _ _ _) (by simp [Value.oneCell']) ?c3a ?c4a ?c5a ?_)
        case c3a => unfold maxLen; omega
        case c4a => omega
        case c5a => first | exact Nat.le_succ_of_le hbel.out.size | (simp; exact Nat.le_succ_of_le hbel.out.size)
        intro v' w1 hown1 hgrow _
        have HO1 := Lib.hid hown1
        have HB1 := Lib.hid (show Below w.heap.size w w1 from (hbel.out.alloc hbel.out.size _).grown hgrow (by simp; exact Nat.le_succ_of_le hbel.out.size) (fun g hg => (hown.out.lt _ hg).1))
        clear hown1 hgrow
        go_wp2
        go_roundw
        case rel =>
          refine ⟨k + 1, cn, by omega, by go_num, rfl, by omega, Hs2.out.2.1, ?_, ?_, HB1.out⟩
          · show k + 1 = 0 ∨ Bs ^ (k + 1 - 1) ≤ a + b
            exact .inr (HMin.out (.inl h1))
          · show w1.ownsRow _ _ 1 v' (k + 1) (dC (a + b) (k + 1))
            rw [← dC_snoc Hs2.out.1]; exact HO1.out
        case measure => simp [intOf]; omega
      · obtain ⟨pa, oa, rfl, hpa, hqa⟩ := HA.out.digit k h1
        have qa := (bcell hbel.out pa _ hpa).trans hqa
        have i1 : (k : Int) < (la : Int) := by omega
        have i2 : ¬ (k : Int) < (lb : Int) := by omega
        generalize dg a k = da at *
        have z2 : dg b k = 0 := dg_zero (Nat.lt_of_lt_of_le HLb.out (bs_le (by omega)))
        rw [z2] at Hs
        have Hs2 : Hid (dg (a + b) k = (cy + da) % 65536 ∧ (a + b) / Bs ^ (k + 1) = (cy + da) / 65536 + a / Bs ^ (k + 1) + b / Bs ^ (k + 1) ∧ (cy + da) / 65536 ≤ 1) := Lib.hid (by have h := Hs.out; simpa using h)
        have w1 := IntWalk.i64_in ((cy : Int) + (da : Int)) (by omega)
        have m1 : Int.tmod ((cy : Int) + (da : Int)) 65536 = (((cy + da) % 65536 : Nat) : Int) := by rw [Int.tmod_eq_emod_of_nonneg (by omega)]; omega
        have m2 : Int.tdiv ((cy : Int) + (da : Int)) 65536 = (((cy + da) / 65536 : Nat) : Int) := by rw [Int.tdiv_eq_ediv_of_nonneg (by omega)]; omega
        have hlt2 : (cy + da) % 65536 < 65536 := Nat.mod_lt _ (by decide)
        have hle2 : (cy + da) / 65536 ≤ 1 := Hs2.out.2.2
        generalize hd : (cy + da) % 65536 = d at *
        generalize hc : (cy + da) / 65536 = cn at *
        have hk1 : k < 101 := HKl.out (.inl h1)
        clear Hs HKl
        go_wp2_with (at_builtin; refine wpList_append_own _ rfl _ _ 52 rfl w.heap.size 3 i0 (.int .i64 0) 1 8 Tryd.underlying52 hi hz0 hz1 hz2 rfl (by decide) _ _ _ rfl (hown.out.alloc _) ⟨wr.heap.size, 0, none⟩ 1 1 [.int .i64 (d : Int)] rfl rfl (cell_one_new _ _ _) (by simp [Value.oneCell']) ?c3b ?c4b ?c5b ?_)
        case c3b => unfold maxLen; omega
        case c4b => omega
        case c5b => first | exact Nat.le_succ_of_le hbel.out.size | (simp; exact Nat.le_succ_of_le hbel.out.size)
        intro v' w1 hown1 hgrow _
        have HO1 := Lib.hid hown1
        have HB1 := Lib.hid (show Below w.heap.size w w1 from (hbel.out.alloc hbel.out.size _).grown hgrow (by simp; exact Nat.le_succ_of_le hbel.out.size) (fun g hg => (hown.out.lt _ hg).1))
        clear hown1 hgrow
        go_wp2
        go_roundw
        case rel =>
          refine ⟨k + 1, cn, by omega, by go_num, rfl, by omega, Hs2.out.2.1, ?_, ?_, HB1.out⟩
          · show k + 1 = 0 ∨ Bs ^ (k + 1 - 1) ≤ a + b
            exact .inr (HMin.out (.inl h1))
          · show w1.ownsRow _ _ 1 v' (k + 1) (dC (a + b) (k + 1))
            rw [← dC_snoc Hs2.out.1]; exact HO1.out
        case measure => simp [intOf]; omega
    · by_cases h2 : k < lb
      · have i1 : ¬ (k : Int) < (la : Int) := by omega
        obtain ⟨pb, ob, rfl, hpb, hqb⟩ := HB.out.digit k h2
        have qb := (bcell hbel.out pb _ hpb).trans hqb
        have i2 : (k : Int) < (lb : Int) := by omega
        have z1 : dg a k = 0 := dg_zero (Nat.lt_of_lt_of_le HLa.out (bs_le (by omega)))
        rw [z1] at Hs
        generalize dg b k = db at *
        have Hs2 : Hid (dg (a + b) k = (cy + db) % 65536 ∧ (a + b) / Bs ^ (k + 1) = (cy + db) / 65536 + a / Bs ^ (k + 1) + b / Bs ^ (k + 1) ∧ (cy + db) / 65536 ≤ 1) := Lib.hid (by have h := Hs.out; simpa using h)
        have w2 := IntWalk.i64_in ((cy : Int) + (db : Int)) (by omega)
        have m1 : Int.tmod ((cy : Int) + (db : Int)) 65536 = (((cy + db) % 65536 : Nat) : Int) := by rw [Int.tmod_eq_emod_of_nonneg (by omega)]; omega
        have m2 : Int.tdiv ((cy : Int) + (db : Int)) 65536 = (((cy + db) / 65536 : Nat) : Int) := by rw [Int.tdiv_eq_ediv_of_nonneg (by omega)]; omega
        have hlt2 : (cy + db) % 65536 < 65536 := Nat.mod_lt _ (by decide)
        have hle2 : (cy + db) / 65536 ≤ 1 := Hs2.out.2.2
        generalize hd : (cy + db) % 65536 = d at *
        generalize hc : (cy + db) / 65536 = cn at *
        have hk1 : k < 101 := HKl.out (.inr (.inl h2))
        clear Hs HKl
        go_wp2_with (at_builtin; refine wpList_append_own _ rfl _ _ 52 rfl w.heap.size 3 i0 (.int .i64 0) 1 8 Tryd.underlying52 hi hz0 hz1 hz2 rfl (by decide) _ _ _ rfl (hown.out.alloc _) ⟨wr.heap.size, 0, none⟩ 1 1 [.int .i64 (d : Int)] rfl rfl (cell_one_new _ _ _) (by simp [Value.oneCell']) ?c3c ?c4c ?c5c ?_)
        case c3c => unfold maxLen; omega
        case c4c => omega
        case c5c => first | exact Nat.le_succ_of_le hbel.out.size | (simp; exact Nat.le_succ_of_le hbel.out.size)
        intro v' w1 hown1 hgrow _
        have HO1 := Lib.hid hown1
        have HB1 := Lib.hid (show Below w.heap.size w w1 from (hbel.out.alloc hbel.out.size _).grown hgrow (by simp; exact Nat.le_succ_of_le hbel.out.size) (fun g hg => (hown.out.lt _ hg).1))
        clear hown1 hgrow
        go_wp2
        go_roundw
        case rel =>
          refine ⟨k + 1, cn, by omega, by go_num, rfl, by omega, Hs2.out.2.1, ?_, ?_, HB1.out⟩
          · show k + 1 = 0 ∨ Bs ^ (k + 1 - 1) ≤ a + b
            exact .inr (HMin.out (.inr (.inl h2)))
          · show w1.ownsRow _ _ 1 v' (k + 1) (dC (a + b) (k + 1))
            rw [← dC_snoc Hs2.out.1]; exact HO1.out
        case measure => simp [intOf]; omega
      · by_cases h3 : 0 < cy
        · have i3 : (0 : Int) < (cy : Int) := by omega
          have i1 : ¬ (k : Int) < (la : Int) := by omega
          have i2 : ¬ (k : Int) < (lb : Int) := by omega
          have z1 : dg a k = 0 := dg_zero (Nat.lt_of_lt_of_le HLa.out (bs_le (by omega)))
          rw [z1] at Hs
          have z2 : dg b k = 0 := dg_zero (Nat.lt_of_lt_of_le HLb.out (bs_le (by omega)))
          rw [z2] at Hs
          have Hs2 : Hid (dg (a + b) k = (cy) % 65536 ∧ (a + b) / Bs ^ (k + 1) = (cy) / 65536 + a / Bs ^ (k + 1) + b / Bs ^ (k + 1) ∧ (cy) / 65536 ≤ 1) := Lib.hid (by have h := Hs.out; simpa using h)
          have m1 : Int.tmod ((cy : Int)) 65536 = (((cy) % 65536 : Nat) : Int) := by rw [Int.tmod_eq_emod_of_nonneg (by omega)]; omega
          have m2 : Int.tdiv ((cy : Int)) 65536 = (((cy) / 65536 : Nat) : Int) := by rw [Int.tdiv_eq_ediv_of_nonneg (by omega)]; omega
          have hlt2 : (cy) % 65536 < 65536 := Nat.mod_lt _ (by decide)
          have hle2 : (cy) / 65536 ≤ 1 := Hs2.out.2.2
          generalize hd : (cy) % 65536 = d at *
          generalize hc : (cy) / 65536 = cn at *
          have hk1 : k < 101 := HKl.out (.inr (.inr h3))
          clear Hs HKl
          go_wp2_with (at_builtin; refine wpList_append_own _ rfl _ _ 52 rfl w.heap.size 3 i0 (.int .i64 0) 1 8 Tryd.underlying52 hi hz0 hz1 hz2 rfl (by decide) _ _ _ rfl (hown.out.alloc _) ⟨wr.heap.size, 0, none⟩ 1 1 [.int .i64 (d : Int)] rfl rfl (cell_one_new _ _ _) (by simp [Value.oneCell']) ?c3d ?c4d ?c5d ?_)
          case c3d => unfold maxLen; omega
          case c4d => omega
          case c5d => first | exact Nat.le_succ_of_le hbel.out.size | (simp; exact Nat.le_succ_of_le hbel.out.size)
          intro v' w1 hown1 hgrow _
          have HO1 := Lib.hid hown1
          have HB1 := Lib.hid (show Below w.heap.size w w1 from (hbel.out.alloc hbel.out.size _).grown hgrow (by simp; exact Nat.le_succ_of_le hbel.out.size) (fun g hg => (hown.out.lt _ hg).1))
          clear hown1 hgrow
          go_wp2
          go_roundw
          case rel =>
            refine ⟨k + 1, cn, by omega, by go_num, rfl, by omega, Hs2.out.2.1, ?_, ?_, HB1.out⟩
            · show k + 1 = 0 ∨ Bs ^ (k + 1 - 1) ≤ a + b
              exact .inr (HMin.out (.inr (.inr h3)))
            · show w1.ownsRow _ _ 1 v' (k + 1) (dC (a + b) (k + 1))
              rw [← dC_snoc Hs2.out.1]; exact HO1.out
          case measure => simp [intOf]; omega
        · obtain rfl : cy = 0 := by omega
          have i1 : ¬ (k : Int) < (la : Int) := by omega
          have i2 : ¬ (k : Int) < (lb : Int) := by omega
          have hend : a + b < Bs ^ k := by
            have h := hz.out
            rw [Nat.div_eq_of_lt (Nat.lt_of_lt_of_le HLa.out (bs_le (Nat.le_of_not_lt h1))), Nat.div_eq_of_lt (Nat.lt_of_lt_of_le HLb.out (bs_le (Nat.le_of_not_lt h2)))] at h
            rcases Nat.lt_or_ge (a + b) (Bs ^ k) with h5 | h5
            · exact h5
            · have := Nat.div_pos h5 (bs_pos k); omega
          have HE := Lib.hid (ln_eq hend hmin.out)
          clear hend Hs
          go_wp2
          obtain ⟨A1, c1, rfl⟩ := own_form hown.out
          have HE2 := HE.out
          go_ret
          exact ⟨A1, c1, by rw [HE2]; rfl, by rw [HE2]; exact DS.of_own hown.out, own_new hown.out, hbel.out⟩
set_option maxRecDepth 100000 in
set_option maxHeartbeats 1000000 in
theorem r01scale (a m : Nat) (A : Option Addr) (ca : Nat) (w : World) (ha : DS w a (ln a) A ca) (hla : ln a ≤ 100) (hm : m ≤ 65535) :
    Calls Tryd.prog 86 #[.slice A (ln a) ca, .int .i64 (m : Int)] w (OutD (a * m) w) := by
  obtain ⟨i0, hi, hz0, hz1, hz2⟩ := info_parts info_int
  have HA := Lib.hid ha
  have hla0 : a < Bs ^ ln a := ln_lt a
  have HLa := Lib.hid hla0
  clear ha hla0
  generalize ln a = la at *
  go_enter Tryd.func86, Tryd.ntmps86
  go_wp2
  go_loopw [5, 6, 7] (fun v cv i wr => ∃ (k cy : Nat), k ≤ 101 ∧ i = .int .i64 (k : Int) ∧ cv = .int .i64 (cy : Int) ∧ cy ≤ 65535 ∧ Hid (a * m / Bs ^ k = cy + a / Bs ^ k * m) ∧ Hid (wr.ownsRow w.heap.size 3 1 v k (dC (a * m) k)) ∧ Hid (Below w.heap.size w wr)) (fun _ _ i _ => 200 - (intOf i).toNat)
  case atStart => exact ⟨0, 0, by omega, rfl, rfl, by omega, (by show a * m / Bs ^ 0 = 0 + a / Bs ^ 0 * m; simp), own_nil, Below.refl _ _⟩
  case round =>
    obtain ⟨k, cy, hk, rfl, rfl, hcy, hz, hown, hbel⟩ := hrel
    have Hs := Lib.hid (scale_step hz.out hcy hm)
    have hda := dg_lt a k
    have HKl := Lib.hid (show (k < la ∨ 0 < cy) → k < 101 from fun h => by
      rcases h with h | h
      · omega
      · rcases Nat.lt_or_ge k 101 with h6 | h6
        · exact h6
        · obtain rfl : k = 101 := by omega
          have h7 := hz.out
          have h8 : a < Bs ^ 100 := Nat.lt_of_lt_of_le HLa.out (bs_le hla)
          have h10 : a * m / Bs ^ 101 = 0 := Nat.div_eq_of_lt (by
            have e : Bs ^ 101 = Bs ^ 100 * 65536 := Nat.pow_succ ..
            rw [e]
            refine Nat.lt_of_le_of_lt (Nat.mul_le_mul_left a hm) ?_
            generalize Bs ^ 100 = P at *
            omega)
          rw [h10] at h7
          generalize a / Bs ^ 101 * m = x at h7
          omega)
    have j0 : (0 : Int) ≤ (k : Int) := by omega
    by_cases h1 : k < la
    · obtain ⟨pa, oa, rfl, hpa, hqa⟩ := HA.out.digit k h1
      have qa := (bcell hbel.out pa _ hpa).trans hqa
      have i1 : (k : Int) < (la : Int) := by omega
      have hk1 : k < 101 := HKl.out (.inl h1)
      generalize dg a k = da at *
      have Hs2 := Hs
      have hpm : (((da * m : Nat) : Int)) = (da : Int) * (m : Int) := by push_cast; rfl
      have hpb : da * m ≤ 4294836225 := Hs.out.2.2.2
      have w1 := IntWalk.i64_in ((da : Int) * (m : Int)) (by rw [← hpm]; omega)
      have w2 := IntWalk.i64_in ((cy : Int) + (da : Int) * (m : Int)) (by rw [← hpm]; omega)
      have m1 : Int.tmod ((cy : Int) + (da : Int) * (m : Int)) 65536 = (((cy + da * m) % 65536 : Nat) : Int) := by rw [← hpm, Int.tmod_eq_emod_of_nonneg (by omega)]; omega
      have m2 : Int.tdiv ((cy : Int) + (da : Int) * (m : Int)) 65536 = (((cy + da * m) / 65536 : Nat) : Int) := by rw [← hpm, Int.tdiv_eq_ediv_of_nonneg (by omega)]; omega
      have hlt2 : (cy + da * m) % 65536 < 65536 := Nat.mod_lt _ (by decide)
      have hle2 : (cy + da * m) / 65536 ≤ 65535 := Hs.out.2.2.1
      generalize hd : (cy + da * m) % 65536 = d at *
      generalize hc : (cy + da * m) / 65536 = cn at *
      clear Hs HKl hpm hpb
      go_wp2_with (at_builtin; refine wpList_append_own _ rfl _ _ 52 rfl w.heap.size 3 i0 (.int .i64 0) 1 8 Tryd.underlying52 hi hz0 hz1 hz2 rfl (by decide) _ _ _ rfl (hown.out.alloc _) ⟨wr.heap.size, 0, none⟩ 1 1 [.int .i64 (d : Int)] rfl rfl (cell_one_new _ _ _) (by simp [Value.oneCell']) ?c3a ?c4a ?c5a ?_)
      case c3a => unfold maxLen; omega
      case c4a => omega
      case c5a => first | exact Nat.le_succ_of_le hbel.out.size | (simp; exact Nat.le_succ_of_le hbel.out.size)
      intro v' w1 hown1 hgrow _
      have HO1 := Lib.hid hown1
      have HB1 := Lib.hid (show Below w.heap.size w w1 from (hbel.out.alloc hbel.out.size _).grown hgrow (by simp; exact Nat.le_succ_of_le hbel.out.size) (fun g hg => (hown.out.lt _ hg).1))
      clear hown1 hgrow
      go_wp2
      go_roundw
      case rel =>
        refine ⟨k + 1, cn, by omega, by go_num, rfl, by omega, Hs2.out.2.1, ?_, HB1.out⟩
        show w1.ownsRow _ _ 1 v' (k + 1) (dC (a * m) (k + 1))
        rw [← dC_snoc Hs2.out.1]; exact HO1.out
      case measure => simp [intOf]; omega
    · by_cases h3 : 0 < cy
      · have i1 : ¬ (k : Int) < (la : Int) := by omega
        have i2 : (0 : Int) < (cy : Int) := by omega
        have hk1 : k < 101 := HKl.out (.inr h3)
        have z1 : dg a k = 0 := dg_zero (Nat.lt_of_lt_of_le HLa.out (bs_le (by omega)))
        rw [z1, Nat.zero_mul, Nat.add_zero] at Hs
        have Hs2 := Hs
        have m1 : Int.tmod ((cy : Int)) 65536 = (((cy) % 65536 : Nat) : Int) := by rw [Int.tmod_eq_emod_of_nonneg (by omega)]; omega
        have m2 : Int.tdiv ((cy : Int)) 65536 = (((cy) / 65536 : Nat) : Int) := by rw [Int.tdiv_eq_ediv_of_nonneg (by omega)]; omega
        have hlt2 : (cy) % 65536 < 65536 := Nat.mod_lt _ (by decide)
        have hle2 : (cy) / 65536 ≤ 65535 := Hs.out.2.2.1
        generalize hd : (cy) % 65536 = d at *
        generalize hc : (cy) / 65536 = cn at *
        clear Hs HKl
        go_wp2_with (at_builtin; refine wpList_append_own _ rfl _ _ 52 rfl w.heap.size 3 i0 (.int .i64 0) 1 8 Tryd.underlying52 hi hz0 hz1 hz2 rfl (by decide) _ _ _ rfl (hown.out.alloc _) ⟨wr.heap.size, 0, none⟩ 1 1 [.int .i64 (d : Int)] rfl rfl (cell_one_new _ _ _) (by simp [Value.oneCell']) ?c3b ?c4b ?c5b ?_)
        case c3b => unfold maxLen; omega
        case c4b => omega
        case c5b => first | exact Nat.le_succ_of_le hbel.out.size | (simp; exact Nat.le_succ_of_le hbel.out.size)
        intro v' w1 hown1 hgrow _
        have HO1 := Lib.hid hown1
        have HB1 := Lib.hid (show Below w.heap.size w w1 from (hbel.out.alloc hbel.out.size _).grown hgrow (by simp; exact Nat.le_succ_of_le hbel.out.size) (fun g hg => (hown.out.lt _ hg).1))
        clear hown1 hgrow
        go_wp2
        go_roundw
        case rel =>
          refine ⟨k + 1, cn, by omega, by go_num, rfl, by omega, Hs2.out.2.1, ?_, HB1.out⟩
          show w1.ownsRow _ _ 1 v' (k + 1) (dC (a * m) (k + 1))
          rw [← dC_snoc Hs2.out.1]; exact HO1.out
        case measure => simp [intOf]; omega
      · obtain rfl : cy = 0 := by omega
        have i1 : ¬ (k : Int) < (la : Int) := by omega
        have hend : a * m < Bs ^ k := by
          have h := hz.out
          rw [Nat.div_eq_of_lt (Nat.lt_of_lt_of_le HLa.out (bs_le (Nat.le_of_not_lt h1))), Nat.zero_mul] at h
          rcases Nat.lt_or_ge (a * m) (Bs ^ k) with h5 | h5
          · exact h5
          · have := Nat.div_pos h5 (bs_pos k); omega
        have HEnd := Lib.hid hend
        clear hend Hs HKl
        obtain ⟨A1, c1, rfl⟩ := own_form hown.out
        have HT := Lib.hid (r01trim (a * m) k A1 c1 wr HEnd.out (DS.of_own hown.out) (by omega))
        have HDS := Lib.hid ((DS.of_own hown.out).pre (ln (a * m)) (ln_min _ _ HEnd.out))
        go_wp2_with fail
        refine HT.out.mono ?_
        rintro ee w3 ⟨rfl, rfl⟩
        go_wp2
        go_ret
        exact ⟨A1, c1, rfl, HDS.out, own_new hown.out, hbel.out⟩

set_option maxRecDepth 100000 in
set_option maxHeartbeats 1000000 in
theorem r01sub (a b : Nat) (A B : Option Addr) (ca cb : Nat) (w : World) (ha : DS w a (ln a) A ca) (hb : DS w b (ln b) B cb) (hla : ln a ≤ 100) (hba : b ≤ a) :
    Calls Tryd.prog 87 #[.slice A (ln a) ca, .slice B (ln b) cb] w (OutD (a - b) w) := by
  obtain ⟨i0, hi, hz0, hz1, hz2⟩ := info_parts info_int
  have HA := Lib.hid ha
  have HB := Lib.hid hb
  have hla0 : a < Bs ^ ln a := ln_lt a
  have hlb0 : b < Bs ^ ln b := ln_lt b
  have hlab : ln b ≤ ln a := ln_min _ _ (Nat.lt_of_le_of_lt hba hla0)
  have HLa := Lib.hid hla0
  have HLb := Lib.hid hlb0
  have HEnd := Lib.hid (show a - b < Bs ^ ln a from Nat.lt_of_le_of_lt (Nat.sub_le _ _) hla0)
  clear ha hb hla0 hlb0
  generalize ln a = la at *
  generalize ln b = lb at *
  go_enter Tryd.func87, Tryd.ntmps87
  go_wp2
  go_loopw [5, 6, 7] (fun v ov i wr => ∃ (k o : Nat), k ≤ la ∧ i = .int .i64 (k : Int) ∧ ov = .int .i64 (o : Int) ∧ o ≤ 1 ∧ Hid (a / Bs ^ k = b / Bs ^ k + o + (a - b) / Bs ^ k) ∧ Hid (wr.ownsRow w.heap.size 3 1 v k (dC (a - b) k)) ∧ Hid (Below w.heap.size w wr)) (fun _ _ i _ => 200 - (intOf i).toNat)
  case atStart => exact ⟨0, 0, by omega, rfl, rfl, by omega, (by show a / Bs ^ 0 = b / Bs ^ 0 + 0 + (a - b) / Bs ^ 0; simp; omega), own_nil, Below.refl _ _⟩
  case round =>
    obtain ⟨k, o, hk, rfl, rfl, ho, hz, hown, hbel⟩ := hrel
    have Hs := Lib.hid (sub_step hz.out ho)
    have hda := dg_lt a k
    have hdb := dg_lt b k
    have j0 : (0 : Int) ≤ (k : Int) := by omega
    by_cases h1 : k < la
    · obtain ⟨pa, oa, rfl, hpa, hqa⟩ := HA.out.digit k h1
      have qa := (bcell hbel.out pa _ hpa).trans hqa
      have i1 : (k : Int) < (la : Int) := by omega
      by_cases h4 : dg b k + o ≤ dg a k
      · by_cases h2 : k < lb
        · obtain ⟨pb, ob, rfl, hpb, hqb⟩ := HB.out.digit k h2
          have qb := (bcell hbel.out pb _ hpb).trans hqb
          have i2 : (k : Int) < (lb : Int) := by omega
          generalize dg a k = da at *
          generalize dg b k = db at *
          have Hs2 := Lib.hid (Hs.out.1 h4)
          have w1 := IntWalk.i64_in ((da : Int) - (o : Int)) (by omega)
          have w2 := IntWalk.i64_in ((da : Int) - (o : Int) - (db : Int)) (by omega)
          have t1 : decide ((da : Int) - (o : Int) - (db : Int) < 0) = false := decide_eq_false (by omega)
          have t2 : ¬ (da : Int) - (o : Int) - (db : Int) < 0 := by omega
          have e3 : (da : Int) - (o : Int) - (db : Int) = ((da - o - db : Nat) : Int) := by omega
          generalize hd : da - o - db = d at *
          clear Hs h4
          go_wp2_with (at_builtin; refine wpList_append_own _ rfl _ _ 52 rfl w.heap.size 3 i0 (.int .i64 0) 1 8 Tryd.underlying52 hi hz0 hz1 hz2 rfl (by decide) _ _ _ rfl (hown.out.alloc _) ⟨wr.heap.size, 0, none⟩ 1 1 [.int .i64 (d : Int)] rfl rfl (cell_one_new _ _ _) (by simp [Value.oneCell']) ?c3a ?c4a ?c5a ?_)
          case c3a => unfold maxLen; omega
          case c4a => omega
          case c5a => first | exact Nat.le_succ_of_le hbel.out.size | (simp; exact Nat.le_succ_of_le hbel.out.size)
          intro v' w1 hown1 hgrow _
          have HO1 := Lib.hid hown1
          have HB1 := Lib.hid (show Below w.heap.size w w1 from (hbel.out.alloc hbel.out.size _).grown hgrow (by simp; exact Nat.le_succ_of_le hbel.out.size) (fun g hg => (hown.out.lt _ hg).1))
          clear hown1 hgrow
          go_wp2
          go_roundw
          case rel =>
            refine ⟨k + 1, 0, by omega, by go_num, rfl, by omega, Hs2.out.2, ?_, HB1.out⟩
            show w1.ownsRow _ _ 1 v' (k + 1) (dC (a - b) (k + 1))
            rw [← dC_snoc Hs2.out.1]; exact HO1.out
          case measure => simp [intOf]; omega
        · have z2 : dg b k = 0 := dg_zero (Nat.lt_of_lt_of_le HLb.out (bs_le (by omega)))
          have i2 : ¬ (k : Int) < (lb : Int) := by omega
          rw [z2] at h4 Hs
          generalize dg a k = da at *
          have Hs2 := Lib.hid (Hs.out.1 h4)
          have w1 := IntWalk.i64_in ((da : Int) - (o : Int)) (by omega)
          have t1 : decide ((da : Int) - (o : Int) < 0) = false := decide_eq_false (by omega)
          have t2 : ¬ (da : Int) - (o : Int) < 0 := by omega
          have e3 : (da : Int) - (o : Int) = ((da - o - 0 : Nat) : Int) := by omega
          generalize hd : da - o - 0 = d at *
          clear Hs h4
          go_wp2_with (at_builtin; refine wpList_append_own _ rfl _ _ 52 rfl w.heap.size 3 i0 (.int .i64 0) 1 8 Tryd.underlying52 hi hz0 hz1 hz2 rfl (by decide) _ _ _ rfl (hown.out.alloc _) ⟨wr.heap.size, 0, none⟩ 1 1 [.int .i64 (d : Int)] rfl rfl (cell_one_new _ _ _) (by simp [Value.oneCell']) ?c3b ?c4b ?c5b ?_)
          case c3b => unfold maxLen; omega
          case c4b => omega
          case c5b => first | exact Nat.le_succ_of_le hbel.out.size | (simp; exact Nat.le_succ_of_le hbel.out.size)
          intro v' w1 hown1 hgrow _
          have HO1 := Lib.hid hown1
          have HB1 := Lib.hid (show Below w.heap.size w w1 from (hbel.out.alloc hbel.out.size _).grown hgrow (by simp; exact Nat.le_succ_of_le hbel.out.size) (fun g hg => (hown.out.lt _ hg).1))
          clear hown1 hgrow
          go_wp2
          go_roundw
          case rel =>
            refine ⟨k + 1, 0, by omega, by go_num, rfl, by omega, Hs2.out.2, ?_, HB1.out⟩
            show w1.ownsRow _ _ 1 v' (k + 1) (dC (a - b) (k + 1))
            rw [← dC_snoc Hs2.out.1]; exact HO1.out
          case measure => simp [intOf]; omega
      · have h4 : dg a k < dg b k + o := by omega
        by_cases h2 : k < lb
        · obtain ⟨pb, ob, rfl, hpb, hqb⟩ := HB.out.digit k h2
          have qb := (bcell hbel.out pb _ hpb).trans hqb
          have i2 : (k : Int) < (lb : Int) := by omega
          generalize dg a k = da at *
          generalize dg b k = db at *
          have Hs2 := Lib.hid (Hs.out.2 h4)
          have w1 := IntWalk.i64_in ((da : Int) - (o : Int)) (by omega)
          have w2 := IntWalk.i64_in ((da : Int) - (o : Int) - (db : Int)) (by omega)
          have t1 : decide ((da : Int) - (o : Int) - (db : Int) < 0) = true := decide_eq_true (by omega)
          have t2 : (da : Int) - (o : Int) - (db : Int) < 0 := by omega
          have w3 := IntWalk.i64_in ((da : Int) - (o : Int) - (db : Int) + 65536) (by omega)
          have e3 : (da : Int) - (o : Int) - (db : Int) + 65536 = ((da + 65536 - o - db : Nat) : Int) := by omega
          generalize hd : da + 65536 - o - db = d at *
          clear Hs h4
          go_wp2_with (at_builtin; refine wpList_append_own _ rfl _ _ 52 rfl w.heap.size 3 i0 (.int .i64 0) 1 8 Tryd.underlying52 hi hz0 hz1 hz2 rfl (by decide) _ _ _ rfl (hown.out.alloc _) ⟨wr.heap.size, 0, none⟩ 1 1 [.int .i64 (d : Int)] rfl rfl (cell_one_new _ _ _) (by simp [Value.oneCell']) ?c3c ?c4c ?c5c ?_)
          case c3c => unfold maxLen; omega
          case c4c => omega
          case c5c => first | exact Nat.le_succ_of_le hbel.out.size | (simp; exact Nat.le_succ_of_le hbel.out.size)
          intro v' w1 hown1 hgrow _
          have HO1 := Lib.hid hown1
          have HB1 := Lib.hid (show Below w.heap.size w w1 from (hbel.out.alloc hbel.out.size _).grown hgrow (by simp; exact Nat.le_succ_of_le hbel.out.size) (fun g hg => (hown.out.lt _ hg).1))
          clear hown1 hgrow
          go_wp2
          go_roundw
          case rel =>
            refine ⟨k + 1, 1, by omega, by go_num, rfl, by omega, Hs2.out.2, ?_, HB1.out⟩
            show w1.ownsRow _ _ 1 v' (k + 1) (dC (a - b) (k + 1))
            rw [← dC_snoc Hs2.out.1]; exact HO1.out
          case measure => simp [intOf]; omega
        · have z2 : dg b k = 0 := dg_zero (Nat.lt_of_lt_of_le HLb.out (bs_le (by omega)))
          have i2 : ¬ (k : Int) < (lb : Int) := by omega
          rw [z2] at h4 Hs
          generalize dg a k = da at *
          have Hs2 := Lib.hid (Hs.out.2 h4)
          have w1 := IntWalk.i64_in ((da : Int) - (o : Int)) (by omega)
          have t1 : decide ((da : Int) - (o : Int) < 0) = true := decide_eq_true (by omega)
          have t2 : (da : Int) - (o : Int) < 0 := by omega
          have w3 := IntWalk.i64_in ((da : Int) - (o : Int) + 65536) (by omega)
          have e3 : (da : Int) - (o : Int) + 65536 = ((da + 65536 - o - 0 : Nat) : Int) := by omega
          generalize hd : da + 65536 - o - 0 = d at *
          clear Hs h4
          go_wp2_with (at_builtin; refine wpList_append_own _ rfl _ _ 52 rfl w.heap.size 3 i0 (.int .i64 0) 1 8 Tryd.underlying52 hi hz0 hz1 hz2 rfl (by decide) _ _ _ rfl (hown.out.alloc _) ⟨wr.heap.size, 0, none⟩ 1 1 [.int .i64 (d : Int)] rfl rfl (cell_one_new _ _ _) (by simp [Value.oneCell']) ?c3d ?c4d ?c5d ?_)
          case c3d => unfold maxLen; omega
          case c4d => omega
          case c5d => first | exact Nat.le_succ_of_le hbel.out.size | (simp; exact Nat.le_succ_of_le hbel.out.size)
          intro v' w1 hown1 hgrow _
          have HO1 := Lib.hid hown1
          have HB1 := Lib.hid (show Below w.heap.size w w1 from (hbel.out.alloc hbel.out.size _).grown hgrow (by simp; exact Nat.le_succ_of_le hbel.out.size) (fun g hg => (hown.out.lt _ hg).1))
          clear hown1 hgrow
          go_wp2
          go_roundw
          case rel =>
            refine ⟨k + 1, 1, by omega, by go_num, rfl, by omega, Hs2.out.2, ?_, HB1.out⟩
            show w1.ownsRow _ _ 1 v' (k + 1) (dC (a - b) (k + 1))
            rw [← dC_snoc Hs2.out.1]; exact HO1.out
          case measure => simp [intOf]; omega
    · obtain rfl : k = la := by omega
      clear Hs
      obtain ⟨A1, c1, rfl⟩ := own_form hown.out
      have HT := Lib.hid (r01trim (a - b) k A1 c1 wr HEnd.out (DS.of_own hown.out) (by omega))
      have HDS := Lib.hid ((DS.of_own hown.out).pre (ln (a - b)) (ln_min _ _ HEnd.out))
      go_wp2_with fail
      refine HT.out.mono ?_
      rintro ee w3 ⟨rfl, rfl⟩
      go_wp2
      go_ret
      exact ⟨A1, c1, rfl, HDS.out, own_new hown.out, hbel.out⟩

end Go.Proofs.YtlobdeakgoicpaaDoor
