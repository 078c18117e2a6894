/- The walk of the statement NeubergDivided. (Under way: the first loop.) -/
import Derived.Test.YtlobdeakgoicpaaDoorNeuAwakeW
import Derived.Test.YtlobdeakgoicpaaDoorNeuDivLaw
import Derived.Test.YtlobdeakgoicpaaDoorNeuSumsW
import Derived.Deep.AppendLies
import Derived.Deep.RegionLaw
import Derived.Deep.DeepCutAuto
namespace Go.Proofs.YtlobdeakgoicpaaDoor
open Go.RowKit

/-- What the sum is after j fields. -/
def divT (a n : Nat) (j : Nat) : Int := if j = 0 then 0 else if j = 1 then (a : Int) * ((n : Int) - 1) else (n : Int) * ((n : Int) - 1)
theorem divT_bd (a n j : Nat) (h : a ≤ n) (hn : n ≤ 24) : -1000 ≤ divT a n j ∧ divT a n j ≤ 1000 := by
  by_cases h0 : n = 0
  · subst h0; obtain rfl : a = 0 := by omega
    unfold divT; (repeat' split) <;> omega
  have h1 : 0 ≤ (a : Int) * ((n : Int) - 1) := Int.mul_nonneg (by omega) (by omega)
  have h2 : (a : Int) * ((n : Int) - 1) ≤ 24 * 23 := Int.mul_le_mul (by omega) (by omega) (by omega) (by omega)
  have h3 : 0 ≤ (n : Int) * ((n : Int) - 1) := Int.mul_nonneg (by omega) (by omega)
  have h4 : (n : Int) * ((n : Int) - 1) ≤ 24 * 23 := Int.mul_le_mul (by omega) (by omega) (by omega) (by omega)
  unfold divT; (repeat' split) <;> omega

theorem own_set {w : World} {base : Nat} {e : TypeId} {sz : Nat} {v : Value} {n : Nat} {xs : List Value} (h : w.ownsRow base e sz v n xs) {p : Addr} (hp : p.block < base) (u : Value) : (w.setCell p u).ownsRow base e sz v n xs := by
  refine ⟨h.1, ?_⟩
  rcases h.2 with h2 | ⟨g, cap, cur, h1, h2, h3, h4⟩
  · exact .inl h2
  · exact .inr ⟨g, cap, cur, h1, h2, blk_far h3 (by omega) u, h4⟩

set_option maxHeartbeats 4000000 in
set_option maxRecDepth 100000 in
theorem ndivided_walk (S : List Sm) (bits : Int) (hbi : 0 ≤ bits ∧ bits ≤ 4294967295) (A : Option Addr) (c : Nat) (w : World) (hL : Laid w) (hS : RdS w w.heap.size A S) (hok : ∀ s ∈ S, SmOk s) (hc : S.length ≤ c) (hm : c ≤ 9223372036854775807) :
    Calls Tryd.prog 9 #[.slice A S.length c, .int .u32 bits] w fun e w' => e = .returned (.bool true) ∧ Below w.heap.size w w' := by
  obtain ⟨i0, hi, hz0, hz1, hz2⟩ := info_parts info_res
  have h0 := hL.lt
  have HL := Lib.hid hL
  have HM : Calls Tryd.prog 27 #[.slice A S.length c, .int .i64 24] w _ := all_any S 24 A c w hS hok hc hm (by decide)
  have HM := Lib.hid HM
  have hr := allL_right S 24
  have hn := allL_len S 24
  have hn24 : (allL S 24).length ≤ 24 := by rw [hn]; omega
  generalize allL S 24 = L at HM hr hn24
  have Hr := Lib.hid hr
  clear hL hS hok hc hm hn hr
  go_enter Tryd.func9, Tryd.ntmps9
  go_wp2_with fail
  refine HM.out.mono ?_
  rintro e w1 ⟨v, xs, rfl, ho1, hl1, hb1⟩
  have HL1 := Lib.hid (HL.out.below hb1 h0)
  have h1 := hb1.size
  by_cases hz : L.length = 0
  · obtain ⟨B, cb, rfl⟩ := own_form ho1
    have hzi : (L.length : Int) = 0 := by omega
    have hzb : ((L.length : Int) == 0) = true := by rw [hzi]; rfl
    go_wp2_with fail
    refine (nawake _ HL1.out).mono ?_
    rintro ee wz ⟨rfl, hbz⟩
    go_wp2
    go_ret
    exact ⟨rfl, hb1.trans (hbz.mono h1)⟩
  obtain ⟨b, cb, rfl⟩ := own_at' ho1 (by omega)
  have HA := Lib.hid (rdl_of_own ho1 hl1)
  clear ho1 hl1 HM HL
  have hzb : ((L.length : Int) == 0) = false := beq_eq_false_iff_ne.2 (by omega)
  have hzn : ¬ (L.length : Int) = 0 := by omega
  go_wp2_with fail
  obtain ⟨F, hF⟩ : ∃ F, w1.heap.size = F := ⟨_, rfl⟩
  obtain ⟨W1, hW1⟩ : ∃ W1, w1.alloc (.cells #[.slice none 0 0, .slice none 0 0] 60) = W1 := ⟨_, rfl⟩
  have k1 : W1.heap[F]? = some (.cells #[.slice none 0 0, .slice none 0 0] 60) := by rw [← hW1]; exact blk_new _ hF.symm
  have hB1 : Below F w1 W1 := by rw [← hW1, ← hF]; exact (by repeat (first | exact Below.refl _ _ | assumption | refine Below.drew ?_ | refine below_drewN ?_ _ | refine Below.alloc ?_ (by first | omega | (simp; done) | (simp; omega)) _ | refine Below.setCell ?_ (by first | omega | (simp; done) | (simp; omega)) _))
  have s1 : W1.heap.size = F + 1 := by rw [← hW1]; simp; omega
  rw [hW1, hF]
  clear hW1
  obtain ⟨BB, rfl⟩ : ∃ B : Nat, bits = (B : Int) := ⟨bits.toNat, by omega⟩
  have HA := Lib.hid (show RdL w1 F (some ⟨b, 0, none⟩) L by rw [← hF]; exact HA.out)
  have HK1 := Lib.hid k1
  clear k1
  go_loopw [26] (fun i wr => ∃ (k : Nat) (v0 v1 : Value) (xs0 xs1 : List Value), k ≤ L.length ∧ i = .int .i64 (k : Int) ∧ Hid (wr.heap[F]? = some (.cells #[v0, v1] 60)) ∧ wr.ownsRow (F + 1) 35 1 v0 (partL BB 0 L k).length xs0 ∧ wr.ownsRow (F + 1) 35 1 v1 (partL BB 1 L k).length xs1 ∧ Hid (RowOf w1 xs0 (partL BB 0 L k)) ∧ Hid (RowOf w1 xs1 (partL BB 1 L k)) ∧ Hid (apart2 v0 v1) ∧ Below F w1 wr) (fun i _ => L.length - (intOf i).toNat)
  case atStart => exact ⟨0, _, _, [], [], by omega, rfl, HK1.out, own_nil, own_nil, RowOf.nil_, RowOf.nil_, apart2.nil_, hB1⟩
  case round =>
    obtain ⟨k, v0, v1, xs0, xs1, hk, rfl, hF0, ho0, ho1, hr0, hr1, hap, hbel⟩ := hrel
    have hsr := hbel.size
    by_cases hlt : k < L.length
    · obtain ⟨b', off, Ak, ck, he, hbw, hc1, hc2, hc3⟩ := HA.out k hlt
      obtain ⟨rfl, rfl⟩ : b = b' ∧ 0 = off := by injection he with he; injection he with x1 x2; exact ⟨x1, x2⟩
      rw [Nat.zero_add] at hc1
      have hd1 := (bcell hbel b k hbw).trans hc1
      clear he hc1
      have hc3r := Lib.hid (show Rd w1 w1.heap.size 2 Ak (L[k]).length (pC L[k]) by rw [hF]; exact hc3)
      have Hs0 := Lib.hid (show partL BB 0 L (k + 1) = partL BB 0 L k ++ if bitOf BB k = 0 then [L.getD k []] else [] from rfl)
      have Hs1 := Lib.hid (show partL BB 1 L (k + 1) = partL BB 1 L k ++ if bitOf BB k = 1 then [L.getD k []] else [] from rfl)
      have hLk : L.getD k [] = L[k] := by rw [List.getD_eq_getElem?_getD, List.getElem?_eq_getElem hlt]; rfl
      rw [hLk] at Hs0 Hs1
      obtain ⟨r, hr⟩ : ∃ r, L[k] = r := ⟨_, rfl⟩
      rw [hr] at Hs0 Hs1 hd1 hc3r
      have hpow : ((BB : Int) / 2 ^ k) = ((BB / 2 ^ k : Nat) : Int) := by rw [Int.natCast_ediv, Int.natCast_pow]; rfl
      have hbit : Go.bits BinOp.and IntKind.u32 ((BB : Int) / 2 ^ k) 1 = (bitOf BB k : Int) := by
        have hle : BB / 2 ^ k ≤ BB := Nat.div_le_self _ _
        rw [hpow, and_one_u32 _ (Int.natCast_nonneg _) (by omega)]; unfold bitOf; omega
      clear hLk hr hc3 hpow
      have hlen := part_len BB L k
      have hln0 : (partL BB 0 L k).length = (partL BB 0 L k).length := rfl
      obtain ⟨n0, hn0⟩ : ∃ n, (partL BB 0 L k).length = n := ⟨_, rfl⟩
      obtain ⟨n1, hn1⟩ : ∃ n, (partL BB 1 L k).length = n := ⟨_, rfl⟩
      rw [hn0] at ho0 hlen
      rw [hn1] at ho1 hlen
      have Hn0 := Lib.hid hn0
      have Hn1 := Lib.hid hn1
      clear hn0 hn1 hln0
      have HF0 := Lib.hid hF0.out
      have lF := blk_lt HF0.out
      clear hF0
      rcases bitOf_lt BB k with hbt | hbt
      · rw [hbt] at hbit Hs0 Hs1
        have hbit : Go.bits BinOp.and IntKind.u32 ((BB : Int) / 2 ^ k) 1 = 0 := hbit
        have cF := blk_cell HF0.out 0
        go_upto_region 8 with fail
        obtain ⟨WA, hWA⟩ : ∃ WA, (wr.alloc (.cells #[.slice Ak r.length ck] 35)).drew = WA := ⟨_, rfl⟩
        have oA0 : WA.ownsRow (F + 1) 35 1 v0 n0 xs0 := by rw [← hWA]; exact (ho0.alloc _).drew
        have oA1 : WA.ownsRow (F + 1) 35 1 v1 n1 xs1 := by rw [← hWA]; exact (ho1.alloc _).drew
        have nA : ∀ (j : Nat) (u : Value), [Value.slice Ak r.length ck][j]? = some u → WA.cell? ((⟨wr.heap.size, 0, none⟩ : Addr).add j) = some u := by rw [← hWA]; exact cell_one_at _ _ _ _ rfl
        have kA : WA.heap[F]? = some (.cells #[v0, v1] 60) := by rw [← hWA]; exact blk_alloc HF0.out _
        have bA : Below F w1 WA := by rw [← hWA]; exact (hbel.alloc (by omega) _).drew
        have sA : WA.heap.size = wr.heap.size + 1 := by rw [← hWA]; simp
        have lA : F < WA.heap.size := by omega
        have fA : F + 1 ≤ WA.heap.size := by omega
        have eA : ¬ some F = v0.ownBlock := fun e => by have := (ho0.lt F e.symm).1; omega
        have gA : ∀ g, v0.ownBlock = some g → F ≤ g := fun g hg => by have := (ho0.lt g hg).1; omega
        have HA4 := Lib.hid (And.intro oA0 (And.intro oA1 (And.intro nA (And.intro kA (And.intro bA (And.intro lA (And.intro fA gA)))))))
        rw [← hWA] at HA4
        clear hWA oA0 oA1 nA kA bA sA lA fA gA
        have HcF := Lib.hid cF
        have fF := blk_free HF0.out 0
        go_region_law
          ((refine step_append_lies _ (by rfl) _ _ _ (by rfl) (F + 1) 35 i0 (.slice none 0 0) 1 24 Tryd.underlying33 hi hz0 hz1 hz2 (by rfl) (by decide) v0 n0 xs0 (by rfl) HA4.out.1 ⟨wr.heap.size, 0, none⟩ 1 1 [.slice Ak r.length ck] (by rfl) (by rfl) HA4.out.2.2.1 (by simp [Value.oneCell']) (by omega) (by unfold maxLen; omega) (by omega) HA4.out.2.2.2.2.2.2.1 _ (by rfl) ?_; intro g1 cap1 wa hn1 hgr1 hat1 hlt1; have kwa := (hgr1.block F HA4.out.2.2.2.2.2.1 eA).trans HA4.out.2.2.2.1; have fwa := blk_free kwa 0; have cwa := blk_cell kwa 0))
        all_goals
          have two := own_two (v1' := .slice (some ⟨g1, 0, none⟩) (n0 + 1) cap1) HA4.out.2.1 hgr1 hap.out (hat1.elim (fun h => .inl (show some g1 = _ from h.symm)) (fun h => .inr (show some g1 = _ by rw [h])))
          have hbz : Below F w1 (wa.setCell ⟨F, 0, none⟩ (.slice (some ⟨g1, 0, none⟩) (n0 + 1) cap1)) := (HA4.out.2.2.2.2.1.grown hgr1 (Nat.le_of_lt HA4.out.2.2.2.2.2.1) HA4.out.2.2.2.2.2.2.2).setCell (Nat.le_refl _) _
          have Hz := Lib.hid (And.intro (blk_set kwa 0 (.slice (some ⟨g1, 0, none⟩) (n0 + 1) cap1)) (And.intro (own_set hn1 (p := ⟨F, 0, none⟩) (Nat.lt_succ_self F) (.slice (some ⟨g1, 0, none⟩) (n0 + 1) cap1)) (And.intro (own_set two.1 (p := ⟨F, 0, none⟩) (Nat.lt_succ_self F) (.slice (some ⟨g1, 0, none⟩) (n0 + 1) cap1)) two.2)))
          clear two kwa fwa cwa hn1 hgr1 hat1 hlt1 cF fF HcF
          go_wp2
          go_roundw
          case rel =>
            refine ⟨k + 1, _, _, xs0 ++ [.slice Ak r.length ck], xs1, by omega, by go_num, Hz.out.1, ?_, ?_, ?_, ?_, Hz.out.2.2.2, hbz⟩
            · rw [Hs0.out, if_pos rfl, List.length_append, Hn0.out]; exact Hz.out.2.1
            · rw [Hs1.out, if_neg (by decide), List.append_nil, Hn1.out]; exact Hz.out.2.2.1
            · show RowOf _ _ _; rw [Hs0.out, if_pos rfl]; exact hr0.out.snoc hc2 hc3r.out
            · show RowOf _ _ _; rw [Hs1.out, if_neg (by decide), List.append_nil]; exact hr1.out
          case measure => simp [intOf]; omega
      · rw [hbt] at hbit Hs0 Hs1
        have hbit : Go.bits BinOp.and IntKind.u32 ((BB : Int) / 2 ^ k) 1 = 1 := hbit
        have cF := blk_cell HF0.out 1
        go_upto_region 8 with fail
        obtain ⟨WA, hWA⟩ : ∃ WA, (wr.alloc (.cells #[.slice Ak r.length ck] 35)).drew = WA := ⟨_, rfl⟩
        have oA0 : WA.ownsRow (F + 1) 35 1 v1 n1 xs1 := by rw [← hWA]; exact (ho1.alloc _).drew
        have oA1 : WA.ownsRow (F + 1) 35 1 v0 n0 xs0 := by rw [← hWA]; exact (ho0.alloc _).drew
        have nA : ∀ (j : Nat) (u : Value), [Value.slice Ak r.length ck][j]? = some u → WA.cell? ((⟨wr.heap.size, 0, none⟩ : Addr).add j) = some u := by rw [← hWA]; exact cell_one_at _ _ _ _ rfl
        have kA : WA.heap[F]? = some (.cells #[v0, v1] 60) := by rw [← hWA]; exact blk_alloc HF0.out _
        have bA : Below F w1 WA := by rw [← hWA]; exact (hbel.alloc (by omega) _).drew
        have sA : WA.heap.size = wr.heap.size + 1 := by rw [← hWA]; simp
        have lA : F < WA.heap.size := by omega
        have fA : F + 1 ≤ WA.heap.size := by omega
        have eA : ¬ some F = v1.ownBlock := fun e => by have := (ho1.lt F e.symm).1; omega
        have gA : ∀ g, v1.ownBlock = some g → F ≤ g := fun g hg => by have := (ho1.lt g hg).1; omega
        have HA4 := Lib.hid (And.intro oA0 (And.intro oA1 (And.intro nA (And.intro kA (And.intro bA (And.intro lA (And.intro fA gA)))))))
        rw [← hWA] at HA4
        clear hWA oA0 oA1 nA kA bA sA lA fA gA
        have HcF := Lib.hid cF
        have fF := blk_free HF0.out 1
        go_region_law
          ((refine step_append_lies _ (by rfl) _ _ _ (by rfl) (F + 1) 35 i0 (.slice none 0 0) 1 24 Tryd.underlying33 hi hz0 hz1 hz2 (by rfl) (by decide) v1 n1 xs1 (by rfl) HA4.out.1 ⟨wr.heap.size, 0, none⟩ 1 1 [.slice Ak r.length ck] (by rfl) (by rfl) HA4.out.2.2.1 (by simp [Value.oneCell']) (by omega) (by unfold maxLen; omega) (by omega) HA4.out.2.2.2.2.2.2.1 _ (by rfl) ?_; intro g1 cap1 wa hn1 hgr1 hat1 hlt1; have kwa := (hgr1.block F HA4.out.2.2.2.2.2.1 eA).trans HA4.out.2.2.2.1; have fwa := blk_free kwa 1; have cwa := blk_cell kwa 1))
        all_goals
          have two := own_two (v1' := .slice (some ⟨g1, 0, none⟩) (n1 + 1) cap1) HA4.out.2.1 hgr1 hap.out.symm_ (hat1.elim (fun h => .inl (show some g1 = _ from h.symm)) (fun h => .inr (show some g1 = _ by rw [h])))
          have hbz : Below F w1 (wa.setCell ⟨F, 1, none⟩ (.slice (some ⟨g1, 0, none⟩) (n1 + 1) cap1)) := (HA4.out.2.2.2.2.1.grown hgr1 (Nat.le_of_lt HA4.out.2.2.2.2.2.1) HA4.out.2.2.2.2.2.2.2).setCell (Nat.le_refl _) _
          have Hz := Lib.hid (And.intro (blk_set kwa 1 (.slice (some ⟨g1, 0, none⟩) (n1 + 1) cap1)) (And.intro (own_set hn1 (p := ⟨F, 1, none⟩) (Nat.lt_succ_self F) (.slice (some ⟨g1, 0, none⟩) (n1 + 1) cap1)) (And.intro (own_set two.1 (p := ⟨F, 1, none⟩) (Nat.lt_succ_self F) (.slice (some ⟨g1, 0, none⟩) (n1 + 1) cap1)) two.2)))
          clear two kwa fwa cwa hn1 hgr1 hat1 hlt1 cF fF HcF
          go_wp2
          go_roundw
          case rel =>
            refine ⟨k + 1, _, _, xs0, xs1 ++ [.slice Ak r.length ck], by omega, by go_num, Hz.out.1, ?_, ?_, ?_, ?_, Hz.out.2.2.2.symm_, hbz⟩
            · rw [Hs0.out, if_neg (by decide), List.append_nil, Hn0.out]; exact Hz.out.2.2.1
            · rw [Hs1.out, if_pos rfl, List.length_append, Hn1.out]; exact Hz.out.2.1
            · show RowOf _ _ _; rw [Hs0.out, if_neg (by decide), List.append_nil]; exact hr0.out
            · show RowOf _ _ _; rw [Hs1.out, if_pos rfl]; exact hr1.out.snoc hc2 hc3r.out
          case measure => simp [intOf]; omega
    · have t0 : decide ((k : Int) < (L.length : Int)) = false := decide_eq_false (by omega)
      obtain rfl : k = L.length := by omega
      obtain ⟨A0, c0, rfl⟩ := own_form ho0
      obtain ⟨A1, c1, rfl⟩ := own_form ho1
      have HV : ∀ j : Nat, j < 2 → ∃ (Aj : Option Addr) (cj : Nat) (Lj : List (List Pt)), (#[Value.slice A0 (partL BB 0 L L.length).length c0, Value.slice A1 (partL BB 1 L L.length).length c1] : Array Value)[j]? = some (.slice Aj Lj.length cj) ∧ RdL wr wr.heap.size Aj Lj ∧ (∀ o ∈ Lj, rightM o = true) ∧ Lj.length ≤ L.length ∧ divT (partL BB 0 L L.length).length L.length j + (Lj.length : Int) * ((L.length : Int) - 1) = divT (partL BB 0 L L.length).length L.length (j + 1) := by
        have hl := part_len BB L L.length
        have hbw : Below w1.heap.size w1 wr := by rw [hF]; exact hbel
        intro j hj
        obtain rfl | rfl : j = 0 ∨ j = 1 := by omega
        · exact ⟨A0, c0, _, rfl, (hr0.out.go hbw).rdl ho0 rfl, part_right BB 0 L Hr.out _ (Nat.le_refl _), by omega, by unfold divT; simp⟩
        · refine ⟨A1, c1, _, rfl, (hr1.out.go hbw).rdl ho1 rfl, part_right BB 1 L Hr.out _ (Nat.le_refl _), by omega, ?_⟩
          unfold divT
          rw [if_neg (by decide), if_pos rfl, if_neg (by decide), if_neg (by decide), ← Int.add_mul, ← Int.natCast_add, hl]
      have HV := Lib.hid HV
      have HTb := Lib.hid (fun j => divT_bd (partL BB 0 L L.length).length L.length j (by have := part_len BB L L.length; omega) hn24)
      generalize (partL BB 0 L L.length).length = n0 at HV HTb ho0 hF0
      generalize (partL BB 1 L L.length).length = n1 at HV ho1 hF0
      have HF0 := Lib.hid hF0.out
      have lF := blk_lt HF0.out
      have hBr : Below w.heap.size w wr := hb1.trans (hbel.mono (by omega))
      have HLr := Lib.hid (HL1.out.below hbel (by omega))
      have cf0 := blk_cell HF0.out 0
      have cf1 := blk_cell HF0.out 1
      clear ho0 ho1 hr0 hr1 hap hbel HA HK1 hB1 s1 hF0 t0
      have t0 : ¬ ((L.length : Int) < (L.length : Int)) := by omega
      have HW0 := Lib.hid (fun W => q_any 0 1 W)
      go_wp2_with fail
      refine (HW0.out _).mono ?_
      rintro e w2 ⟨rfl, hb2⟩
      have HF2 := Lib.hid (blk_below HF0.out hb2 lF)
      have lF2 : F < w2.heap.size := by have := hb2.size; omega
      have df0 := blk_cell HF2.out 0
      have df1 := blk_cell HF2.out 1
      go_wp2_with fail
      obtain ⟨G, hG⟩ : ∃ G, w2.heap.size = G := ⟨_, rfl⟩
      obtain ⟨W2, hW2⟩ : ∃ W2, w2.alloc (.cells #[.int .i64 0, .int .i64 1] 23) = W2 := ⟨_, rfl⟩
      have kG : W2.heap[G]? = some (.cells #[.int .i64 0, .int .i64 1] 23) := by rw [← hW2]; exact blk_new _ hG.symm
      have bG : Below G w2 W2 := by rw [← hW2, ← hG]; exact (by repeat (first | exact Below.refl _ _ | assumption | refine Below.drew ?_ | refine below_drewN ?_ _ | refine Below.alloc ?_ (by first | omega | (simp; done) | (simp; omega)) _ | refine Below.setCell ?_ (by first | omega | (simp; done) | (simp; omega)) _))
      rw [hW2, hG]
      have HKG := Lib.hid kG
      have HG := Lib.hid hG
      have hB2 : Below w.heap.size w w2 := hBr.trans (hb2.mono hBr.size)
      have HL2 := Lib.hid (HLr.out.below hb2 HLr.out.lt)
      have hs2 := hb2.size
      have HV2 := Lib.hid (fun j (hj : j < 2) => by
        obtain ⟨Aj, cj, Lj, e1, e2, e3, e4, e5⟩ := HV.out j hj
        exact (⟨Aj, cj, Lj, e1, e2.go hb2, e3, e4, e5⟩ : ∃ (Aj : Option Addr) (cj : Nat) (Lj : List (List Pt)), (#[Value.slice A0 n0 c0, Value.slice A1 n1 c1] : Array Value)[j]? = some (.slice Aj Lj.length cj) ∧ RdL w2 w2.heap.size Aj Lj ∧ (∀ o ∈ Lj, rightM o = true) ∧ Lj.length ≤ L.length ∧ divT n0 L.length j + (Lj.length : Int) * ((L.length : Int) - 1) = divT n0 L.length (j + 1)))
      have hgw : w.heap.size ≤ G := by rw [← hG]; exact hB2.size
      clear hW2 hG kG HV HF0 HF2 cf0 cf1 df0 df1 lF lF2 HLr hBr hb2 HW0 hs2 HL1 hb1 hF t0 hsr h1
      go_loopw [48] (fun i wx => ∃ j : Nat, j ≤ 2 ∧ i = .int .i64 (j : Int) ∧ Hid (wx.heap[G]? = some (.cells #[.int .i64 (divT n0 L.length j), .int .i64 1] 23)) ∧ Below G w2 wx) (fun i _ => 2 - (intOf i).toNat)
      case atStart => exact ⟨0, by omega, rfl, HKG.out, bG⟩
      case round =>
        obtain ⟨j, hj, rfl, hkx, hbx⟩ := hrel
        rename World => wx
        have hsx := hbx.size
        have lG := blk_lt hkx.out
        have hbx2 : Below w2.heap.size w2 wx := by rw [HG.out]; exact hbx
        have HLx := Lib.hid (HL2.out.below hbx2 HL2.out.lt)
        by_cases hj2 : j < 2
        · obtain ⟨Aj, cj, Lj, e1, e2, e3, e4, e5⟩ := HV2.out j hj2
          have HE3 := Lib.hid e3
          have hix : (Instr.index 60 (.agg #[.slice A0 n0 c0, .slice A1 n1 c1]) (.int .i64 (j : Int))).run Tryd.prog wx = .ok (.slice Aj Lj.length cj) wx :=
            run_index_one (P := Tryd.prog) (w := wx) 60 33 2 _ .i64 j _ Tryd.underlying60 (by kernel_rfl) (fun _ => by kernel_rfl) e1 hj2
          have HF := Lib.hid (nfield Lj Aj cj (L.length : Int) wx HLx.out (e2.go hbx2) (by omega) (by omega) e3)
          have hpl := adjL_len Lj (L.length : Int)
          have Htot := Lib.hid (sumK_adj_total Lj e3 (L.length : Int))
          have HSM := Lib.hid (adjL_sm Lj e3 (L.length : Int) (by omega) (by omega))
          have HSK := Lib.hid (sumK_adj_sm Lj e3 (L.length : Int) (by omega) (by omega))
          have HE5 := Lib.hid e5
          have hTj := HTb.out j
          obtain ⟨T, hT⟩ : ∃ T, divT n0 L.length j = T := ⟨_, rfl⟩
          have hTn := HTb.out (j + 1)
          rw [hT] at hTj hkx HE5
          have Hpl := Lib.hid hpl
          have c0' : (0 : Int) ≤ (j : Int) := by omega
          have c1' : (j : Int) < 2 := by omega
          clear e1 e2 e3 e5 hT hpl
          go_wp2_with fail
          refine HF.out.mono ?_
          rintro e w3 ⟨v, rfl, ho3, hb3⟩
          obtain ⟨P, cp, rfl⟩ := own_form ho3
          have HR := Lib.hid (show Rd w3 w3.heap.size 2 P (adjL Lj (L.length : Int)).length (pC (adjL Lj (L.length : Int))) by rw [Hpl.out]; exact Rd.of_own ho3)
          have HS : Hid (Calls Tryd.prog 30 #[.slice P Lj.length cp] w3 fun e w' => e = .returned (.tuple #[.agg #[.int .i64 ((Lj.length : Int) * ((L.length : Int) - 1)), .int .i64 1], .int .i64 0]) ∧ Below w3.heap.size w3 w') := Lib.hid (by
            have h := sum_sm (adjL Lj (L.length : Int)) P cp w3 HR.out (by rw [Hpl.out]; omega) HSM.out HSK.out
            rw [Htot.out, Hpl.out] at h
            exact h)
          have hmb : -1000 ≤ (Lj.length : Int) * ((L.length : Int) - 1) ∧ (Lj.length : Int) * ((L.length : Int) - 1) ≤ 1000 := by
            have h1 : 0 ≤ (Lj.length : Int) * ((L.length : Int) - 1) := Int.mul_nonneg (by omega) (by omega)
            have h2 : (Lj.length : Int) * ((L.length : Int) - 1) ≤ 24 * 23 := Int.mul_le_mul (by omega) (by omega) (by omega) (by omega)
            omega
          obtain ⟨m, hm⟩ : ∃ m, (Lj.length : Int) * ((L.length : Int) - 1) = m := ⟨_, rfl⟩
          rw [hm] at HS hmb HE5
          have HAD := Lib.hid (fun W => fadd_sm (T, 1) (m, 1) (sm_whole T hTj) (sm_whole m hmb) W)
          rw [add_whole, HE5.out] at HAD
          obtain ⟨T', hT'⟩ : ∃ T', divT n0 L.length (j + 1) = T' := ⟨_, rfl⟩
          rw [hT'] at HAD
          have HT' := Lib.hid hT'
          unfold fV at HAD
          dsimp only at HAD
          have hk3 := Lib.hid (blk_below hkx.out hb3 lG)
          have s3 := hb3.size
          have hb23 := hbx.trans (hb3.mono (by omega))
          clear hm hT' HF HSM HSK Htot HR ho3 hkx hix
          go_wp2_with fail
          refine HS.out.mono ?_
          rintro e w4 ⟨rfl, hb4⟩
          have hk4 := blk_below hk3.out hb4 (by omega)
          have s4 := hb4.size
          have hb24 := hb23.trans (hb4.mono (by omega))
          have q0 := blk_cell hk4 0
          have q1 := blk_cell hk4 1
          clear hk3 hb4 hb3 HS
          go_upto_region 16 with fail
          obtain ⟨W5, hW5⟩ : ∃ W5, w4.alloc (.cells #[.int .i64 m, .int .i64 1] 23) = W5 := ⟨_, rfl⟩
          obtain ⟨H, hH⟩ : ∃ H, w4.heap.size = H := ⟨_, rfl⟩
          have n5 : W5.heap[H]? = some (.cells #[.int .i64 m, .int .i64 1] 23) := by rw [← hW5]; exact blk_new _ hH.symm
          have k5 : W5.heap[G]? = some (.cells #[.int .i64 T, .int .i64 1] 23) := by rw [← hW5]; exact blk_alloc hk4 _
          have b5 : Below G w2 W5 := by rw [← hW5]; exact hb24.alloc (by omega) _
          have s5 : W5.heap.size = H + 1 := by rw [← hW5]; simp; omega
          have lH : G < H := by omega
          rw [hW5, hH]
          have q0 := blk_cell k5 0
          have q1 := blk_cell k5 1
          have q2 := blk_cell n5 0
          have q3 := blk_cell n5 1
          clear hW5 hH n5 hk4
          go_wp2_with fail
          refine (HAD.out _).mono ?_
          rintro e w6 ⟨rfl, hb6⟩
          have k6 := blk_below k5 hb6 (by omega)
          have b6 := b5.trans (hb6.mono (by omega))
          have s6 := hb6.size
          clear q0 q1 q2 q3 k5 hb6 b5 HAD
          go_upto_region 17 with fail
          obtain ⟨W7, hW7⟩ : ∃ W7, w6.alloc (.cells #[.int .i64 T', .int .i64 1] 23) = W7 := ⟨_, rfl⟩
          obtain ⟨H2, hH2⟩ : ∃ H, w6.heap.size = H := ⟨_, rfl⟩
          have k7 : W7.heap[G]? = some (.cells #[.int .i64 T, .int .i64 1] 23) := by rw [← hW7]; exact blk_alloc k6 _
          have n7 : W7.heap[H2]? = some (.cells #[.int .i64 T', .int .i64 1] 23) := by rw [← hW7]; exact blk_new _ hH2.symm
          have b7 : Below G w2 W7 := by rw [← hW7]; exact b6.alloc (by omega) _
          rw [hW7, hH2]
          have q0 := blk_cell k7 0
          have q1 := blk_cell k7 1
          have f0 := blk_free k7 0
          have f1 := blk_free k7 1
          have q2 := blk_cell n7 0
          have q3 := blk_cell n7 1
          have hz := Lib.hid ((b7.setCell (p := ⟨G, 0, none⟩) (Nat.le_refl _) (.int .i64 T')).setCell (p := ⟨G, 1, none⟩) (Nat.le_refl _) (.int .i64 1))
          have hk := Lib.hid (blk_set (blk_set k7 0 (.int .i64 T')) 1 (.int .i64 1))
          clear k6 k7 n7 b7 b6 hW7 hH2
          go_wp2
          go_roundw
          case rel => exact ⟨j + 1, by omega, by go_num, by show _ = _; rw [HT'.out]; exact hk.out, hz.out⟩
          case measure => simp [intOf]; omega
        · obtain rfl : j = 2 := by omega
          have t0 : decide (((2 : Nat) : Int) < 2) = false := rfl
          have hT2 : divT n0 L.length 2 = (L.length : Int) * ((L.length : Int) - 1) := by unfold divT; simp
          obtain ⟨t, ht⟩ : ∃ t, (L.length : Int) * ((L.length : Int) - 1) = t := ⟨_, rfl⟩
          rw [hT2, ht] at hkx
          have HN := Lib.hid (fun W => sumN_any (L.length : Int) W (by omega))
          rw [if_neg (show ¬ (L.length : Int) < 1 by omega), ht] at HN
          have HWt := Lib.hid (fun W => q_any t 1 W)
          have hBx := hB2.trans (hbx2.mono hB2.size)
          have q0 := blk_cell hkx.out 0
          have q1 := blk_cell hkx.out 1
          have hd : Below wx.heap.size wx wx.drew := (Below.refl _ _).drew
          have HAW := Lib.hid (fun (W : World) (hW : Below wx.heap.size wx W) => nawake W (HLx.out.below hW HLx.out.lt))
          clear hkx hT2 ht HV2 hbx hbx2
          go_upto_region 21 with fail
          go_region_held3 (fun w' => w'.cell? ⟨G, 0, none⟩ = some (.int .i64 t) ∧ w'.cell? ⟨G, 1, none⟩ = some (.int .i64 1)) ((first | exact ⟨q0, q1⟩ | exact ⟨keepB hbm lG q0, keepB hbm lG q1⟩ | exact ⟨keepB hbn lG q0, keepB hbn lG q1⟩))
            ((first | (go_at_call 31; (with_reducible refine (HN.out _).mono ?_); rintro ee we ⟨rfl, rfl⟩) | (go_at_call 24; (with_reducible refine (HWt.out _).mono ?_); rintro ee wm ⟨rfl, hbm0⟩; have hbm := hd.trans (hbm0.mono hd.size)) | (go_at_call 19; (with_reducible refine (HAW.out _ hbm).mono ?_); rintro ee wn ⟨rfl, hbn0⟩; have hbn := hbm.trans (hbn0.mono hbm.size))))
          go_wp2
          go_ret
          exact ⟨rfl, hBx.trans (hbn.mono hBx.size)⟩

end Go.Proofs.YtlobdeakgoicpaaDoor
