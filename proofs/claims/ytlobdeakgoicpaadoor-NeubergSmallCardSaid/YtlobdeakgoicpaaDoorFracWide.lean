/- The walks of the package frac for numbers of 128 bits: product, pack, times, Mul. -/
import Derived.Test.YtlobdeakgoicpaaDoorNeuAll
import Derived.Test.YtlobdeakgoicpaaDoorR01B
namespace Go.Proofs.YtlobdeakgoicpaaDoor
open Go.RowKit

set_option maxHeartbeats 400000 in
theorem product_all (a b : Nat) (w : World) (ha : a ≤ 18446744073709551615) (hb : b ≤ 18446744073709551615) :
    Calls Tryd.prog 57 #[.int .u64 a, .int .u64 b] w fun e w' => e = .returned (.agg #[.int .u64 ((a * b / 18446744073709551616 : Nat) : Int), .int .u64 ((a * b % 18446744073709551616 : Nat) : Int)]) ∧ Below w.heap.size w w' := by
  have HM := Lib.hid (fun W => Tryd.bits_Mul64 a b (by omega) (by omega) W)
  generalize a * b / 18446744073709551616 = p at *
  generalize a * b % 18446744073709551616 = q at *
  go_enter Tryd.func57, Tryd.ntmps57
  go_wp2_with fail
  refine (HM.out _).mono ?_
  rintro e _ ⟨rfl, rfl⟩
  go_wp2
  exact bodyPost_ret (v := .agg #[.int .u64 (p : Int), .int .u64 (q : Int)]) (by simp [results, Tryd.results57, go_sem]) rfl ⟨rfl, (by repeat (first | exact Below.refl _ _ | assumption | refine Below.drew ?_ | refine below_drewN ?_ _ | refine Below.alloc ?_ (by first | omega | (simp; done) | (simp; omega)) _ | refine Below.setCell ?_ (by first | omega | (simp; done) | (simp; omega)) _))⟩

/-- What pack returns. -/
def pkV (sg : Bool) (X Y : Nat) : Pt := if (fitsB sg X && fitsB false Y) = true then ((if sg then -(X : Int) else (X : Int)), (Y : Int)) else (0, 0)
def pkE (sg : Bool) (X Y : Nat) : Int := if (fitsB sg X && fitsB false Y) = true then 0 else 3

set_option maxHeartbeats 400000 in
theorem pack_min (y : Int) (w : World) (hy : 0 ≤ y ∧ y ≤ 9223372036854775807) :
    Calls Tryd.prog 75 #[.bool true, .agg #[.int .u64 0, .int .u64 9223372036854775808], .agg #[.int .u64 0, .int .u64 y]] w fun e w' => e = .returned (.tuple #[.agg #[.int .i64 (-9223372036854775808), .int .i64 y], .int .i64 0]) ∧ Below w.heap.size w w' := by
  have hcv : wrap64 (IntKind.u64.wrap (-9223372036854775808)) = -9223372036854775808 := by unfold wrap64; simp only [IntKind.wrap, IntKind.signed, IntKind.bits]; simp
  go_enter Tryd.func75, Tryd.ntmps75
  go_wp2
  refine bodyPost_ret (v := .tuple #[.agg #[.int .i64 (-9223372036854775808), .int .i64 y], .int .i64 0]) (by simp [results, Tryd.results75, go_sem, hcv]) rfl ⟨rfl, (by repeat (first | exact Below.refl _ _ | assumption | refine Below.drew ?_ | refine below_drewN ?_ _ | refine Below.alloc ?_ (by first | omega | (simp; done) | (simp; omega)) _ | refine Below.setCell ?_ (by first | omega | (simp; done) | (simp; omega)) _))⟩

set_option maxHeartbeats 1000000 in
theorem pack_bad (sg : Bool) (x0 x1 y0 y1 : Int) (w : World) (h0 : 0 ≤ x0) (_ : 0 ≤ x1) (h2 : 0 ≤ y0) (_ : 0 ≤ y1)
    (h : x0 ≠ 0 ∨ (if sg then 9223372036854775808 else 9223372036854775807) < x1 ∨ y0 ≠ 0 ∨ 9223372036854775807 < y1) :
    Calls Tryd.prog 75 #[.bool sg, .agg #[.int .u64 x0, .int .u64 x1], .agg #[.int .u64 y0, .int .u64 y1]] w fun e w' => e = .returned (.tuple #[.agg #[.int .i64 0, .int .i64 0], .int .i64 3]) ∧ Below w.heap.size w w' := by
  by_cases a0 : x0 = 0
  · subst a0
    cases sg with
    | true =>
      by_cases a1 : 9223372036854775808 < x1
      · clear h
        go_enter Tryd.func75, Tryd.ntmps75
        go_wp2
        exact bodyPost_ret (v := .tuple #[.agg #[.int .i64 0, .int .i64 0], .int .i64 3]) (by simp [results, Tryd.results75, go_sem]) rfl ⟨rfl, (by repeat (first | exact Below.refl _ _ | assumption | refine Below.drew ?_ | refine below_drewN ?_ _ | refine Below.alloc ?_ (by first | omega | (simp; done) | (simp; omega)) _ | refine Below.setCell ?_ (by first | omega | (simp; done) | (simp; omega)) _))⟩
      · by_cases a2 : y0 = 0
        · subst a2
          have a3 : 9223372036854775807 < y1 := by
            rcases h with h | h | h | h
            · exact absurd rfl h
            · exact absurd h a1
            · exact absurd rfl h
            · exact h
          clear h
          go_enter Tryd.func75, Tryd.ntmps75
          go_wp2
          exact bodyPost_ret (v := .tuple #[.agg #[.int .i64 0, .int .i64 0], .int .i64 3]) (by simp [results, Tryd.results75, go_sem]) rfl ⟨rfl, (by repeat (first | exact Below.refl _ _ | assumption | refine Below.drew ?_ | refine below_drewN ?_ _ | refine Below.alloc ?_ (by first | omega | (simp; done) | (simp; omega)) _ | refine Below.setCell ?_ (by first | omega | (simp; done) | (simp; omega)) _))⟩
        · have t2 : (y0 != 0) = true := by simp [a2]
          clear h
          go_enter Tryd.func75, Tryd.ntmps75
          go_wp2
          exact bodyPost_ret (v := .tuple #[.agg #[.int .i64 0, .int .i64 0], .int .i64 3]) (by simp [results, Tryd.results75, go_sem]) rfl ⟨rfl, (by repeat (first | exact Below.refl _ _ | assumption | refine Below.drew ?_ | refine below_drewN ?_ _ | refine Below.alloc ?_ (by first | omega | (simp; done) | (simp; omega)) _ | refine Below.setCell ?_ (by first | omega | (simp; done) | (simp; omega)) _))⟩
    | false =>
      by_cases a1 : 9223372036854775807 < x1
      · clear h
        go_enter Tryd.func75, Tryd.ntmps75
        go_wp2
        exact bodyPost_ret (v := .tuple #[.agg #[.int .i64 0, .int .i64 0], .int .i64 3]) (by simp [results, Tryd.results75, go_sem]) rfl ⟨rfl, (by repeat (first | exact Below.refl _ _ | assumption | refine Below.drew ?_ | refine below_drewN ?_ _ | refine Below.alloc ?_ (by first | omega | (simp; done) | (simp; omega)) _ | refine Below.setCell ?_ (by first | omega | (simp; done) | (simp; omega)) _))⟩
      · by_cases a2 : y0 = 0
        · subst a2
          have a3 : 9223372036854775807 < y1 := by
            rcases h with h | h | h | h
            · exact absurd rfl h
            · exact absurd h a1
            · exact absurd rfl h
            · exact h
          clear h
          go_enter Tryd.func75, Tryd.ntmps75
          go_wp2
          exact bodyPost_ret (v := .tuple #[.agg #[.int .i64 0, .int .i64 0], .int .i64 3]) (by simp [results, Tryd.results75, go_sem]) rfl ⟨rfl, (by repeat (first | exact Below.refl _ _ | assumption | refine Below.drew ?_ | refine below_drewN ?_ _ | refine Below.alloc ?_ (by first | omega | (simp; done) | (simp; omega)) _ | refine Below.setCell ?_ (by first | omega | (simp; done) | (simp; omega)) _))⟩
        · have t2 : (y0 != 0) = true := by simp [a2]
          clear h
          go_enter Tryd.func75, Tryd.ntmps75
          go_wp2
          exact bodyPost_ret (v := .tuple #[.agg #[.int .i64 0, .int .i64 0], .int .i64 3]) (by simp [results, Tryd.results75, go_sem]) rfl ⟨rfl, (by repeat (first | exact Below.refl _ _ | assumption | refine Below.drew ?_ | refine below_drewN ?_ _ | refine Below.alloc ?_ (by first | omega | (simp; done) | (simp; omega)) _ | refine Below.setCell ?_ (by first | omega | (simp; done) | (simp; omega)) _))⟩
  · have t0 : (x0 != 0) = true := by simp [a0]
    clear h
    cases sg <;>
    · go_enter Tryd.func75, Tryd.ntmps75
      go_wp2
      exact bodyPost_ret (v := .tuple #[.agg #[.int .i64 0, .int .i64 0], .int .i64 3]) (by simp [results, Tryd.results75, go_sem]) rfl ⟨rfl, (by repeat (first | exact Below.refl _ _ | assumption | refine Below.drew ?_ | refine below_drewN ?_ _ | refine Below.alloc ?_ (by first | omega | (simp; done) | (simp; omega)) _ | refine Below.setCell ?_ (by first | omega | (simp; done) | (simp; omega)) _))⟩

theorem pack_all (sg : Bool) (X Y : Nat) (w : World) :
    Calls Tryd.prog 75 #[.bool sg, .agg #[.int .u64 ((X / 18446744073709551616 : Nat) : Int), .int .u64 ((X % 18446744073709551616 : Nat) : Int)], .agg #[.int .u64 ((Y / 18446744073709551616 : Nat) : Int), .int .u64 ((Y % 18446744073709551616 : Nat) : Int)]] w fun e w' => e = .returned (.tuple #[fV (pkV sg X Y), .int .i64 (pkE sg X Y)]) ∧ Below w.heap.size w w' := by
  by_cases hf : (fitsB sg X && fitsB false Y) = true
  · obtain ⟨h1, h2⟩ := Bool.and_eq_true_iff.1 hf
    have hY : Y < 9223372036854775808 := of_decide_eq_true h2
    unfold pkV pkE
    rw [if_pos hf, if_pos hf]
    have eY0 : Y / 18446744073709551616 = 0 := by omega
    have eY1 : Y % 18446744073709551616 = Y := by omega
    rw [eY0, eY1]
    cases sg with
    | false =>
      have hX : X < 9223372036854775808 := of_decide_eq_true h1
      rw [show X / 18446744073709551616 = 0 by omega, show X % 18446744073709551616 = X by omega]
      exact pack_any false X Y w (by omega) (by omega)
    | true =>
      have hX : X ≤ 9223372036854775808 := of_decide_eq_true h1
      rw [show X / 18446744073709551616 = 0 by omega, show X % 18446744073709551616 = X by omega]
      by_cases e : X = 9223372036854775808
      · subst e
        exact pack_min Y w (by omega)
      · exact pack_any true X Y w (by omega) (by omega)
  · unfold pkV pkE
    rw [if_neg hf, if_neg hf]
    refine pack_bad sg _ _ _ _ w (by omega) (by omega) (by omega) (by omega) ?_
    have hb : fitsB sg X = false ∨ fitsB false Y = false := by
      cases h1 : fitsB sg X with
      | false => exact .inl rfl
      | true =>
        cases h2 : fitsB false Y with
        | false => exact .inr rfl
        | true => rw [h1, h2] at hf; exact absurd rfl hf
    rcases hb with hb | hb
    · cases sg with
      | false =>
        have hX : ¬ X < 9223372036854775808 := of_decide_eq_false hb
        show _ ∨ (9223372036854775807 : Int) < _ ∨ _
        omega
      | true =>
        have hX : ¬ X ≤ 9223372036854775808 := of_decide_eq_false hb
        show _ ∨ (9223372036854775808 : Int) < _ ∨ _
        omega
    · have hY : ¬ Y < 9223372036854775808 := of_decide_eq_false hb
      omega

set_option maxHeartbeats 2000000 in
theorem ftimes_all (sg : Bool) (N a M b g h u v x y : Nat) (hg : Nat.gcd N b = g) (hh : Nat.gcd M a = h) (hu : N / g = u) (hv : M / h = v) (hx : a / h = x) (hy : b / g = y) (hN : N ≤ 9223372036854775808) (hM : M ≤ 9223372036854775807) (ha : a ≤ 9223372036854775807) (hb : b ≤ 9223372036854775807)
    (hg1 : 1 ≤ g) (hh1 : 1 ≤ h) (hu1 : u ≤ 9223372036854775808) (hv1 : v ≤ 9223372036854775807) (hx1 : x ≤ 9223372036854775807) (hy1 : y ≤ 9223372036854775807) (hg2 : g ≤ 9223372036854775808) (hh2 : h ≤ 9223372036854775808) (w : World) :
    Calls Tryd.prog 82 #[.bool sg, .int .u64 N, .int .u64 a, .int .u64 M, .int .u64 b] w fun e w' => e = .returned (.tuple #[fV (pkV sg (u * v) (x * y)), .int .i64 (pkE sg (u * v) (x * y))]) ∧ Below w.heap.size w w' := by
  have HG1 := Lib.hid (fun W => gcd_any N b W (by omega) (by omega))
  have HG2 := Lib.hid (fun W => gcd_any M a W (by omega) (by omega))
  rw [hg] at HG1
  rw [hh] at HG2
  have HP1 := Lib.hid (fun W => product_all u v W (by omega) (by omega))
  have HP2 := Lib.hid (fun W => product_all x y W (by omega) (by omega))
  have HK := Lib.hid (fun W => pack_all sg (u * v) (x * y) W)
  have E1 := Lib.hid (show (N : Int) / (g : Int) = (u : Int) by rw [← hu]; exact (Int.natCast_ediv _ _).symm)
  have E2 := Lib.hid (show (M : Int) / (h : Int) = (v : Int) by rw [← hv]; exact (Int.natCast_ediv _ _).symm)
  have E3 := Lib.hid (show (a : Int) / (h : Int) = (x : Int) by rw [← hx]; exact (Int.natCast_ediv _ _).symm)
  have E4 := Lib.hid (show (b : Int) / (g : Int) = (y : Int) by rw [← hy]; exact (Int.natCast_ediv _ _).symm)
  have T1 := Lib.hid (show (N : Int).tdiv (g : Int) = (u : Int) by rw [Int.tdiv_eq_ediv_of_nonneg (by omega)]; exact E1.out)
  have T2 := Lib.hid (show (M : Int).tdiv (h : Int) = (v : Int) by rw [Int.tdiv_eq_ediv_of_nonneg (by omega)]; exact E2.out)
  have T3 := Lib.hid (show (a : Int).tdiv (h : Int) = (x : Int) by rw [Int.tdiv_eq_ediv_of_nonneg (by omega)]; exact E3.out)
  have T4 := Lib.hid (show (b : Int).tdiv (g : Int) = (y : Int) by rw [Int.tdiv_eq_ediv_of_nonneg (by omega)]; exact E4.out)
  have I1 := Lib.hid (show IntKind.u64.wrap (u : Int) = (u : Int) from IntWalk.u64_in _ (by omega))
  have I2 := Lib.hid (show IntKind.u64.wrap (v : Int) = (v : Int) from IntWalk.u64_in _ (by omega))
  have I3 := Lib.hid (show IntKind.u64.wrap (x : Int) = (x : Int) from IntWalk.u64_in _ (by omega))
  have I4 := Lib.hid (show IntKind.u64.wrap (y : Int) = (y : Int) from IntWalk.u64_in _ (by omega))
  have gz : ((g : Int) == 0) = false := beq_eq_false_iff_ne.2 (by omega)
  have hz : ((h : Int) == 0) = false := beq_eq_false_iff_ne.2 (by omega)
  have gn : ¬ g = 0 := by omega
  have hn : ¬ h = 0 := by omega
  generalize u * v = p at *
  generalize x * y = q at *
  obtain ⟨F, hF⟩ : ∃ F, pkV sg p q = F := ⟨_, rfl⟩
  obtain ⟨E, hE⟩ : ∃ E, pkE sg p q = E := ⟨_, rfl⟩
  rw [hF, hE] at HK ⊢
  obtain ⟨D1, D2⟩ := F
  unfold fV at HK ⊢
  dsimp only at HK ⊢
  clear hF hE
  generalize p / 18446744073709551616 = p0 at *
  generalize p % 18446744073709551616 = p1 at *
  generalize q / 18446744073709551616 = r0 at *
  generalize q % 18446744073709551616 = r1 at *
  clear hg hh hu hv hx hy
  go_enter Tryd.func82, Tryd.ntmps82
  go_wp2_with fail
  refine (HG1.out _).mono ?_
  rintro e w1 ⟨rfl, hb1⟩
  go_wp2_with fail
  refine (HG2.out _).mono ?_
  rintro e w2 ⟨rfl, hb2⟩
  have hb12 : Below (w.alloc (.cells #[.int .i64 0, .int .i64 0] 23)).heap.size (w.alloc (.cells #[.int .i64 0, .int .i64 0] 23)) w2 := hb1.trans (hb2.mono hb1.size)
  have hb2' : Below w.heap.size w w2 := ((Below.refl _ _).alloc (Nat.le_refl _) _).trans (hb12.mono (by simp))
  have s1 : w.heap.size < w2.heap.size := by have := hb12.size; simp at this; omega
  have hblk : w2.heap[w.heap.size]? = some (.cells #[.int .i64 0, .int .i64 0] 23) := blk_below (blk_new _ rfl) hb12 (by simp)
  have HB := Lib.hid (fun (wa : World) (hba : Below w2.heap.size w2 wa) => (show wa.cell? ⟨w.heap.size, 0, none⟩ = some (.int .i64 0) ∧ wa.cell? ⟨w.heap.size, 1, none⟩ = some (.int .i64 0) ∧ wa.frozen? ⟨w.heap.size, 0, none⟩ = false ∧ wa.frozen? ⟨w.heap.size, 1, none⟩ = false from
    have h2 := blk_below hblk hba s1
    ⟨blk_cell h2 0, blk_cell h2 1, blk_free h2 0, blk_free h2 1⟩))
  have hd : Below w2.heap.size w2 w2.drew := (Below.refl _ _).drew
  clear hb1 hb2 hb12 hblk HG1 HG2
  go_upto_region 2 with fail
  have e1 := E1.out
  have e2 := E2.out
  have e3 := E3.out
  have e4 := E4.out
  have t1 := T1.out
  have t2 := T2.out
  have t3 := T3.out
  have t4 := T4.out
  have i1 := I1.out
  have i2 := I2.out
  have i3 := I3.out
  have i4 := I4.out
  go_region_held3 (fun _ => True) (trivial)
    ((first
      | (go_at_call 57; (with_reducible refine (HP1.out _).mono ?_); rintro e wa ⟨rfl, hba0⟩; first | (have hba := hd.trans (hba0.mono hd.size)) | (have hba := hbb.trans (hba0.mono hbb.size)))
      | (go_at_call 57; (with_reducible refine (HP2.out _).mono ?_); rintro e wb ⟨rfl, hbb0⟩; first | (have hbb := hd.trans (hbb0.mono hd.size)) | (have hbb := hba.trans (hbb0.mono hba.size)))
      | (go_at_call 75; (with_reducible refine (HK.out _).mono ?_); rintro e wc ⟨rfl, hbc0⟩; first | (have hbc := hbb.trans (hbc0.mono hbb.size); obtain ⟨hc0, hc1, hf0, hf1⟩ := HB.out wc hbc) | (have hbc := hba.trans (hbc0.mono hba.size); obtain ⟨hc0, hc1, hf0, hf1⟩ := HB.out wc hbc))))
  all_goals clear i1 i2 i3 i4 e1 e2 e3 e4 t1 t2 t3 t4
  all_goals go_wp2
  all_goals exact bodyPost_ret (v := .tuple #[.agg #[.int .i64 D1, .int .i64 D2], .int .i64 E]) (by simp [results, Tryd.results82, go_sem, hc0, hc1]) rfl ⟨rfl, ((hb2'.trans (hbc.mono (Nat.le_of_lt s1))).setCell (Nat.le_refl _) _).setCell (Nat.le_refl _) _⟩


/-- A product in lowest terms, as the reference makes it. -/
theorem mul_mk (n m : Int) (a b : Nat) (ha : 1 ≤ a) (hb : 1 ≤ b) (hm : 0 < m) (hf : rightF (n, (a : Int)) = true) (hg : rightF (m, (b : Int)) = true) (g h u v x y : Nat) (h1 : Nat.gcd n.natAbs b = g) (h2 : Nat.gcd m.natAbs a = h) (h3 : n.natAbs / g = u) (h4 : m.natAbs / h = v) (h5 : a / h = x) (h6 : b / g = y) :
    pkV (decide (n < 0)) (u * v) (x * y) = mk0 (decide (n < 0)) (n.natAbs * m.natAbs) (a * b) ∧ pkE (decide (n < 0)) (u * v) (x * y) = mkE (decide (n < 0)) (n.natAbs * m.natAbs) (a * b) := by
  have gn : Int.gcd n a = 1 := by
    unfold rightF at hf
    have := (Bool.and_eq_true_iff.1 hf).2
    simpa [Int.gcd] using this
  have gm : Int.gcd m b = 1 := by
    unfold rightF at hg
    have := (Bool.and_eq_true_iff.1 hg).2
    simpa [Int.gcd] using this
  have hsg : decide (n < 0) = (decide (n < 0) != decide (m < 0)) := by rw [decide_eq_false (show ¬ m < 0 by omega)]; simp
  have hl := (times_law n m a b ha hb gn gm g h u v x y h1.symm h2.symm h3.symm h4.symm h5.symm h6.symm (decide (n < 0)) hsg).1
  unfold mulF fr at hl
  dsimp only at hl
  injection hl with e1 e2
  have hG : Int.gcd (n * m) ((a : Int) * (b : Int)) = Nat.gcd (n.natAbs * m.natAbs) (a * b) := by
    unfold Int.gcd
    rw [Int.natAbs_mul, Int.natAbs_mul, Int.natAbs_natCast, Int.natAbs_natCast]
  rw [hG] at e1 e2
  have hGd : ((Nat.gcd (n.natAbs * m.natAbs) (a * b) : Nat) : Int) ∣ n * m := by
    rw [← hG]; exact Int.gcd_dvd_left ..
  have hGp : 0 < Nat.gcd (n.natAbs * m.natAbs) (a * b) := Nat.gcd_pos_of_pos_right _ (Nat.mul_pos ha hb)
  have hY : a * b / Nat.gcd (n.natAbs * m.natAbs) (a * b) = x * y := by
    have := e2
    rw [← Int.natCast_mul, ← Int.natCast_ediv] at this
    exact Int.ofNat.inj this
  have hX : n.natAbs * m.natAbs / Nat.gcd (n.natAbs * m.natAbs) (a * b) = u * v := by
    have h7 := congrArg Int.natAbs e1
    rw [Int.natAbs_ediv_of_dvd hGd, Int.natAbs_mul, Int.natAbs_natCast] at h7
    rw [h7]
    split
    · rw [Int.natAbs_neg]; exact Int.natAbs_natCast _
    · exact Int.natAbs_natCast _
  have hpos : n < 0 → 0 < u * v := fun hn => by
    rw [← hX]
    exact Nat.div_pos (Nat.le_of_dvd (Nat.mul_pos (by omega) (by omega)) (Nat.gcd_dvd_left _ _)) hGp
  unfold pkV pkE mk0 mkE okK
  rw [hX, hY]
  have hs : (decide (n < 0) && decide (0 < ln (u * v))) = decide (n < 0) := by
    by_cases hn : n < 0
    · have : 0 < ln (u * v) := by
        rcases Nat.eq_zero_or_pos (ln (u * v)) with h0 | h0
        · have := ln_nil.1 h0; have := hpos hn; omega
        · exact h0
      rw [decide_eq_true this, Bool.and_true]
    · rw [decide_eq_false hn]; rfl
  rw [hs]
  refine ⟨?_, rfl⟩
  by_cases hf2 : (fitsB (decide (n < 0)) (u * v) && fitsB false (x * y)) = true
  · rw [if_pos hf2, if_pos hf2]
    obtain ⟨k1, k2⟩ := Bool.and_eq_true_iff.1 hf2
    unfold numV
    rw [k1, k2]
    rfl
  · rw [if_neg hf2, if_neg hf2]

set_option maxHeartbeats 2000000 in
theorem fmul_all (n m : Int) (a b : Nat) (hn : -9223372036854775808 ≤ n ∧ n ≤ 9223372036854775807) (ha : 1 ≤ a ∧ a ≤ 9223372036854775807) (hm : 0 < m ∧ m ≤ 9223372036854775807) (hb : 1 ≤ b ∧ b ≤ 9223372036854775807) (hf : rightF (n, (a : Int)) = true) (hg : rightF (m, (b : Int)) = true) (w : World) :
    Calls Tryd.prog 63 #[.agg #[.int .i64 n, .int .i64 a], .agg #[.int .i64 m, .int .i64 b]] w fun e w' => e = .returned (.tuple #[fV (mk0 (decide (n < 0)) (n.natAbs * m.natAbs) (a * b)), .int .i64 (mkE (decide (n < 0)) (n.natAbs * m.natAbs) (a * b))]) ∧ Below w.heap.size w w' := by
  have HR1 := Lib.hid (fun W => right_all n (a : Int) hn (by omega) W)
  have HR2 := Lib.hid (fun W => right_all m (b : Int) (by omega) (by omega) W)
  rw [hf] at HR1
  rw [hg] at HR2
  obtain ⟨g, h1⟩ : ∃ g, Nat.gcd n.natAbs b = g := ⟨_, rfl⟩
  obtain ⟨h, h2⟩ : ∃ h, Nat.gcd m.natAbs a = h := ⟨_, rfl⟩
  obtain ⟨u, h3⟩ : ∃ u, n.natAbs / g = u := ⟨_, rfl⟩
  obtain ⟨v, h4⟩ : ∃ v, m.natAbs / h = v := ⟨_, rfl⟩
  obtain ⟨x, h5⟩ : ∃ x, a / h = x := ⟨_, rfl⟩
  obtain ⟨y, h6⟩ : ∃ y, b / g = y := ⟨_, rfl⟩
  have hmk := mul_mk n m a b ha.1 hb.1 hm.1 hf hg g h u v x y h1 h2 h3 h4 h5 h6
  have hg0 : 1 ≤ g := by rw [← h1]; exact Nat.gcd_pos_of_pos_right _ hb.1
  have hh0 : 1 ≤ h := by rw [← h2]; exact Nat.gcd_pos_of_pos_right _ ha.1
  have hgl : g ≤ b := by rw [← h1]; exact Nat.gcd_le_right _ hb.1
  have hhl : h ≤ a := by rw [← h2]; exact Nat.gcd_le_right _ ha.1
  have hul : u ≤ n.natAbs := by rw [← h3]; exact Nat.div_le_self _ _
  have hvl : v ≤ m.natAbs := by rw [← h4]; exact Nat.div_le_self _ _
  have hxl : x ≤ a := by rw [← h5]; exact Nat.div_le_self _ _
  have hyl : y ≤ b := by rw [← h6]; exact Nat.div_le_self _ _
  have HT := Lib.hid (fun W => ftimes_all (decide (n < 0)) n.natAbs a m.natAbs b g h u v x y h1 h2 h3 h4 h5 h6 (by omega) (by omega) (by omega) (by omega) hg0 hh0 (by omega) (by omega) (by omega) (by omega) (by omega) (by omega) W)
  rw [← hmk.1, ← hmk.2]
  obtain ⟨F, hF⟩ : ∃ F, pkV (decide (n < 0)) (u * v) (x * y) = F := ⟨_, rfl⟩
  obtain ⟨E, hE⟩ : ∃ E, pkE (decide (n < 0)) (u * v) (x * y) = E := ⟨_, rfl⟩
  rw [hF, hE] at HT ⊢
  obtain ⟨D1, D2⟩ := F
  unfold fV at HT ⊢
  dsimp only at HT ⊢
  have t1 : ¬ m < 0 := by omega
  have t2 : decide (m < 0) = false := decide_eq_false t1
  have HSa := Lib.hid (fun W => size_all (a : Int) W (by omega))
  have HSb := Lib.hid (fun W => size_all (b : Int) W (by omega))
  have HSn := Lib.hid (fun W => size_all n W hn)
  have HSm := Lib.hid (fun W => size_all m W (by omega))
  rw [show (((a : Int).natAbs : Nat) : Int) = (a : Int) by omega] at HSa
  rw [show (((b : Int).natAbs : Nat) : Int) = (b : Int) by omega] at HSb
  clear hf hg hmk hF hE hg0 hh0 hgl hhl hul hvl hxl hyl h1 h2 h3 h4 h5 h6 hn ha hm hb
  go_enter Tryd.func63, Tryd.ntmps63
  go_upto_region 1 with fail
  obtain ⟨W0, hW0⟩ : ∃ W0, (((w.alloc (.cells #[.int .i64 n, .int .i64 a] 23)).alloc (.cells #[.int .i64 m, .int .i64 b] 23)).alloc (.cells #[.int .i64 0, .int .i64 0] 23)) = W0 := ⟨_, rfl⟩
  have hB0 : Below w.heap.size w W0 := by rw [← hW0]; exact (by repeat (first | exact Below.refl _ _ | assumption | refine Below.drew ?_ | refine below_drewN ?_ _ | refine Below.alloc ?_ (by first | omega | (simp; done) | (simp; omega)) _ | refine Below.setCell ?_ (by first | omega | (simp; done) | (simp; omega)) _))
  have k0 : W0.heap[w.heap.size]? = some (.cells #[.int .i64 n, .int .i64 a] 23) := by rw [← hW0]; exact blk_alloc (blk_alloc (blk_new _ rfl) _) _
  have k1 : W0.heap[w.heap.size + 1]? = some (.cells #[.int .i64 m, .int .i64 b] 23) := by rw [← hW0]; exact blk_alloc (blk_new _ (by simp)) _
  have k2 : W0.heap[w.heap.size + 2]? = some (.cells #[.int .i64 0, .int .i64 0] 23) := by rw [← hW0]; exact blk_new _ (by simp)
  have s0 : W0.heap.size = w.heap.size + 3 := by rw [← hW0]; simp
  rw [hW0]
  clear hW0
  have HL := Lib.hid (fun (wa : World) (hba : Below W0.heap.size W0 wa) => (show Below w.heap.size w wa ∧ wa.cell? ⟨w.heap.size, 0, none⟩ = some (.int .i64 n) ∧ wa.cell? ⟨w.heap.size, 1, none⟩ = some (.int .i64 a) ∧ wa.cell? ⟨w.heap.size + 1, 0, none⟩ = some (.int .i64 m) ∧ wa.cell? ⟨w.heap.size + 1, 1, none⟩ = some (.int .i64 b) ∧ wa.cell? ⟨w.heap.size + 2, 0, none⟩ = some (.int .i64 0) ∧ wa.cell? ⟨w.heap.size + 2, 1, none⟩ = some (.int .i64 0) ∧ wa.frozen? ⟨w.heap.size + 2, 0, none⟩ = false ∧ wa.frozen? ⟨w.heap.size + 2, 1, none⟩ = false from
    have h0 := blk_below k0 hba (by omega)
    have h1 := blk_below k1 hba (by omega)
    have h2 := blk_below k2 hba (by omega)
    ⟨hB0.trans (hba.mono (by omega)), blk_cell h0 0, blk_cell h0 1, blk_cell h1 0, blk_cell h1 1, blk_cell h2 0, blk_cell h2 1, blk_free h2 0, blk_free h2 1⟩))
  obtain ⟨-, c0, c1, c2, c3, -⟩ := HL.out W0 (Below.refl _ _)
  clear k0 k1 k2 hB0
  go_wp2_with fail
  refine (HR1.out _).mono ?_
  rintro ee W1 ⟨rfl, hb1⟩
  obtain ⟨-, c0, c1, c2, c3, -⟩ := HL.out W1 hb1
  go_wp2_with fail
  refine (HR2.out _).mono ?_
  rintro ee W2 ⟨rfl, hb2⟩
  have hb2 : Below W0.heap.size W0 W2 := hb1.trans (hb2.mono hb1.size)
  obtain ⟨-, c0, c1, c2, c3, -⟩ := HL.out W2 hb2
  have hd : Below W0.heap.size W0 W2.drew := hb2.drew
  have KP := Lib.hid (fun (w' : World) (hb : Below W0.heap.size W0 w') => (show w'.cell? ⟨w.heap.size, 0, none⟩ = some (.int .i64 n) ∧ w'.cell? ⟨w.heap.size, 1, none⟩ = some (.int .i64 a) ∧ w'.cell? ⟨w.heap.size + 1, 0, none⟩ = some (.int .i64 m) ∧ w'.cell? ⟨w.heap.size + 1, 1, none⟩ = some (.int .i64 b) from
    have h := HL.out w' hb
    ⟨h.2.1, h.2.2.1, h.2.2.2.1, h.2.2.2.2.1⟩))
  have ne0 : w.heap.size + 1 + 1 ≠ w.heap.size := by omega
  have ne1 : w.heap.size + 1 + 1 ≠ w.heap.size + 1 := by omega
  go_upto_region 3 with fail
  go_region_held3 (fun w' => w'.cell? ⟨w.heap.size, 0, none⟩ = some (.int .i64 n) ∧ w'.cell? ⟨w.heap.size, 1, none⟩ = some (.int .i64 a) ∧ w'.cell? ⟨w.heap.size + 1, 0, none⟩ = some (.int .i64 m) ∧ w'.cell? ⟨w.heap.size + 1, 1, none⟩ = some (.int .i64 b)) ((first | exact ⟨c0, c1, c2, c3⟩ | exact KP.out _ hbc | exact ⟨keepS (keepS c0' ne0 _) ne0 _, keepS (keepS c1' ne0 _) ne0 _, keepS (keepS c2' ne1 _) ne1 _, keepS (keepS c3' ne1 _) ne1 _⟩))
    ((first
      | (go_at_call 58; first | ((with_reducible refine (HSn.out _).mono ?_); rintro ee we ⟨rfl, rfl⟩) | ((with_reducible refine (HSb.out _).mono ?_); rintro ee we ⟨rfl, rfl⟩) | ((with_reducible refine (HSm.out _).mono ?_); rintro ee we ⟨rfl, rfl⟩) | ((with_reducible refine (HSa.out _).mono ?_); rintro ee we ⟨rfl, rfl⟩))
      | (go_at_call 82; (with_reducible refine (HT.out _).mono ?_); rintro ee wc ⟨rfl, hbc0⟩; have hbc := hd.trans (hbc0.mono hd.size); obtain ⟨hB3, c0', c1', c2', c3', c4, c5, c6, c7⟩ := HL.out wc hbc)))
  go_wp2
  exact bodyPost_ret (v := .tuple #[.agg #[.int .i64 D1, .int .i64 D2], .int .i64 E]) (by simp [results, Tryd.results63, go_sem, c4, c5]) rfl ⟨rfl, (hB3.setCell (by show _ ≤ w.heap.size + 2; omega) _).setCell (by show _ ≤ w.heap.size + 2; omega) _⟩


end Go.Proofs.YtlobdeakgoicpaaDoor
