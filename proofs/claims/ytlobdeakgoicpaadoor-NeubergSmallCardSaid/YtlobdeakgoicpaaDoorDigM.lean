/- The walk of finesseref01.mul: all orders of its drawn region. (Written by gendigm.py.) -/
import Derived.Test.YtlobdeakgoicpaaDoorDigN
import Derived.Deep.RegionHeld3
import Derived.Deep.DeepCutAuto
import Derived.Deep.CutBlock
import Derived.Deep.DeepMust
namespace Go.Proofs.YtlobdeakgoicpaaDoor
open Go.RowKit

theorem wp_append_srcD {P : Program} {w : World} {o : Oper} {a : Act} {K : Act → World → Prop} {Q : Exit → Act → World → Prop} (s x : Operand) (t : TypeId)
    (ho : o.op = .call { callee := .builtin .append, args := #[s, x], argTypes := #[t, t] })
    (base : Nat) (e : TypeId) (i : TypeInfo) (z : Value) (size bytes : Nat) (ht : P.underlying t = some (.slice e)) (hi : P.info? e = some i) (hz : i.zero = some z)
    (hsize : i.size = size) (hby : i.bytes = bytes) (hzs : z.cells.size = size) (hsz : 0 < size)
    (v : Value) (n : Nat) (xs : List Value) (hs : a.eval s = v) (hown : w.ownsRow base e size v n xs)
    (A : Option Addr) (m c B : Nat) (news : List Value) (hx : a.eval x = .slice A m c) (hrd : Rd w B size A m news) (hA : A = none → c = 0) (h1 : ∀ u ∈ news, u.oneCell' = true)
    (h63 : n + m ≤ maxLen) (hbytes : (n + m) * bytes ≤ 140737488355328) (hbase : base ≤ w.heap.size)
    (d : Nat) (hd : o.dst = some d)
    (h : ∀ v' w', w'.ownsRow base e size v' (n + m) (xs ++ news) → w.grownBy w' v.ownBlock → K (a.put (some d) v') w') : o.wp P a w K Q := by
  rw [← hd] at h
  cases A with
  | none =>
    have hc := hA rfl
    subst hc
    have hm : m = 0 := by
      rcases Nat.eq_zero_or_pos m with h0 | h0
      · exact h0
      · obtain ⟨b, off, he, _⟩ := hrd.2 h0
        cases he
    subst hm
    have hn : news = [] := List.eq_nil_of_length_eq_zero (by simpa using hrd.1)
    subst hn
    have hrun := run_append_owned_none (P := P) (w := w) base t o.type e i size ht hi v n xs hown
    unfold Oper.wp
    simp [execOp, ho, resolve, invoke, builtin, hs, hx, hrun, Result.andThen]
    exact h v w (by simpa using hown) ⟨rfl, rfl, rfl, Nat.le_refl _, fun _ _ _ => rfl⟩
  | some ad =>
    have hnews : ∀ j u, news[j]? = some u → w.cell? (ad.add j) = some u := fun j u hj => by
      have hjl := (List.getElem?_eq_some_iff.1 hj).1
      have hm : 0 < m := by
        rcases Nat.eq_zero_or_pos m with h0 | h0
        · rw [hrd.1, h0] at hjl; omega
        · exact h0
      obtain ⟨b, off, he, _, hc⟩ := hrd.2 hm
      obtain rfl := Option.some.inj he
      have := (hc j hjl).trans hj
      unfold Addr.add
      split
      · rename_i h0; subst h0; simpa using this
      · exact this
    obtain ⟨v', w', hr, h2, h3, -, -⟩ := run_append_own_at (P := P) w base t o.type e i z size bytes ht hi hz hsize hby hzs hsz v n xs hown ad m c news hrd.1 hnews h1 h63 hbytes hbase
    unfold Oper.wp execOp
    simp only [ho, resolve, invoke, builtin, Sem.run_bind, Sem.run_pure, Result.andThen_ok, List.map_toArray, List.map_cons, List.map_nil, hs, hx, hr]
    exact h v' w' h2 h3
theorem take_named {P : Program} {ops : Array Oper} {Q : Exit → Act → World → Prop} {md : Region.Mode} {S : World → Prop} {i d : Nat} {oi : Oper} {v : Value} {fuel : Nat} {listed : Array Bool} {a : Act} {w : World} (hi : ops[i]? = some oi) (hd : oi.dst = some d)
    (hs : Region.noSelect ops = true) (hf : Region.free md ops listed i = true) (hr : (Region.ready md ops listed).contains i = true)
    (hQ : ∀ c a w, Q (.panic c) (a.put (some d) v) w → Q (.panic c) a w) (hy : YieldsIf P ops S oi v a) (hS : S w)
    (h : wpAnyH P md ops Q S fuel (listed.setIfInBounds i true) (a.put (some d) v) w) : wpAnyH P md ops Q S (fuel + 1) listed a w := by
  rw [← hd] at h hQ
  exact wpAnyH_take hi hs hf hr hQ hy hS h

theorem below_viaD {w W1 w1 : World} (h0 : Below w.heap.size w W1) (hb : Below W1.heap.size W1 w1) : Below w.heap.size w w1 := h0.trans (hb.mono h0.size)
theorem keepD {B b o : Nat} {W W' : World} {v : Value} (hb : Below B W W') (hl : b < B) (h : W.cell? ⟨b, o, none⟩ = some v) : W'.cell? ⟨b, o, none⟩ = some v := (bcell hb b o hl).trans h
theorem own_oneD {W : World} {m B : Nat} {v : Value} (h : W.heap[m]? = some (.cells #[v] 3 (0, 0))) (hB : B ≤ m) : W.ownsRow B 3 1 (.slice (some ⟨m, 0, none⟩) 1 1) 1 [v] :=
  ⟨by simp, .inr ⟨m, 1, #[v], rfl, hB, h, Nat.le_refl _, by unfold maxLen; omega, by simp, by simp⟩⟩
theorem own_consD {W : World} {B p c P : Nat} {A : Option Addr} {e : TypeId} (h : W.ownsRow B e 1 (.slice A (1 + p) c) (1 + p) ([.int .i64 0] ++ dC P p)) : W.ownsRow B e 1 (.slice A (1 + p) c) (1 + p) (dC (65536 * P) (1 + p)) := by
  have e1 : dC (65536 * P) (1 + p) = [.int .i64 0] ++ dC P p := by
    have h1 := dC_cons 0 P p (by decide)
    rw [Nat.add_comm 1 p]
    simpa using h1.symm
  rw [e1]; exact h
theorem shift_lt {n k : Nat} (h : n < Bs ^ k) : 65536 * n < Bs ^ (1 + k) := by
  rw [Nat.pow_add, Nat.pow_one]
  exact (Nat.mul_lt_mul_left (by decide)).2 h
theorem DS.lt {w : World} {n k c : Nat} {A : Option Addr} (h : DS w n k A c) (ad : Addr) (e : A = some ad) (h0 : 0 < k) : ad.block < w.heap.size := by
  obtain ⟨b, off, he, hl, _⟩ := h.2.1.2 h0
  rw [e] at he
  obtain rfl := Option.some.inj he
  exact hl
theorem DS.grownD {w w' : World} {n k c : Nat} {A : Option Addr} {row : Option Nat} (h : DS w n k A c) (hg : w.grownBy w' row) (hr : ∀ ad, A = some ad → 0 < k → some ad.block ≠ row) : DS w' n k A c :=
  ⟨h.1, ⟨h.2.1.1, fun hk => by
    obtain ⟨b, off, e, hl, hc⟩ := h.2.1.2 hk
    exact ⟨b, off, e, Nat.lt_of_lt_of_le hl hg.size, fun j hj => (World.cell?_of_block (hg.block b hl (hr _ e hk))).trans (hc j hj)⟩⟩, h.2.2⟩

set_option maxRecDepth 100000 in
set_option maxHeartbeats 4000000 in
theorem r01mul (a b : Nat) (A B : Option Addr) (ca cb : Nat) (w : World) (ha : DS w a (ln a) A ca) (hb : DS w b (ln b) B cb) (hla : ln a ≤ 40) (hlb : ln b ≤ 40) :
    Calls Tryd.prog 66 #[.slice A (ln a) ca, .slice B (ln b) cb] w (OutD (a * b) w) := by
  obtain ⟨i0, hi, hz0, hz1, hz2⟩ := info_parts info_int
  have hab : ∀ k, a * (b / Bs ^ k) < Bs ^ 80 := fun k => by
    have h1 : a < Bs ^ 40 := Nat.lt_of_lt_of_le (ln_lt a) (bs_le hla)
    have h2 : b / Bs ^ k < Bs ^ 40 := Nat.lt_of_le_of_lt (Nat.div_le_self _ _) (Nat.lt_of_lt_of_le (ln_lt b) (bs_le hlb))
    have e : Bs ^ 80 = Bs ^ 40 * Bs ^ 40 := by rw [← Nat.pow_add]
    rw [e]
    exact Nat.mul_lt_mul_of_le_of_lt (Nat.le_of_lt h1) h2 (by omega)
  have HLn := Lib.hid (fun k => (ln_le.2 (hab k) : ln (a * (b / Bs ^ k)) ≤ 80))
  have HA := Lib.hid ha
  have HBd := Lib.hid hb
  have hb0' : b / Bs ^ ln b = 0 := Nat.div_eq_of_lt (ln_lt b)
  have HSt0 := Lib.hid (fun i => mul_step a b i)
  have HSc0 := Lib.hid (fun (d : Nat) (hd : d ≤ 65535) W h => r01scale a d A ca W h (by omega) hd)
  have Hz := Lib.hid (show a * (b / Bs ^ ln b) = 0 by rw [hb0', Nat.mul_zero])
  clear ha hb hab hb0' hla
  generalize ln b = lb at *
  generalize ln a = la at *
  go_enter Tryd.func66, Tryd.ntmps66
  go_wp2
  go_loopw [5, 6] (fun v i wr => ∃ (j c1 : Nat) (A1 : Option Addr), j ≤ lb ∧ i = .int .i64 ((j : Int) - 1) ∧ v = .slice A1 (ln (a * (b / Bs ^ j))) c1 ∧ Hid (DS wr (a * (b / Bs ^ j)) (ln (a * (b / Bs ^ j))) A1 c1) ∧ Hid (∀ ad, A1 = some ad → w.heap.size ≤ ad.block) ∧ Hid (Below w.heap.size w wr)) (fun _ i _ => (intOf i + 1).toNat)
  case atStart => exact ⟨lb, 0, none, Nat.le_refl _, rfl, by rw [Hz.out, ln_zero], (by rw [Hz.out, ln_zero]; exact ⟨fun _ => rfl, Rd.nil_, by omega, by omega⟩), (fun _ h => by cases h), Below.refl _ _⟩
  case round =>
    obtain ⟨j, c1, A1, hj, rfl, rfl, HP, hNw, HB⟩ := hrel
    by_cases h0 : 0 < j
    · obtain ⟨i, rfl⟩ : ∃ i, j = i + 1 := ⟨j - 1, by omega⟩
      have hbr := HBd.out.go HB.out
      obtain ⟨pb, ob, rfl, lpb, qb⟩ := hbr.digit i (by omega)
      have e1 : (((i + 1 : Nat) : Int)) - 1 = (i : Int) := by omega
      have j1 : (0 : Int) ≤ (i : Int) := by omega
      have j2 : (i : Int) < (lb : Int) := by omega
      have hd := dg_lt b i
      have hp80 := HLn.out (i + 1)
      have hpn := HLn.out i
      have HSt := Lib.hid (HSt0.out i)
      rw [e1]
      generalize dg b i = d at *
      have hpl2 := shift_lt (ln_lt (a * (b / Bs ^ (i + 1))))
      have HTl := Lib.hid (ln_min _ _ hpl2)
      have HT := Lib.hid (fun A c W h => r01trim (65536 * (a * (b / Bs ^ (i + 1)))) (1 + ln (a * (b / Bs ^ (i + 1)))) A c W hpl2 h (by omega))
      have HSc := Lib.hid (fun W h => HSc0.out d (by omega) W h)
      have hsd : a * d ≤ a * (b / Bs ^ i) := by rw [← HSt.out]; omega
      have HAd := Lib.hid (fun A2 B2 c2 c3 W h1 h2 => r01add (65536 * (a * (b / Bs ^ (i + 1)))) (a * d) A2 B2 c2 c3 W h1 h2 (by have := HTl.out; omega) (Nat.le_trans (ln_min _ _ (Nat.lt_of_le_of_lt hsd (ln_lt _))) (by omega)))
      clear hbr hpl2 hsd
      generalize a * (b / Bs ^ (i + 1)) = P at *
      generalize ln P = p at *
      have hb0 : Below wr.heap.size wr wr.drew := (Below.refl _ _).drew
      go_upto_block 1 with fail
      go_cut [5] (fun v' wx => ∃ A2 c2, v' = .slice A2 (ln (a * (b / Bs ^ i))) c2 ∧ DS wx (65536 * P + a * d) (ln (65536 * P + a * d)) A2 c2 ∧ (∀ ad, A2 = some ad → w.heap.size ≤ ad.block) ∧ Below w.heap.size w wx)
      case first =>
        go_wp2_with fail
        refine wp_region_held_drew (S := fun wq => Below wr.heap.size wr wq) (by kernel_rfl) hb0 (fun hH0 => ?_)
        refine take_named (i := 1) (d := 15) (v := ?v1) rfl (by kernel_rfl) (by kernel_rfl) (by kernel_rfl) (by kernel_rfl) (fun _ _ _ h => h) (Or.inl ⟨by kernel_rfl, ?y1⟩) (by assumption) ?_
        case y1 => intro wq hSw; (try dsimp only at hSw); go_simp; (try with_reducible rfl)
        (try simp only [Act.put, List.setIfInBounds_toArray, List.set_cons_zero, List.set_cons_succ])
        refine take_named (i := 4) (d := 18) (v := ?v4) rfl (by kernel_rfl) (by kernel_rfl) (by kernel_rfl) (by kernel_rfl) (fun _ _ _ h => h) (Or.inl ⟨by kernel_rfl, ?y4⟩) (by assumption) ?_
        case y4 => intro wq hSw; (try dsimp only at hSw); go_simp; (try with_reducible rfl)
        (try simp only [Act.put, List.setIfInBounds_toArray, List.set_cons_zero, List.set_cons_succ])
        refine take_named (i := 5) (d := 19) (v := ?v5) rfl (by kernel_rfl) (by kernel_rfl) (by kernel_rfl) (by kernel_rfl) (fun _ _ _ h => h) (Or.inl ⟨by kernel_rfl, ?y5⟩) (by assumption) ?_
        case y5 => intro wq hSw; (try dsimp only at hSw); go_simp; (try with_reducible rfl)
        (try simp only [Act.put, List.setIfInBounds_toArray, List.set_cons_zero, List.set_cons_succ])
        refine take_named (i := 6) (d := 20) (v := ?v6) rfl (by kernel_rfl) (by kernel_rfl) (by kernel_rfl) (by kernel_rfl) (fun _ _ _ h => h) (Or.inl ⟨by kernel_rfl, ?y6⟩) (by assumption) ?_
        case y6 => intro wq hSw; (try dsimp only at hSw); go_simp; (try with_reducible rfl)
        (try simp only [Act.put, List.setIfInBounds_toArray, List.set_cons_zero, List.set_cons_succ])
        refine take_named (i := 7) (d := 21) (v := ?v7) rfl (by kernel_rfl) (by kernel_rfl) (by kernel_rfl) (by kernel_rfl) (fun _ _ _ h => h) (Or.inl ⟨by kernel_rfl, ?y7⟩) (by assumption) ?_
        case y7 => intro wq hSw; (try dsimp only at hSw); go_simp; (try with_reducible rfl)
        (try simp only [Act.put, List.setIfInBounds_toArray, List.set_cons_zero, List.set_cons_succ])
        refine take_named (i := 8) (d := 22) (v := ?v8) rfl (by kernel_rfl) (by kernel_rfl) (by kernel_rfl) (by kernel_rfl) (fun _ _ _ h => h) (Or.inl ⟨by kernel_rfl, ?y8⟩) (by assumption) ?_
        case y8 => intro wq hSw; (try dsimp only at hSw); have q8 := keepD hSw lpb qb; go_simp; (try with_reducible rfl)
        (try simp only [Act.put, List.setIfInBounds_toArray, List.set_cons_zero, List.set_cons_succ])
        refine wpAnyH_ready (rs := [0]) (by kernel_rfl) (by simp) ?_
        refine AllReadyH.cons rfl (fun K hK => ?_) (AllReadyH.nil)
        go_simp
        obtain ⟨v1, ev1⟩ : ∃ V, (wr.alloc (.cells #[.int .i64 0] 3)).drew = V := ⟨_, rfl⟩
        obtain ⟨m1, em1⟩ : ∃ m, wr.heap.size = m := ⟨_, rfl⟩
        have hb1 : Below wr.heap.size wr v1 := by rw [← ev1]; exact ((Below.refl _ _).alloc (Nat.le_refl _) _).drew
        have hq1 : v1.heap[m1]? = some (.cells #[.int .i64 0] 3 (0, 0)) := by rw [← ev1]; exact (blk_new _ em1.symm : (wr.alloc (.cells #[.int .i64 0] 3)).heap[m1]? = _)
        have ho1 : v1.ownsRow wr.heap.size 3 1 (.slice (some ⟨m1, 0, none⟩) 1 1) 1 [.int .i64 0] := own_oneD hq1 (by rw [← em1]; exact (hb0).size)
        rw [ev1, em1]
        clear ev1
        refine hK.out _ _ hb1 (fun hH1 => ?_)
        clear hK K hH0
        (try simp only [Act.put, List.setIfInBounds_toArray, List.set_cons_zero, List.set_cons_succ])
        refine wpAnyH_ready (rs := [2]) (by kernel_rfl) (by simp) ?_
        refine AllReadyH.cons rfl (fun K hK => ?_) (AllReadyH.nil)
        rw [if_pos (by kernel_rfl)]
        refine wp_append_srcD (.tmp 14) (.tmp 15) 52 rfl wr.heap.size 3 i0 (.int .i64 0) 1 8 Tryd.underlying52 hi hz0 hz1 hz2 rfl (by decide) (.slice (some ⟨m1, 0, none⟩) 1 1) 1 [.int .i64 0] rfl ho1 A1 p c1 (v1).heap.size (dC P p) rfl (HP.out.go hb1).2.1 HP.out.1 (dC_one _ _) (by unfold maxLen; omega) (by omega) (hb1).size 16 rfl ?_
        intro u2 v2 ho2 hg2
        have hb2 : Below wr.heap.size wr v2 := (hb1).grown hg2 (hb1).size (fun g hg => (ho1.lt g hg).1)
        obtain ⟨A2, c102, rfl⟩ := own_form ho2
        have ho2 := own_consD ho2
        refine hK.out _ _ hb2 (fun hH2 => ?_)
        clear hK K hH1
        (try simp only [Act.put, List.setIfInBounds_toArray, List.set_cons_zero, List.set_cons_succ])
        refine wpAnyH_ready (rs := [3]) (by kernel_rfl) (by simp) ?_
        refine AllReadyH.cons rfl (fun K hK => ?_) (AllReadyH.nil)
        go_simp
        refine (HT.out A2 c102 _ (DS.of_own ho2)).mono ?_
        rintro ee v3 ⟨rfl, rfl⟩
        have hb3 := hb2
        have ht3 := (DS.of_own ho2).pre _ HTl.out
        refine hK.out _ _ hb3 (fun hH3 => ?_)
        clear hK K hH2
        (try simp only [Act.put, List.setIfInBounds_toArray, List.set_cons_zero, List.set_cons_succ])
        refine wpAnyH_ready (rs := [9]) (by kernel_rfl) (by simp) ?_
        refine AllReadyH.cons rfl (fun K hK => ?_) (AllReadyH.nil)
        go_simp
        refine (HSc.out _ (HA.out.go (below_viaD HB.out hb3))).mono ?_
        rintro ee v4 ⟨A4, c104, rfl, hd4, hn4, hc4⟩
        have hb4 := below_viaD hb3 hc4
        have hl4 := True.intro
        have ht4 := DS.go ht3 hc4
        refine hK.out _ _ hb4 (fun hH4 => ?_)
        clear hK K hH3
        (try simp only [Act.put, List.setIfInBounds_toArray, List.set_cons_zero, List.set_cons_succ])
        refine wpAnyH_ready (rs := [10]) (by kernel_rfl) (by simp) ?_
        refine AllReadyH.cons rfl (fun K hK => ?_) (AllReadyH.nil)
        go_simp
        refine (HAd.out A2 A4 c102 c104 _ ht4 hd4).mono ?_
        rintro ee v5 ⟨A5, c105, rfl, hd5, hn5, hc5⟩
        have hb5 := below_viaD hb4 hc5
        refine hK.out _ _ hb5 (fun hH5 => ?_)
        clear hK K hH4
        (try simp only [Act.put, List.setIfInBounds_toArray, List.set_cons_zero, List.set_cons_succ])
        refine take_named (i := 11) (d := 5) (v := .slice A5 (ln (65536 * P + a * d)) c105) rfl (by kernel_rfl) (by kernel_rfl) (by kernel_rfl) (by kernel_rfl) (fun _ _ _ h => h) (Or.inl ⟨by kernel_rfl, ?z5⟩) (by assumption) ?_
        case z5 => intro wq hSw; (try dsimp only at hSw); go_simp; (try with_reducible rfl)
        (try simp only [Act.put, List.setIfInBounds_toArray, List.set_cons_zero, List.set_cons_succ])
        refine wpAnyH_done (by kernel_rfl) ?_ _
        clear hH5
        go_wp2_with fail
        go_meet
        exact ⟨A5, c105, by rw [HSt.out], hd5, fun ad e => Nat.le_trans HB.out.size (Nat.le_trans (hb4).size (hn5 ad e)), below_viaD HB.out hb5⟩
      case rest =>
        obtain ⟨A2, c2, rfl, hd2, hn2, hb2⟩ := hcut
        rw [HSt.out] at hd2
        have HD2 := Lib.hid hd2
        have HN2 := Lib.hid hn2
        have HB2 := Lib.hid hb2
        clear hd2 hn2 hb2
        go_wp2
        go_roundw
        case rel => exact ⟨i, c2, A2, by omega, rfl, rfl, HD2, HN2, HB2⟩
        case measure => simp [intOf]
    · obtain rfl : j = 0 := by omega
      have e5 : b / Bs ^ 0 = b := by simp
      have hpn := HLn.out 0
      rw [e5] at hpn HP ⊢
      have HT := Lib.hid (r01trim (a * b) (ln (a * b)) A1 c1 wr (ln_lt _) HP.out (by omega))
      go_wp2_with fail
      refine HT.out.mono ?_
      rintro ee w3 ⟨rfl, rfl⟩
      go_wp2
      go_ret
      exact ⟨A1, c1, rfl, HP.out, hNw.out, HB.out⟩

end Go.Proofs.YtlobdeakgoicpaaDoor
