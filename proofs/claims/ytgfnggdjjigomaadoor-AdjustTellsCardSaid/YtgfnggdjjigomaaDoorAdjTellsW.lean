/- The walk of the statement AdjustTells. (Written by gentells22.py.) -/
import Derived.Test.YtgfnggdjjigomaaDoorRef22T
import Derived.Test.YtgfnggdjjigomaaDoorAdjSameW
import Derived.Test.YtgfnggdjjigomaaDoorAdjAwakeW
namespace Go.Proofs.YtgfnggdjjigomaaDoor
open Go.RowKit

/-- A whole variable in a region that draws. -/
theorem yieldsIf_load_row22 {P : Program} {ops : Array Oper} {S : World → Prop} {op : Oper} {a : Act} (hw : Region.wanted op (yielded ops a.tmps) = true) (ty : TypeId) (x : Operand) (ho : op.op = .load ty x)
    (g : Nat) (hx : a.eval x = .pointer (some ⟨g, 0, none⟩)) (t : TypeId) (cs : Array Value) (fr : Nat × Nat) (d : TypeDesc) (hS : ∀ w, S w → w.heap[g]? = some (.cells cs t fr))
    (hu : P.underlying ty = some d) (hd : (match d with | .struct _ | .array _ _ => true | _ => false) = true) (hi : (P.info? ty).map (·.size) = some cs.size) : YieldsIf P ops S op (.agg cs) a :=
  .inl ⟨hw, fun w hw' => by
    unfold execOp
    simp only [ho, hx, Instr.loadAt, Instr.sureAddr, Sem.run_bind, Sem.run_pure, Result.andThen_ok, run_loadVar_row w g t ty cs fr d (hS w hw') hu hd hi]⟩
/-- A row in another block reads as it read. -/
theorem Rd.other {w w' : World} {B sz n ga : Nat} {A : Option Addr} {xs : List Value} (h : Rd w B sz A n xs) (hne : ∀ b off, A = some ⟨b, off, none⟩ → b ≠ ga) (hh : ∀ b, b ≠ ga → w'.heap[b]? = w.heap[b]?) : Rd w' B sz A n xs :=
  ⟨h.1, fun hn => by
    obtain ⟨b, off, e, hb, hc⟩ := h.2 hn
    refine ⟨b, off, e, hb, fun j hj => ?_⟩
    rw [← hc j hj]
    unfold World.cell?
    rw [hh b (hne b off e)]⟩

theorem own_addr {w : World} {base e sz n c : Nat} {A : Option Addr} {xs : List Value} (h : w.ownsRow base e sz (.slice A n c) n xs) {b off : Nat} (he : A = some ⟨b, off, none⟩) : base ≤ b ∧ (Value.slice A n c).ownBlock = some b := by
  rcases h.2 with ⟨hv, _⟩ | ⟨g, cap, cur, hv, hge, _⟩
  · injection hv with h1; rw [he] at h1; cases h1
  · injection hv with h1
    rw [he] at h1
    injection h1 with h2
    injection h2 with h3 h4
    subst h3 h4
    rw [he]
    exact ⟨hge, rfl⟩

set_option maxRecDepth 100000 in
set_option maxHeartbeats 4000000 in
theorem adjTells_walk (C : Array Value) (k f a0 a1 : Int) (o : Nat → Oc) (hC : EnC C k f o a0 a1) (ho : ∀ i, i < 4 → OcOk (o i)) (hf : 0 ≤ f ∧ f ≤ 255) (hk : 0 ≤ k ∧ k ≤ 255) (vul : Int) (hv : 0 ≤ vul ∧ vul ≤ 255) (all : Int) (w : World) (hL : LaidS w) :
    Calls Tryd.prog 3 #[.agg C, .int .u8 vul, .int .i64 all] w fun e w' => e = .returned (.bool true) ∧ Below w.heap.size w w' := by
  have HL := Lib.hid hL
  have HI := Lib.hid hC.size
  have HR1 := Lib.hid (fun W hW => eright_any C k f a0 a1 o hC ho hf hk W hW)
  have HR2 := Lib.hid (fun W => r22right C k f a0 a1 o hC ho hf hk W)
  generalize rightE k f o a0 a1 = R at HR1 HR2
  obtain ⟨l1, l2, se, hn1, hn2, hbd, hs1, hs2⟩ := sides_pair C k f a0 a1 vul o hC ho hf hk hv
  have HS1 := Lib.hid hs1
  have HS2 := Lib.hid hs2
  have HBd := Lib.hid hbd
  obtain ⟨m1, m2, m3, m4, me, hm1, hm2⟩ := mean_pair C k f a0 a1 vul o hC ho hf hk hv
  have HM1 := Lib.hid hm1
  have HM2 := Lib.hid hm2
  obtain ⟨n1, n2, n3, n4, ne, ha1, ha2⟩ := award_pair C k f a0 a1 all o hC ho hf hk
  have HA1 := Lib.hid ha1
  have HA2 := Lib.hid ha2
  clear hL hC ho hf hk hv hs1 hs2 hm1 hm2 ha1 ha2 hbd
  go_enter Tryd.func3, Tryd.ntmps3
  go_upto_region 1 with fail
  obtain ⟨W1, hW1⟩ : ∃ W1, w.alloc (.cells C 29) = W1 := ⟨_, rfl⟩
  obtain ⟨g, hg⟩ : ∃ g, w.heap.size = g := ⟨_, rfl⟩
  have HK := Lib.hid (show W1.heap[g]? = some (.cells C 29 (0, 0)) by rw [← hW1]; exact blk_new _ hg.symm)
  have hB : Below w.heap.size w W1 := by rw [← hW1]; exact (by repeat (first | exact Below.refl _ _ | assumption | refine Below.drew ?_ | refine below_drewN ?_ _ | refine Below.alloc ?_ (by first | omega | (simp; done) | (simp; omega)) _ | refine Below.setCell ?_ (by first | omega | (simp; done) | (simp; omega)) _))
  have HW := Lib.hid hB.size
  rw [hW1, hg]
  clear hW1 hg
  go_wp2_with (refine wpList_load_row rfl 29 (.tmp 3) rfl g rfl 29 C _ _ HK.out Tryd.underlying29 rfl HI.out ?_)
  refine (HS1.out _ (HL.out.go hB)).mono ?_
  rintro ee w2 ⟨v1, v2, rfl, jo1, jo2, jap, hb⟩
  replace hB := below_via hB hb
  replace HK := Lib.hid (blk_below HK.out hb (blk_lt HK.out))
  clear hb
  have O1 := Lib.hid jo1
  have O2 := Lib.hid jo2
  have AP := Lib.hid jap
  have HLt := Lib.hid (fun q h => (jo1.lt q h).2)
  clear jo1 jo2 jap
  go_wp2_with (refine wpList_load_row rfl 29 (.tmp 3) rfl g rfl 29 C _ _ HK.out Tryd.underlying29 rfl HI.out ?_)
  refine (HS2.out _).mono ?_
  rintro ee w3 ⟨v3, v4, rfl, jo3, jo4, -, hb⟩
  replace hB := below_via hB hb
  replace HK := Lib.hid (blk_below HK.out hb (blk_lt HK.out))
  replace O1 := Lib.hid (own_below O1.out hb (Nat.le_refl _))
  replace O2 := Lib.hid (own_below O2.out hb (Nat.le_refl _))
  clear hb
  have O3 := Lib.hid jo3
  have O4 := Lib.hid jo4
  clear jo3 jo4
  go_wp2_with (refine wpList_load_row rfl 29 (.tmp 3) rfl g rfl 29 C _ _ HK.out Tryd.underlying29 rfl HI.out ?_)
  refine (HM1.out _ (HL.out.go hB)).mono ?_
  rintro ee w4 ⟨rfl, hb⟩
  replace hB := below_via hB hb
  replace HK := Lib.hid (blk_below HK.out hb (blk_lt HK.out))
  replace O1 := Lib.hid (own_below O1.out hb (Nat.le_refl _))
  replace O2 := Lib.hid (own_below O2.out hb (Nat.le_refl _))
  replace O3 := Lib.hid (own_below O3.out hb (Nat.le_refl _))
  replace O4 := Lib.hid (own_below O4.out hb (Nat.le_refl _))
  clear hb
  go_upto_region 4 with fail
  obtain ⟨Fa, hF⟩ : ∃ V, (w4.alloc (.cells #[.int .i64 m1, .int .i64 m2] 40)).alloc (.cells #[.int .i64 m3, .int .i64 m4] 40) = V := ⟨_, rfl⟩
  obtain ⟨ga, hg⟩ : ∃ g, w4.heap.size = g := ⟨_, rfl⟩
  have hb : Below w4.heap.size w4 Fa := by rw [← hF]; exact (by repeat (first | exact Below.refl _ _ | assumption | refine Below.drew ?_ | refine below_drewN ?_ _ | refine Below.alloc ?_ (by first | omega | (simp; done) | (simp; omega)) _ | refine Below.setCell ?_ (by first | omega | (simp; done) | (simp; omega)) _))
  have Pa := Lib.hid (show Fa.heap[ga]? = some (.cells #[.int .i64 m1, .int .i64 m2] 40 (0, 0)) by rw [← hF]; exact blk_alloc (blk_new _ hg.symm) _)
  have Qa := Lib.hid (show Fa.heap[ga + 1]? = some (.cells #[.int .i64 m3, .int .i64 m4] 40 (0, 0)) by rw [← hF]; exact blk_new _ (by simp [hg]))
  rw [hF, hg]
  clear hF hg
  replace hB := below_via hB hb
  replace HK := Lib.hid (blk_below HK.out hb (blk_lt HK.out))
  replace O1 := Lib.hid (own_below O1.out hb (Nat.le_refl _))
  replace O2 := Lib.hid (own_below O2.out hb (Nat.le_refl _))
  replace O3 := Lib.hid (own_below O3.out hb (Nat.le_refl _))
  replace O4 := Lib.hid (own_below O4.out hb (Nat.le_refl _))
  clear hb
  go_wp2_with (refine wpList_load_row rfl 29 (.tmp 3) rfl g rfl 29 C _ _ HK.out Tryd.underlying29 rfl HI.out ?_)
  refine (HM2.out _).mono ?_
  rintro ee w5 ⟨rfl, hb⟩
  replace hB := below_via hB hb
  replace HK := Lib.hid (blk_below HK.out hb (blk_lt HK.out))
  replace Pa := Lib.hid (blk_below Pa.out hb (blk_lt Pa.out))
  replace Qa := Lib.hid (blk_below Qa.out hb (blk_lt Qa.out))
  replace O1 := Lib.hid (own_below O1.out hb (Nat.le_refl _))
  replace O2 := Lib.hid (own_below O2.out hb (Nat.le_refl _))
  replace O3 := Lib.hid (own_below O3.out hb (Nat.le_refl _))
  replace O4 := Lib.hid (own_below O4.out hb (Nat.le_refl _))
  clear hb
  go_upto_region 5 with fail
  obtain ⟨Fb, hF⟩ : ∃ V, (w5.alloc (.cells #[.int .i64 m1, .int .i64 m2] 40)).alloc (.cells #[.int .i64 m3, .int .i64 m4] 40) = V := ⟨_, rfl⟩
  obtain ⟨gb, hg⟩ : ∃ g, w5.heap.size = g := ⟨_, rfl⟩
  have hb : Below w5.heap.size w5 Fb := by rw [← hF]; exact (by repeat (first | exact Below.refl _ _ | assumption | refine Below.drew ?_ | refine below_drewN ?_ _ | refine Below.alloc ?_ (by first | omega | (simp; done) | (simp; omega)) _ | refine Below.setCell ?_ (by first | omega | (simp; done) | (simp; omega)) _))
  have Pb := Lib.hid (show Fb.heap[gb]? = some (.cells #[.int .i64 m1, .int .i64 m2] 40 (0, 0)) by rw [← hF]; exact blk_alloc (blk_new _ hg.symm) _)
  have Qb := Lib.hid (show Fb.heap[gb + 1]? = some (.cells #[.int .i64 m3, .int .i64 m4] 40 (0, 0)) by rw [← hF]; exact blk_new _ (by simp [hg]))
  rw [hF, hg]
  clear hF hg
  replace hB := below_via hB hb
  replace HK := Lib.hid (blk_below HK.out hb (blk_lt HK.out))
  replace Pa := Lib.hid (blk_below Pa.out hb (blk_lt Pa.out))
  replace Qa := Lib.hid (blk_below Qa.out hb (blk_lt Qa.out))
  replace O1 := Lib.hid (own_below O1.out hb (Nat.le_refl _))
  replace O2 := Lib.hid (own_below O2.out hb (Nat.le_refl _))
  replace O3 := Lib.hid (own_below O3.out hb (Nat.le_refl _))
  replace O4 := Lib.hid (own_below O4.out hb (Nat.le_refl _))
  clear hb
  go_wp2_with (refine wpList_load_row rfl 29 (.tmp 3) rfl g rfl 29 C _ _ HK.out Tryd.underlying29 rfl HI.out ?_)
  refine (HA1.out _ (HL.out.go hB)).mono ?_
  rintro ee w6 ⟨rfl, hb⟩
  replace hB := below_via hB hb
  replace HK := Lib.hid (blk_below HK.out hb (blk_lt HK.out))
  replace Pa := Lib.hid (blk_below Pa.out hb (blk_lt Pa.out))
  replace Qa := Lib.hid (blk_below Qa.out hb (blk_lt Qa.out))
  replace Pb := Lib.hid (blk_below Pb.out hb (blk_lt Pb.out))
  replace Qb := Lib.hid (blk_below Qb.out hb (blk_lt Qb.out))
  replace O1 := Lib.hid (own_below O1.out hb (Nat.le_refl _))
  replace O2 := Lib.hid (own_below O2.out hb (Nat.le_refl _))
  replace O3 := Lib.hid (own_below O3.out hb (Nat.le_refl _))
  replace O4 := Lib.hid (own_below O4.out hb (Nat.le_refl _))
  clear hb
  go_upto_region 6 with fail
  obtain ⟨Fc, hF⟩ : ∃ V, (w6.alloc (.cells #[.int .i64 n1, .int .i64 n2] 40)).alloc (.cells #[.int .i64 n3, .int .i64 n4] 40) = V := ⟨_, rfl⟩
  obtain ⟨gc, hg⟩ : ∃ g, w6.heap.size = g := ⟨_, rfl⟩
  have hb : Below w6.heap.size w6 Fc := by rw [← hF]; exact (by repeat (first | exact Below.refl _ _ | assumption | refine Below.drew ?_ | refine below_drewN ?_ _ | refine Below.alloc ?_ (by first | omega | (simp; done) | (simp; omega)) _ | refine Below.setCell ?_ (by first | omega | (simp; done) | (simp; omega)) _))
  have Pc := Lib.hid (show Fc.heap[gc]? = some (.cells #[.int .i64 n1, .int .i64 n2] 40 (0, 0)) by rw [← hF]; exact blk_alloc (blk_new _ hg.symm) _)
  have Qc := Lib.hid (show Fc.heap[gc + 1]? = some (.cells #[.int .i64 n3, .int .i64 n4] 40 (0, 0)) by rw [← hF]; exact blk_new _ (by simp [hg]))
  rw [hF, hg]
  clear hF hg
  replace hB := below_via hB hb
  replace HK := Lib.hid (blk_below HK.out hb (blk_lt HK.out))
  replace Pa := Lib.hid (blk_below Pa.out hb (blk_lt Pa.out))
  replace Qa := Lib.hid (blk_below Qa.out hb (blk_lt Qa.out))
  replace Pb := Lib.hid (blk_below Pb.out hb (blk_lt Pb.out))
  replace Qb := Lib.hid (blk_below Qb.out hb (blk_lt Qb.out))
  replace O1 := Lib.hid (own_below O1.out hb (Nat.le_refl _))
  replace O2 := Lib.hid (own_below O2.out hb (Nat.le_refl _))
  replace O3 := Lib.hid (own_below O3.out hb (Nat.le_refl _))
  replace O4 := Lib.hid (own_below O4.out hb (Nat.le_refl _))
  clear hb
  go_wp2_with (refine wpList_load_row rfl 29 (.tmp 3) rfl g rfl 29 C _ _ HK.out Tryd.underlying29 rfl HI.out ?_)
  refine (HA2.out _).mono ?_
  rintro ee w7 ⟨rfl, hb⟩
  replace hB := below_via hB hb
  replace HK := Lib.hid (blk_below HK.out hb (blk_lt HK.out))
  replace Pa := Lib.hid (blk_below Pa.out hb (blk_lt Pa.out))
  replace Qa := Lib.hid (blk_below Qa.out hb (blk_lt Qa.out))
  replace Pb := Lib.hid (blk_below Pb.out hb (blk_lt Pb.out))
  replace Qb := Lib.hid (blk_below Qb.out hb (blk_lt Qb.out))
  replace Pc := Lib.hid (blk_below Pc.out hb (blk_lt Pc.out))
  replace Qc := Lib.hid (blk_below Qc.out hb (blk_lt Qc.out))
  replace O1 := Lib.hid (own_below O1.out hb (Nat.le_refl _))
  replace O2 := Lib.hid (own_below O2.out hb (Nat.le_refl _))
  replace O3 := Lib.hid (own_below O3.out hb (Nat.le_refl _))
  replace O4 := Lib.hid (own_below O4.out hb (Nat.le_refl _))
  clear hb
  go_upto_region 7 with fail
  obtain ⟨Fd, hF⟩ : ∃ V, (w7.alloc (.cells #[.int .i64 n1, .int .i64 n2] 40)).alloc (.cells #[.int .i64 n3, .int .i64 n4] 40) = V := ⟨_, rfl⟩
  obtain ⟨gd, hg⟩ : ∃ g, w7.heap.size = g := ⟨_, rfl⟩
  have hb : Below w7.heap.size w7 Fd := by rw [← hF]; exact (by repeat (first | exact Below.refl _ _ | assumption | refine Below.drew ?_ | refine below_drewN ?_ _ | refine Below.alloc ?_ (by first | omega | (simp; done) | (simp; omega)) _ | refine Below.setCell ?_ (by first | omega | (simp; done) | (simp; omega)) _))
  have Pd := Lib.hid (show Fd.heap[gd]? = some (.cells #[.int .i64 n1, .int .i64 n2] 40 (0, 0)) by rw [← hF]; exact blk_alloc (blk_new _ hg.symm) _)
  have Qd := Lib.hid (show Fd.heap[gd + 1]? = some (.cells #[.int .i64 n3, .int .i64 n4] 40 (0, 0)) by rw [← hF]; exact blk_new _ (by simp [hg]))
  rw [hF, hg]
  clear hF hg
  replace hB := below_via hB hb
  replace HK := Lib.hid (blk_below HK.out hb (blk_lt HK.out))
  replace Pa := Lib.hid (blk_below Pa.out hb (blk_lt Pa.out))
  replace Qa := Lib.hid (blk_below Qa.out hb (blk_lt Qa.out))
  replace Pb := Lib.hid (blk_below Pb.out hb (blk_lt Pb.out))
  replace Qb := Lib.hid (blk_below Qb.out hb (blk_lt Qb.out))
  replace Pc := Lib.hid (blk_below Pc.out hb (blk_lt Pc.out))
  replace Qc := Lib.hid (blk_below Qc.out hb (blk_lt Qc.out))
  replace O1 := Lib.hid (own_below O1.out hb (Nat.le_refl _))
  replace O2 := Lib.hid (own_below O2.out hb (Nat.le_refl _))
  replace O3 := Lib.hid (own_below O3.out hb (Nat.le_refl _))
  replace O4 := Lib.hid (own_below O4.out hb (Nat.le_refl _))
  clear hb
  obtain ⟨A1, c1, rfl⟩ := own_form O1.out
  have T1 := Lib.hid (Rd.of_own O1.out)
  obtain ⟨A2, c2, rfl⟩ := own_form O2.out
  have T2 := Lib.hid (Rd.of_own O2.out)
  obtain ⟨A3, c3, rfl⟩ := own_form O3.out
  have T3 := Lib.hid (Rd.of_own O3.out)
  obtain ⟨A4, c4, rfl⟩ := own_form O4.out
  have T4 := Lib.hid (Rd.of_own O4.out)
  have HSm1 := Lib.hid (fun (W : World) (hb : Below Fd.heap.size Fd W) => same22 l1 A1 A3 c1 c3 W (T1.out.go hb) (T3.out.go hb) (by omega))
  have HSm2 := Lib.hid (fun (W : World) (hb : Below Fd.heap.size Fd W) => same22 l2 A2 A4 c2 c4 W (T2.out.go hb) (T4.out.go hb) (by omega))
  have HQ1 := Lib.hid (fun (W : World) (hb : Below Fd.heap.size Fd W) => HR1.out W (HL.out.go (below_via hB hb)))
  have hd : Below Fd.heap.size Fd Fd.drew := (Below.refl _ _).drew
  have hRR : (R != R) = false := by cases R <;> rfl
  have hRR2 : (R == R) = true := by cases R <;> rfl
  have HSS := Lib.hid (fun (W : World) (hb : Below Fd.heap.size Fd W) => (show W.heap[g]? = some (.cells C 29 (0, 0)) ∧ W.heap[ga]? = some (.cells #[.int .i64 m1, .int .i64 m2] 40 (0, 0)) ∧ W.heap[ga + 1]? = some (.cells #[.int .i64 m3, .int .i64 m4] 40 (0, 0)) ∧ W.heap[gb]? = some (.cells #[.int .i64 m1, .int .i64 m2] 40 (0, 0)) ∧ W.heap[gb + 1]? = some (.cells #[.int .i64 m3, .int .i64 m4] 40 (0, 0)) ∧ W.heap[gc]? = some (.cells #[.int .i64 n1, .int .i64 n2] 40 (0, 0)) ∧ W.heap[gc + 1]? = some (.cells #[.int .i64 n3, .int .i64 n4] 40 (0, 0)) ∧ W.heap[gd]? = some (.cells #[.int .i64 n1, .int .i64 n2] 40 (0, 0)) ∧ W.heap[gd + 1]? = some (.cells #[.int .i64 n3, .int .i64 n4] 40 (0, 0)) from ⟨blk_below HK.out hb (blk_lt HK.out), blk_below Pa.out hb (blk_lt Pa.out), blk_below Qa.out hb (blk_lt Qa.out), blk_below Pb.out hb (blk_lt Pb.out), blk_below Qb.out hb (blk_lt Qb.out), blk_below Pc.out hb (blk_lt Pc.out), blk_below Qc.out hb (blk_lt Qc.out), blk_below Pd.out hb (blk_lt Pd.out), blk_below Qd.out hb (blk_lt Qd.out)⟩))
  clear HS1 HS2 HM1 HM2 HA1 HA2 HR1 Pa Qa Pb Qb Pc Qc Pd Qd
  refine wp_region_held_drew (S := (fun w1 => w1.heap[g]? = some (.cells C 29 (0, 0)) ∧ w1.heap[ga]? = some (.cells #[.int .i64 m1, .int .i64 m2] 40 (0, 0)) ∧ w1.heap[ga + 1]? = some (.cells #[.int .i64 m3, .int .i64 m4] 40 (0, 0)) ∧ w1.heap[gb]? = some (.cells #[.int .i64 m1, .int .i64 m2] 40 (0, 0)) ∧ w1.heap[gb + 1]? = some (.cells #[.int .i64 m3, .int .i64 m4] 40 (0, 0)) ∧ w1.heap[gc]? = some (.cells #[.int .i64 n1, .int .i64 n2] 40 (0, 0)) ∧ w1.heap[gc + 1]? = some (.cells #[.int .i64 n3, .int .i64 n4] 40 (0, 0)) ∧ w1.heap[gd]? = some (.cells #[.int .i64 n1, .int .i64 n2] 40 (0, 0)) ∧ w1.heap[gd + 1]? = some (.cells #[.int .i64 n3, .int .i64 n4] 40 (0, 0)))) (by kernel_rfl) (HSS.out _ hd) (fun hHeld => ?_)
  refine take_named (i := 0) (d := 68) (v := ?v0) rfl (by kernel_rfl) (by kernel_rfl) (by kernel_rfl) (by kernel_rfl) (fun _ _ _ h => h) (Or.inl ⟨by kernel_rfl, ?y0⟩) (by assumption) ?_
  case y0 => intro wq hSw; (try dsimp only at hSw); go_simp; (try with_reducible rfl)
  (try simp only [Act.put, List.setIfInBounds_toArray, List.set_cons_zero, List.set_cons_succ])
  refine take_named (i := 1) (d := 69) (v := ?v1) rfl (by kernel_rfl) (by kernel_rfl) (by kernel_rfl) (by kernel_rfl) (fun _ _ _ h => h) (Or.inl ⟨by kernel_rfl, ?y1⟩) (by assumption) ?_
  case y1 => intro wq hSw; (try dsimp only at hSw); go_simp; (try with_reducible rfl)
  (try simp only [Act.put, List.setIfInBounds_toArray, List.set_cons_zero, List.set_cons_succ])
  refine wpAnyH_ready (rs := [2]) (by kernel_rfl) (by simp) ?_
  refine AllReadyH.cons rfl (fun K hK => ?_) AllReadyH.nil
  go_simp
  refine (HSm1.out _ hd).mono ?_
  rintro ee y1 ⟨rfl, hy1⟩
  have hx1 := hd.trans (hy1.mono hd.size)
  refine hK.out _ _ (HSS.out _ hx1) (fun hH1 => ?_)
  clear hK K hHeld hy1
  (try simp only [Act.put, List.setIfInBounds_toArray, List.set_cons_zero, List.set_cons_succ])
  refine take_named (i := 3) (d := 71) (v := ?v3) rfl (by kernel_rfl) (by kernel_rfl) (by kernel_rfl) (by kernel_rfl) (fun _ _ _ h => h) (Or.inl ⟨by kernel_rfl, ?y3⟩) (by assumption) ?_
  case y3 => intro wq hSw; (try dsimp only at hSw); go_simp; (try with_reducible rfl)
  (try simp only [Act.put, List.setIfInBounds_toArray, List.set_cons_zero, List.set_cons_succ])
  refine take_named (i := 4) (d := 72) (v := ?v4) rfl (by kernel_rfl) (by kernel_rfl) (by kernel_rfl) (by kernel_rfl) (fun _ _ _ h => h) (Or.inl ⟨by kernel_rfl, ?y4⟩) (by assumption) ?_
  case y4 => intro wq hSw; (try dsimp only at hSw); go_simp; (try with_reducible rfl)
  (try simp only [Act.put, List.setIfInBounds_toArray, List.set_cons_zero, List.set_cons_succ])
  refine take_named (i := 5) (d := 73) (v := ?v5) rfl (by kernel_rfl) (by kernel_rfl) (by kernel_rfl) (by kernel_rfl) (fun _ _ _ h => h) (Or.inl ⟨by kernel_rfl, ?y5⟩) (by assumption) ?_
  case y5 => intro wq hSw; (try dsimp only at hSw); go_simp; (try with_reducible rfl)
  (try simp only [Act.put, List.setIfInBounds_toArray, List.set_cons_zero, List.set_cons_succ])
  refine take_named (i := 6) (d := 74) (v := ?v6) rfl (by kernel_rfl) (by kernel_rfl) (by kernel_rfl) (by kernel_rfl) (fun _ _ _ h => h) (Or.inl ⟨by kernel_rfl, ?y6⟩) (by assumption) ?_
  case y6 => intro wq hSw; (try dsimp only at hSw); go_simp; (try with_reducible rfl)
  (try simp only [Act.put, List.setIfInBounds_toArray, List.set_cons_zero, List.set_cons_succ])
  refine wpAnyH_ready (rs := [7]) (by kernel_rfl) (by simp) ?_
  refine AllReadyH.cons rfl (fun K hK => ?_) AllReadyH.nil
  go_simp
  refine (HSm2.out _ hx1).mono ?_
  rintro ee y2 ⟨rfl, hy2⟩
  have hx2 := hx1.trans (hy2.mono hx1.size)
  refine hK.out _ _ (HSS.out _ hx2) (fun hH2 => ?_)
  clear hK K hH1 hy2
  (try simp only [Act.put, List.setIfInBounds_toArray, List.set_cons_zero, List.set_cons_succ])
  refine take_named (i := 8) (d := 76) (v := ?v8) rfl (by kernel_rfl) (by kernel_rfl) (by kernel_rfl) (by kernel_rfl) (fun _ _ _ h => h) (Or.inl ⟨by kernel_rfl, ?y8⟩) (by assumption) ?_
  case y8 => intro wq hSw; (try dsimp only at hSw); go_simp; (try with_reducible rfl)
  (try simp only [Act.put, List.setIfInBounds_toArray, List.set_cons_zero, List.set_cons_succ])
  refine take_named (i := 9) (d := 77) (v := ?v9) rfl (by kernel_rfl) (by kernel_rfl) (by kernel_rfl) (by kernel_rfl) (fun _ _ _ h => h) (Or.inl ⟨by kernel_rfl, ?y9⟩) (by assumption) ?_
  case y9 => intro wq hSw; (try dsimp only at hSw); go_simp; (try with_reducible rfl)
  (try simp only [Act.put, List.setIfInBounds_toArray, List.set_cons_zero, List.set_cons_succ])
  refine take_named (i := 10) (d := 78) (v := ?v10) rfl (by kernel_rfl) (by kernel_rfl) (by kernel_rfl) (by kernel_rfl) (fun _ _ _ h => h) (Or.inl ⟨by kernel_rfl, ?y10⟩) (by assumption) ?_
  case y10 => intro wq hSw; (try dsimp only at hSw); go_simp; (try with_reducible rfl)
  (try simp only [Act.put, List.setIfInBounds_toArray, List.set_cons_zero, List.set_cons_succ])
  refine take_named (i := 11) (d := 79) (v := ?v11) rfl (by kernel_rfl) (by kernel_rfl) (by kernel_rfl) (by kernel_rfl) (fun _ _ _ h => h) (Or.inl ⟨by kernel_rfl, ?y11⟩) (by assumption) ?_
  case y11 => intro wq hSw; (try dsimp only at hSw); go_simp; (try with_reducible rfl)
  (try simp only [Act.put, List.setIfInBounds_toArray, List.set_cons_zero, List.set_cons_succ])
  refine take_named (i := 12) (d := 80) (v := ?v12) rfl (by kernel_rfl) (by kernel_rfl) (by kernel_rfl) (by kernel_rfl) (fun _ _ _ h => h) (Or.inl ⟨by kernel_rfl, ?y12⟩) (by assumption) ?_
  case y12 => intro wq hSw; (try dsimp only at hSw); go_simp; (try with_reducible rfl)
  (try simp only [Act.put, List.setIfInBounds_toArray, List.set_cons_zero, List.set_cons_succ])
  refine take_named (i := 13) (d := 81) (v := ?v13) rfl (by kernel_rfl) (by kernel_rfl) (by kernel_rfl) (by kernel_rfl) (fun _ _ _ h => h) (Or.inl ⟨by kernel_rfl, ?y13⟩) (by assumption) ?_
  case y13 => intro wq hSw; (try dsimp only at hSw); go_simp; (try with_reducible rfl)
  (try simp only [Act.put, List.setIfInBounds_toArray, List.set_cons_zero, List.set_cons_succ])
  refine take_named (i := 14) (d := 82) (v := ?v14) rfl (by kernel_rfl) (by kernel_rfl) (by kernel_rfl) (by kernel_rfl) (fun _ _ _ h => h) (Or.inl ⟨by kernel_rfl, ?y14⟩) (by assumption) ?_
  case y14 => intro wq hSw; (try dsimp only at hSw); go_simp; (try with_reducible rfl)
  (try simp only [Act.put, List.setIfInBounds_toArray, List.set_cons_zero, List.set_cons_succ])
  refine take_named (i := 15) (d := 83) (v := ?v15) rfl (by kernel_rfl) (by kernel_rfl) (by kernel_rfl) (by kernel_rfl) (fun _ _ _ h => h) (Or.inl ⟨by kernel_rfl, ?y15⟩) (by assumption) ?_
  case y15 => intro wq hSw; (try dsimp only at hSw); go_simp; (try with_reducible rfl)
  (try simp only [Act.put, List.setIfInBounds_toArray, List.set_cons_zero, List.set_cons_succ])
  refine take_named (i := 16) (d := 84) (v := .agg #[.int .i64 m1, .int .i64 m2]) rfl (by kernel_rfl) (by kernel_rfl) (by kernel_rfl) (by kernel_rfl) (fun _ _ _ h => h) (yieldsIf_load_row22 (by kernel_rfl) 40 (.tmp 13) rfl (ga) rfl 40 #[.int .i64 m1, .int .i64 m2] (0, 0) _ (fun w h => h.2.1) Tryd.underlying40 rfl (by kernel_rfl)) (by assumption) ?_
  (try simp only [Act.put, List.setIfInBounds_toArray, List.set_cons_zero, List.set_cons_succ])
  refine take_named (i := 17) (d := 85) (v := .agg #[.int .i64 m1, .int .i64 m2]) rfl (by kernel_rfl) (by kernel_rfl) (by kernel_rfl) (by kernel_rfl) (fun _ _ _ h => h) (yieldsIf_load_row22 (by kernel_rfl) 40 (.tmp 16) rfl (gb) rfl 40 #[.int .i64 m1, .int .i64 m2] (0, 0) _ (fun w h => h.2.2.2.1) Tryd.underlying40 rfl (by kernel_rfl)) (by assumption) ?_
  (try simp only [Act.put, List.setIfInBounds_toArray, List.set_cons_zero, List.set_cons_succ])
  refine take_named (i := 18) (d := 86) (v := ?v18) rfl (by kernel_rfl) (by kernel_rfl) (by kernel_rfl) (by kernel_rfl) (fun _ _ _ h => h) (Or.inl ⟨by kernel_rfl, ?y18⟩) (by assumption) ?_
  case y18 => intro wq hSw; (try dsimp only at hSw); go_simp; (try with_reducible rfl)
  (try simp only [Act.put, List.setIfInBounds_toArray, List.set_cons_zero, List.set_cons_succ])
  refine take_named (i := 19) (d := 87) (v := ?v19) rfl (by kernel_rfl) (by kernel_rfl) (by kernel_rfl) (by kernel_rfl) (fun _ _ _ h => h) (Or.inl ⟨by kernel_rfl, ?y19⟩) (by assumption) ?_
  case y19 => intro wq hSw; (try dsimp only at hSw); go_simp; (try with_reducible rfl)
  (try simp only [Act.put, List.setIfInBounds_toArray, List.set_cons_zero, List.set_cons_succ])
  refine take_named (i := 20) (d := 88) (v := ?v20) rfl (by kernel_rfl) (by kernel_rfl) (by kernel_rfl) (by kernel_rfl) (fun _ _ _ h => h) (Or.inl ⟨by kernel_rfl, ?y20⟩) (by assumption) ?_
  case y20 => intro wq hSw; (try dsimp only at hSw); go_simp; (try with_reducible rfl)
  (try simp only [Act.put, List.setIfInBounds_toArray, List.set_cons_zero, List.set_cons_succ])
  refine take_named (i := 21) (d := 89) (v := .agg #[.int .i64 m3, .int .i64 m4]) rfl (by kernel_rfl) (by kernel_rfl) (by kernel_rfl) (by kernel_rfl) (fun _ _ _ h => h) (yieldsIf_load_row22 (by kernel_rfl) 40 (.tmp 14) rfl (ga + 1) rfl 40 #[.int .i64 m3, .int .i64 m4] (0, 0) _ (fun w h => h.2.2.1) Tryd.underlying40 rfl (by kernel_rfl)) (by assumption) ?_
  (try simp only [Act.put, List.setIfInBounds_toArray, List.set_cons_zero, List.set_cons_succ])
  refine take_named (i := 22) (d := 90) (v := .agg #[.int .i64 m3, .int .i64 m4]) rfl (by kernel_rfl) (by kernel_rfl) (by kernel_rfl) (by kernel_rfl) (fun _ _ _ h => h) (yieldsIf_load_row22 (by kernel_rfl) 40 (.tmp 17) rfl (gb + 1) rfl 40 #[.int .i64 m3, .int .i64 m4] (0, 0) _ (fun w h => h.2.2.2.2.1) Tryd.underlying40 rfl (by kernel_rfl)) (by assumption) ?_
  (try simp only [Act.put, List.setIfInBounds_toArray, List.set_cons_zero, List.set_cons_succ])
  refine take_named (i := 23) (d := 91) (v := ?v23) rfl (by kernel_rfl) (by kernel_rfl) (by kernel_rfl) (by kernel_rfl) (fun _ _ _ h => h) (Or.inl ⟨by kernel_rfl, ?y23⟩) (by assumption) ?_
  case y23 => intro wq hSw; (try dsimp only at hSw); go_simp; (try with_reducible rfl)
  (try simp only [Act.put, List.setIfInBounds_toArray, List.set_cons_zero, List.set_cons_succ])
  refine take_named (i := 24) (d := 92) (v := ?v24) rfl (by kernel_rfl) (by kernel_rfl) (by kernel_rfl) (by kernel_rfl) (fun _ _ _ h => h) (Or.inl ⟨by kernel_rfl, ?y24⟩) (by assumption) ?_
  case y24 => intro wq hSw; (try dsimp only at hSw); go_simp; (try with_reducible rfl)
  (try simp only [Act.put, List.setIfInBounds_toArray, List.set_cons_zero, List.set_cons_succ])
  refine take_named (i := 25) (d := 93) (v := ?v25) rfl (by kernel_rfl) (by kernel_rfl) (by kernel_rfl) (by kernel_rfl) (fun _ _ _ h => h) (Or.inl ⟨by kernel_rfl, ?y25⟩) (by assumption) ?_
  case y25 => intro wq hSw; (try dsimp only at hSw); go_simp; (try with_reducible rfl)
  (try simp only [Act.put, List.setIfInBounds_toArray, List.set_cons_zero, List.set_cons_succ])
  refine take_named (i := 26) (d := 94) (v := ?v26) rfl (by kernel_rfl) (by kernel_rfl) (by kernel_rfl) (by kernel_rfl) (fun _ _ _ h => h) (Or.inl ⟨by kernel_rfl, ?y26⟩) (by assumption) ?_
  case y26 => intro wq hSw; (try dsimp only at hSw); go_simp; (try with_reducible rfl)
  (try simp only [Act.put, List.setIfInBounds_toArray, List.set_cons_zero, List.set_cons_succ])
  refine take_named (i := 27) (d := 95) (v := ?v27) rfl (by kernel_rfl) (by kernel_rfl) (by kernel_rfl) (by kernel_rfl) (fun _ _ _ h => h) (Or.inl ⟨by kernel_rfl, ?y27⟩) (by assumption) ?_
  case y27 => intro wq hSw; (try dsimp only at hSw); go_simp; (try with_reducible rfl)
  (try simp only [Act.put, List.setIfInBounds_toArray, List.set_cons_zero, List.set_cons_succ])
  refine take_named (i := 28) (d := 96) (v := ?v28) rfl (by kernel_rfl) (by kernel_rfl) (by kernel_rfl) (by kernel_rfl) (fun _ _ _ h => h) (Or.inl ⟨by kernel_rfl, ?y28⟩) (by assumption) ?_
  case y28 => intro wq hSw; (try dsimp only at hSw); go_simp; (try with_reducible rfl)
  (try simp only [Act.put, List.setIfInBounds_toArray, List.set_cons_zero, List.set_cons_succ])
  refine take_named (i := 29) (d := 97) (v := ?v29) rfl (by kernel_rfl) (by kernel_rfl) (by kernel_rfl) (by kernel_rfl) (fun _ _ _ h => h) (Or.inl ⟨by kernel_rfl, ?y29⟩) (by assumption) ?_
  case y29 => intro wq hSw; (try dsimp only at hSw); go_simp; (try with_reducible rfl)
  (try simp only [Act.put, List.setIfInBounds_toArray, List.set_cons_zero, List.set_cons_succ])
  refine take_named (i := 30) (d := 98) (v := ?v30) rfl (by kernel_rfl) (by kernel_rfl) (by kernel_rfl) (by kernel_rfl) (fun _ _ _ h => h) (Or.inl ⟨by kernel_rfl, ?y30⟩) (by assumption) ?_
  case y30 => intro wq hSw; (try dsimp only at hSw); go_simp; (try with_reducible rfl)
  (try simp only [Act.put, List.setIfInBounds_toArray, List.set_cons_zero, List.set_cons_succ])
  refine take_named (i := 31) (d := 99) (v := .agg #[.int .i64 n1, .int .i64 n2]) rfl (by kernel_rfl) (by kernel_rfl) (by kernel_rfl) (by kernel_rfl) (fun _ _ _ h => h) (yieldsIf_load_row22 (by kernel_rfl) 40 (.tmp 19) rfl (gc) rfl 40 #[.int .i64 n1, .int .i64 n2] (0, 0) _ (fun w h => h.2.2.2.2.2.1) Tryd.underlying40 rfl (by kernel_rfl)) (by assumption) ?_
  (try simp only [Act.put, List.setIfInBounds_toArray, List.set_cons_zero, List.set_cons_succ])
  refine take_named (i := 32) (d := 100) (v := .agg #[.int .i64 n1, .int .i64 n2]) rfl (by kernel_rfl) (by kernel_rfl) (by kernel_rfl) (by kernel_rfl) (fun _ _ _ h => h) (yieldsIf_load_row22 (by kernel_rfl) 40 (.tmp 22) rfl (gd) rfl 40 #[.int .i64 n1, .int .i64 n2] (0, 0) _ (fun w h => h.2.2.2.2.2.2.2.1) Tryd.underlying40 rfl (by kernel_rfl)) (by assumption) ?_
  (try simp only [Act.put, List.setIfInBounds_toArray, List.set_cons_zero, List.set_cons_succ])
  refine take_named (i := 33) (d := 101) (v := ?v33) rfl (by kernel_rfl) (by kernel_rfl) (by kernel_rfl) (by kernel_rfl) (fun _ _ _ h => h) (Or.inl ⟨by kernel_rfl, ?y33⟩) (by assumption) ?_
  case y33 => intro wq hSw; (try dsimp only at hSw); go_simp; (try with_reducible rfl)
  (try simp only [Act.put, List.setIfInBounds_toArray, List.set_cons_zero, List.set_cons_succ])
  refine take_named (i := 34) (d := 102) (v := ?v34) rfl (by kernel_rfl) (by kernel_rfl) (by kernel_rfl) (by kernel_rfl) (fun _ _ _ h => h) (Or.inl ⟨by kernel_rfl, ?y34⟩) (by assumption) ?_
  case y34 => intro wq hSw; (try dsimp only at hSw); go_simp; (try with_reducible rfl)
  (try simp only [Act.put, List.setIfInBounds_toArray, List.set_cons_zero, List.set_cons_succ])
  refine take_named (i := 35) (d := 103) (v := ?v35) rfl (by kernel_rfl) (by kernel_rfl) (by kernel_rfl) (by kernel_rfl) (fun _ _ _ h => h) (Or.inl ⟨by kernel_rfl, ?y35⟩) (by assumption) ?_
  case y35 => intro wq hSw; (try dsimp only at hSw); go_simp; (try with_reducible rfl)
  (try simp only [Act.put, List.setIfInBounds_toArray, List.set_cons_zero, List.set_cons_succ])
  refine take_named (i := 36) (d := 104) (v := .agg #[.int .i64 n3, .int .i64 n4]) rfl (by kernel_rfl) (by kernel_rfl) (by kernel_rfl) (by kernel_rfl) (fun _ _ _ h => h) (yieldsIf_load_row22 (by kernel_rfl) 40 (.tmp 20) rfl (gc + 1) rfl 40 #[.int .i64 n3, .int .i64 n4] (0, 0) _ (fun w h => h.2.2.2.2.2.2.1) Tryd.underlying40 rfl (by kernel_rfl)) (by assumption) ?_
  (try simp only [Act.put, List.setIfInBounds_toArray, List.set_cons_zero, List.set_cons_succ])
  refine take_named (i := 37) (d := 105) (v := .agg #[.int .i64 n3, .int .i64 n4]) rfl (by kernel_rfl) (by kernel_rfl) (by kernel_rfl) (by kernel_rfl) (fun _ _ _ h => h) (yieldsIf_load_row22 (by kernel_rfl) 40 (.tmp 23) rfl (gd + 1) rfl 40 #[.int .i64 n3, .int .i64 n4] (0, 0) _ (fun w h => h.2.2.2.2.2.2.2.2) Tryd.underlying40 rfl (by kernel_rfl)) (by assumption) ?_
  (try simp only [Act.put, List.setIfInBounds_toArray, List.set_cons_zero, List.set_cons_succ])
  refine take_named (i := 38) (d := 106) (v := ?v38) rfl (by kernel_rfl) (by kernel_rfl) (by kernel_rfl) (by kernel_rfl) (fun _ _ _ h => h) (Or.inl ⟨by kernel_rfl, ?y38⟩) (by assumption) ?_
  case y38 => intro wq hSw; (try dsimp only at hSw); go_simp; (try with_reducible rfl)
  (try simp only [Act.put, List.setIfInBounds_toArray, List.set_cons_zero, List.set_cons_succ])
  refine take_named (i := 39) (d := 107) (v := ?v39) rfl (by kernel_rfl) (by kernel_rfl) (by kernel_rfl) (by kernel_rfl) (fun _ _ _ h => h) (Or.inl ⟨by kernel_rfl, ?y39⟩) (by assumption) ?_
  case y39 => intro wq hSw; (try dsimp only at hSw); go_simp; (try with_reducible rfl)
  (try simp only [Act.put, List.setIfInBounds_toArray, List.set_cons_zero, List.set_cons_succ])
  refine take_named (i := 40) (d := 108) (v := ?v40) rfl (by kernel_rfl) (by kernel_rfl) (by kernel_rfl) (by kernel_rfl) (fun _ _ _ h => h) (Or.inl ⟨by kernel_rfl, ?y40⟩) (by assumption) ?_
  case y40 => intro wq hSw; (try dsimp only at hSw); go_simp; (try with_reducible rfl)
  (try simp only [Act.put, List.setIfInBounds_toArray, List.set_cons_zero, List.set_cons_succ])
  refine take_named (i := 41) (d := 109) (v := ?v41) rfl (by kernel_rfl) (by kernel_rfl) (by kernel_rfl) (by kernel_rfl) (fun _ _ _ h => h) (Or.inl ⟨by kernel_rfl, ?y41⟩) (by assumption) ?_
  case y41 => intro wq hSw; (try dsimp only at hSw); go_simp; (try with_reducible rfl)
  (try simp only [Act.put, List.setIfInBounds_toArray, List.set_cons_zero, List.set_cons_succ])
  refine take_named (i := 42) (d := 110) (v := ?v42) rfl (by kernel_rfl) (by kernel_rfl) (by kernel_rfl) (by kernel_rfl) (fun _ _ _ h => h) (Or.inl ⟨by kernel_rfl, ?y42⟩) (by assumption) ?_
  case y42 => intro wq hSw; (try dsimp only at hSw); go_simp; (try with_reducible rfl)
  (try simp only [Act.put, List.setIfInBounds_toArray, List.set_cons_zero, List.set_cons_succ])
  refine take_named (i := 43) (d := 111) (v := ?v43) rfl (by kernel_rfl) (by kernel_rfl) (by kernel_rfl) (by kernel_rfl) (fun _ _ _ h => h) (Or.inl ⟨by kernel_rfl, ?y43⟩) (by assumption) ?_
  case y43 => intro wq hSw; (try dsimp only at hSw); go_simp; (try with_reducible rfl)
  (try simp only [Act.put, List.setIfInBounds_toArray, List.set_cons_zero, List.set_cons_succ])
  refine take_named (i := 44) (d := 112) (v := ?v44) rfl (by kernel_rfl) (by kernel_rfl) (by kernel_rfl) (by kernel_rfl) (fun _ _ _ h => h) (Or.inl ⟨by kernel_rfl, ?y44⟩) (by assumption) ?_
  case y44 => intro wq hSw; (try dsimp only at hSw); go_simp; (try with_reducible rfl)
  (try simp only [Act.put, List.setIfInBounds_toArray, List.set_cons_zero, List.set_cons_succ])
  refine take_named (i := 45) (d := 113) (v := ?v45) rfl (by kernel_rfl) (by kernel_rfl) (by kernel_rfl) (by kernel_rfl) (fun _ _ _ h => h) (Or.inl ⟨by kernel_rfl, ?y45⟩) (by assumption) ?_
  case y45 => intro wq hSw; (try dsimp only at hSw); go_simp; (try with_reducible rfl)
  (try simp only [Act.put, List.setIfInBounds_toArray, List.set_cons_zero, List.set_cons_succ])
  refine take_named (i := 46) (d := 114) (v := .agg C) rfl (by kernel_rfl) (by kernel_rfl) (by kernel_rfl) (by kernel_rfl) (fun _ _ _ h => h) (yieldsIf_load_row22 (by kernel_rfl) 29 (.tmp 3) rfl (g) rfl 29 C (0, 0) _ (fun w h => h.1) Tryd.underlying29 rfl HI.out) (by assumption) ?_
  (try simp only [Act.put, List.setIfInBounds_toArray, List.set_cons_zero, List.set_cons_succ])
  refine take_named (i := 48) (d := 116) (v := .agg C) rfl (by kernel_rfl) (by kernel_rfl) (by kernel_rfl) (by kernel_rfl) (fun _ _ _ h => h) (yieldsIf_load_row22 (by kernel_rfl) 29 (.tmp 3) rfl (g) rfl 29 C (0, 0) _ (fun w h => h.1) Tryd.underlying29 rfl HI.out) (by assumption) ?_
  (try simp only [Act.put, List.setIfInBounds_toArray, List.set_cons_zero, List.set_cons_succ])
  refine wpAnyH_ready (rs := [47]) (by kernel_rfl) (by simp) ?_
  refine AllReadyH.cons rfl (fun K hK => ?_) AllReadyH.nil
  go_simp
  refine (HQ1.out _ hx2).mono ?_
  rintro ee y3 ⟨rfl, hy3⟩
  have hx3 := hx2.trans (hy3.mono hx2.size)
  refine hK.out _ _ (HSS.out _ hx3) (fun hH3 => ?_)
  clear hK K hH2 hy3
  (try simp only [Act.put, List.setIfInBounds_toArray, List.set_cons_zero, List.set_cons_succ])
  refine wpAnyH_ready (rs := [49]) (by kernel_rfl) (by simp) ?_
  refine AllReadyH.cons rfl (fun K hK => ?_) AllReadyH.nil
  go_simp
  refine (HR2.out _).mono ?_
  rintro ee y4 ⟨rfl, hy4⟩
  have hx4 := hx3.trans (hy4.mono hx3.size)
  refine hK.out _ _ (HSS.out _ hx4) (fun hH4 => ?_)
  clear hK K hH3 hy4
  (try simp only [Act.put, List.setIfInBounds_toArray, List.set_cons_zero, List.set_cons_succ])
  refine take_named (i := 50) (d := 118) (v := ?v50) rfl (by kernel_rfl) (by kernel_rfl) (by kernel_rfl) (by kernel_rfl) (fun _ _ _ h => h) (Or.inl ⟨by kernel_rfl, ?y50⟩) (by assumption) ?_
  case y50 => intro wq hSw; (try dsimp only at hSw); go_simp; (try with_reducible rfl)
  (try simp only [Act.put, List.setIfInBounds_toArray, List.set_cons_zero, List.set_cons_succ])
  refine take_named (i := 51) (d := 119) (v := ?v51) rfl (by kernel_rfl) (by kernel_rfl) (by kernel_rfl) (by kernel_rfl) (fun _ _ _ h => h) (Or.inl ⟨by kernel_rfl, ?y51⟩) (by assumption) ?_
  case y51 => intro wq hSw; (try dsimp only at hSw); go_simp; (try with_reducible rfl)
  (try simp only [Act.put, List.setIfInBounds_toArray, List.set_cons_zero, List.set_cons_succ])
  refine wpAnyH_done (by kernel_rfl) ?_ _
  have hb := hx4
  replace hB := below_via hB hb
  replace HK := Lib.hid (blk_below HK.out hb (blk_lt HK.out))
  replace O1 := Lib.hid (own_below O1.out hb (Nat.le_refl _))
  replace O2 := Lib.hid (own_below O2.out hb (Nat.le_refl _))
  replace O3 := Lib.hid (own_below O3.out hb (Nat.le_refl _))
  replace O4 := Lib.hid (own_below O4.out hb (Nat.le_refl _))
  clear hb
  clear HSS HSm1 HSm2 HQ1 HR2 hd T1 T2 T3 T4 HK
  have T2 := Lib.hid (Rd.of_own O2.out)
  have T4 := Lib.hid (Rd.of_own O4.out)
  have hfin : ∀ (W : World), Rd W W.heap.size 2 A2 l2.length (pC l2) → Rd W W.heap.size 2 A4 l2.length (pC l2) → Below w.heap.size w W → Hid (Calls Tryd.prog 16 #[.slice A2 l2.length c2, .slice A4 l2.length c4] W fun e w' => e = .returned (.bool true) ∧ Below W.heap.size W w') := fun W h1 h2 _ => Lib.hid (same22 l2 A2 A4 c2 c4 W h1 h2 (by omega))
  have HFin := Lib.hid hfin
  clear hfin
  rcases O1.out.2 with ⟨hv1, h0⟩ | ⟨ga', cap, cur, hv1, hge, hh, hle, hmax, hsz, htk⟩
  · have hS := HFin.out _ T2.out T4.out hB
    rw [h0]
    clear hv1 h0 O1 O2 O3 O4 AP HLt T2 T4 HFin HBd
    go_wp2
    go_loopw [122] (fun i wr => i = .int .i64 0 ∧ wr = y4) (fun _ _ => 0)
    case atStart => exact ⟨rfl, rfl⟩
    case round =>
      obtain ⟨rfl, rfl⟩ := hrel
      go_wp2_with fail
      refine hS.out.mono ?_
      rintro ee z1 ⟨rfl, hb⟩
      replace hB := below_via hB hb
      have HA := Lib.hid (awake22 z1 (HL.out.go hB))
      clear hb hS
      go_wp2_with fail
      refine HA.out.mono ?_
      rintro ee z2 ⟨rfl, hb⟩
      replace hB := below_via hB hb
      go_wp2
      go_ret
      exact ⟨rfl, hB⟩
  · obtain ⟨rfl, rfl⟩ : A1 = some ⟨ga', 0, none⟩ ∧ c1 = cap := by injection hv1 with h1 h2 h3; exact ⟨h1, h3⟩
    have hlt1 : ga' < w2.heap.size := HLt.out ga' rfl
    have n2 : ∀ b off, A2 = some ⟨b, off, none⟩ → b ≠ ga' := fun b off e he => by
      have h := own_addr O2.out e
      exact AP.out ga' rfl (by rw [← he]; exact h.2)
    have n4 : ∀ b off, A4 = some ⟨b, off, none⟩ → b ≠ ga' := fun b off e he => by
      have h := own_addr O4.out e
      omega
    have hgw : w.heap.size ≤ ga' := Nat.le_trans HW.out hge
    have hcur : ∀ q (hq : q < l1.length), cur[q * 2]? = some (.int .i64 l1[q].1) := fun q hq => by
      have h := (pC_get l1 q hq).1
      rw [← htk, List.getElem?_take, if_pos (by omega)] at h
      simpa using h
    have N2 := Lib.hid n2
    have N4 := Lib.hid n4
    have HH := Lib.hid hh
    have HC := Lib.hid hcur
    clear hv1 hge hh hle hmax hsz htk O1 O2 O3 O4 AP HLt n2 n4 hcur hlt1
    go_wp2
    go_loopw [122] (fun i wr => ∃ (j : Nat) (cu : Array Value), j ≤ l1.length ∧ i = .int .i64 (j : Int) ∧ Hid (wr.heap[ga']? = some (.cells cu 47 (0, 0))) ∧ Hid (∀ q (hq : q < l1.length), j ≤ q → cu[q * 2]? = some (.int .i64 l1[q].1)) ∧ Hid (∀ b, b ≠ ga' → wr.heap[b]? = y4.heap[b]?) ∧ Hid (y4.heap.size ≤ wr.heap.size) ∧ Below w.heap.size w wr) (fun i _ => l1.length - (intOf i).toNat)
    case atStart => exact ⟨0, cur, by omega, rfl, HH.out, (fun q hq _ => HC.out q hq), (fun b _ => rfl), Nat.le_refl _, hB⟩
    case round =>
      clear HH HC hB
      obtain ⟨j, cu, hj, rfl, HH, HC, HO, HZ, hB⟩ := hrel
      rename World => wr
      by_cases hlt : j < l1.length
      · have q0 := (blk_cell HH.out (j * 2)).trans (HC.out j hlt (Nat.le_refl _))
        have f0 := blk_free HH.out (j * 2)
        have hbd := HBd.out _ (List.getElem_mem hlt)
        generalize l1[j].1 = y at q0 hbd
        have k1 : (0 : Int) ≤ (j : Int) := by omega
        have k2 : (j : Int) < (l1.length : Int) := by omega
        have hE := Lib.hid (hB.setCell (p := ⟨ga', j * 2, none⟩) hgw (.int .i64 (y + 7)))
        have HH2 := Lib.hid (blk_set HH.out (j * 2) (.int .i64 (y + 7)))
        have HC2 := Lib.hid (show ∀ q (hq : q < l1.length), j + 1 ≤ q → (cu.setIfInBounds (j * 2) (.int .i64 (y + 7)))[q * 2]? = some (.int .i64 l1[q].1) from fun q hq hjq => (Array.getElem?_setIfInBounds_ne (by omega)).trans (HC.out q hq (by omega)))
        have HO2 := Lib.hid (show ∀ b, b ≠ ga' → (wr.setCell ⟨ga', j * 2, none⟩ (.int .i64 (y + 7))).heap[b]? = y4.heap[b]? from fun b hb => (blk_far rfl (p := ⟨ga', j * 2, none⟩) hb _).trans (HO.out b hb))
        have HZ2 := Lib.hid (show y4.heap.size ≤ (wr.setCell ⟨ga', j * 2, none⟩ (.int .i64 (y + 7))).heap.size by simpa using HZ.out)
        clear hB
        go_wp2
        go_roundw
        case rel => exact ⟨j + 1, _, by omega, by go_num, HH2.out, HC2.out, HO2.out, HZ2.out, hE.out⟩
        case measure => simp [intOf]; omega
      · obtain rfl : j = l1.length := by omega
        have hS := HFin.out wr ((T2.out.other N2.out HO.out).more HZ.out) ((T4.out.other N4.out HO.out).more HZ.out) hB
        clear HFin T2 T4 N2 N4 HO HZ HH HC HBd
        go_wp2_with fail
        refine hS.out.mono ?_
        rintro ee z1 ⟨rfl, hb⟩
        replace hB := below_via hB hb
        have HA := Lib.hid (awake22 z1 (HL.out.go hB))
        clear hb hS
        go_wp2_with fail
        refine HA.out.mono ?_
        rintro ee z2 ⟨rfl, hb⟩
        replace hB := below_via hB hb
        go_wp2
        go_ret
        exact ⟨rfl, hB⟩

end Go.Proofs.YtgfnggdjjigomaaDoor
