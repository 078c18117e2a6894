/- The walk of finesseref23.gets: what one side of a compared entry gets. The walk of finesseref23.Board. -/
import Derived.Test.YtchklobblkddhaaGreatDoorRef23A
import Derived.Test.YtchklobblkddhaaGreatDoorFouApL
namespace Go.Proofs.YtchklobblkddhaaGreatDoor
open Go.RowKit Go.Shelf

/-! ### The walk of finesseref23.gets: what one side of a compared entry gets. -/
/-- The results of a side in a field, of the first entries. -/
def fldT (L : List Ent) (f vul : Int) (s k : Nat) : List (List Pt) := ((L.take k).filter (selE f)).map (resE vul s)
theorem fldT_all (L : List Ent) (f vul : Int) (s : Nat) : fldT L f vul s L.length = fldR L f vul s := by unfold fldT; rw [List.take_length, fldR_filter]
theorem fldT_succ (L : List Ent) (f vul : Int) (s k : Nat) (h : k < L.length) : fldT L f vul s (k + 1) = fldT L f vul s k ++ (if selE f L[k] = true then [resE vul s L[k]] else []) := by
  unfold fldT
  rw [List.take_succ_eq_append_getElem h, List.filter_append, List.map_append]
  congr 1
  by_cases e : selE f L[k] = true
  · rw [if_pos e, List.filter_cons_of_pos e]; rfl
  · rw [if_neg e, List.filter_cons_of_neg e]; rfl
/-- What the entry gets from the first entries of its field, without itself. -/
def mT (L : List Ent) (vul : Int) (s at0 : Nat) (k : Nat) : Int := match L[at0]? with
  | some e => gAll (resE vul s e) (fldT L e.f vul s k) - (if at0 < k then 10000 else 0)
  | none => 0
theorem mT_get (L : List Ent) (vul : Int) (s at0 k : Nat) (h : at0 < L.length) : mT L vul s at0 k = gAll (resE vul s L[at0]) (fldT L (L[at0]).f vul s k) - (if at0 < k then 10000 else 0) := by
  unfold mT; rw [List.getElem?_eq_getElem h]
theorem mT_zero (L : List Ent) (vul : Int) (s at0 : Nat) (h : at0 < L.length) : mT L vul s at0 0 = 0 := by
  rw [mT_get L vul s at0 0 h, if_neg (by omega)]
  simp [fldT, gAll]
section
variable {L : List Ent} {vul : Int} {s at0 k : Nat} (hO : ∀ e ∈ L, e.Ok) (hR : ∀ e ∈ L, e.right = true) (hv : 0 ≤ vul ∧ vul ≤ 3) (ha : at0 < L.length) (hc : cmpB L[at0] = true) (hk : k < L.length)
include ha hc
theorem sel_self : selE (L[at0]).f L[at0] = true := Bool.and_eq_true_iff.2 ⟨hc, decide_eq_true rfl⟩
include hk
theorem mT_no (h : selE (L[at0]).f L[k] = false) : mT L vul s at0 (k + 1) = mT L vul s at0 k := by
  rw [mT_get L vul s at0 _ ha, mT_get L vul s at0 _ ha, fldT_succ L _ vul s k hk, if_neg (by rw [h]; decide), List.append_nil]
  by_cases e : at0 < k
  · rw [if_pos e, if_pos (by omega)]
  · rw [if_neg e]
    by_cases e2 : at0 = k
    · subst e2
      rw [sel_self ha hc] at h; cases h
    · rw [if_neg (by omega)]
omit hc in
theorem mT_other (h : selE (L[at0]).f L[k] = true) (hne : k ≠ at0) : mT L vul s at0 (k + 1) = mT L vul s at0 k + gAB (resE vul s L[at0]) (resE vul s L[k]) := by
  rw [mT_get L vul s at0 _ ha, mT_get L vul s at0 _ ha, fldT_succ L _ vul s k hk, if_pos h, gAll_app]
  have e1 : gAll (resE vul s L[at0]) [resE vul s L[k]] = gAB (resE vul s L[at0]) (resE vul s L[k]) := by simp [gAll]
  rw [e1]
  by_cases e : at0 < k
  · rw [if_pos e, if_pos (by omega)]; omega
  · rw [if_neg e, if_neg (by omega)]; omega
end
section
variable {L : List Ent} {vul : Int} {s at0 : Nat} (hO : ∀ e ∈ L, e.Ok) (hR : ∀ e ∈ L, e.right = true) (hv : 0 ≤ vul ∧ vul ≤ 3) (ha : at0 < L.length) (hc : cmpB L[at0] = true)
include hO hR hv ha hc
theorem res_at : rightM (resE vul s L[at0]) = true := by
  have hm := List.getElem_mem ha
  exact resE_right _ (hO _ hm) (hR _ hm) (sel_k (hR _ hm) (sel_self ha hc)) vul hv.2 s
theorem mT_self : mT L vul s at0 (at0 + 1) = mT L vul s at0 at0 := by
  rw [mT_get L vul s at0 _ ha, mT_get L vul s at0 _ ha, fldT_succ L _ vul s at0 ha, if_pos (sel_self ha hc), gAll_app, if_pos (by omega), if_neg (by omega)]
  have e1 : gAll (resE vul s L[at0]) [resE vul s L[at0]] = gAB (resE vul s L[at0]) (resE vul s L[at0]) := by simp [gAll]
  rw [e1, gAB_self _ (res_at hO hR hv ha hc)]
  omega
theorem mT_bd (k : Nat) (hk : k ≤ L.length) : -10000 ≤ mT L vul s at0 k ∧ mT L vul s at0 k ≤ 20000 * k := by
  rw [mT_get L vul s at0 _ ha]
  have hF : ∀ o ∈ fldT L (L[at0]).f vul s k, rightM o = true := fun o ho => by
    obtain ⟨e, he, rfl⟩ := List.mem_map.1 ho
    obtain ⟨h1, h2⟩ := List.mem_filter.1 he
    have hm := List.mem_of_mem_take h1
    exact resE_right _ (hO _ hm) (hR _ hm) (sel_k (hR _ hm) h2) vul hv.2 s
  have h1 := gAll_nonneg _ _ (res_at (s := s) hO hR hv ha hc) hF
  have h2 := gAll_le _ _ (res_at (s := s) hO hR hv ha hc) hF
  have h3 : (fldT L (L[at0]).f vul s k).length ≤ k := by
    unfold fldT
    rw [List.length_map]
    exact Nat.le_trans (List.length_filter_le _ _) (by rw [List.length_take]; omega)
  split <;> omega
omit hO hR hv hc in
theorem gets_eq : fr ((notVoid L : Int) * (mT L vul s at0 L.length + 10000) - 10000 * (inField L (L[at0]).f : Int)) (10000 * (inField L (L[at0]).f : Int)) = valN L (L[at0]).f vul (notVoid L : Int) s at0 := by
  unfold valN
  rw [List.getElem?_eq_getElem ha, mT_get L vul s at0 _ ha, fldT_all, if_pos ha]
  dsimp only
  rw [fldR_inField, show gAll (resE vul s L[at0]) (fldR L (L[at0]).f vul s) - 10000 + 10000 = gAll (resE vul s L[at0]) (fldR L (L[at0]).f vul s) by omega, Int.mul_comm (notVoid L : Int)]
end

theorem wide_res (vul : Int) (s : Nat) (e : Ent) : resE vul s e = if s = 0 then wPts (sideA e.k e.o) vul else negP (wPts (sideB e.k e.o) vul) := rfl
theorem res0_23 (vul : Int) (e : Ent) : resE vul 0 e = wPts (sideA e.k e.o) vul := rfl
theorem res1_23 (vul : Int) (e : Ent) : resE vul 1 e = negP (wPts (sideB e.k e.o) vul) := rfl
theorem wp_len23 (l : List Oc) (v : Int) : (wPts l v).length = l.length := wPts_len l v
theorem neg_len23 (l : List Oc) (v : Int) : (negP (wPts l v)).length = l.length := by unfold negP; rw [List.length_map, wPts_len]

set_option maxRecDepth 100000 in
set_option maxHeartbeats 4000000 in
theorem r23gets (L : List Ent) (A : Option Addr) (c : Nat) (vul : Int) (at0 s : Nat) (w : World) (hO : ∀ e ∈ L, e.Ok) (hR : ∀ e ∈ L, e.right = true) (hA : Rd w w.heap.size 33 A L.length (enL L)) (hn : L.length ≤ 24) (hv : 0 ≤ vul ∧ vul ≤ 3) (hs : s < 2) (ha : at0 < L.length) (hc : cmpB L[at0] = true) :
    Calls Tryz.prog 22 #[.slice A L.length c, .int .u8 vul, .int .i64 (at0 : Int), .int .i64 (s : Int)] w fun e w' => e = .returned (fV (valN L (L[at0]).f vul (notVoid L : Int) s at0)) ∧ Below w.heap.size w w' := by
  have HO := Lib.hid hO
  have HR := Lib.hid hR
  have HA := Lib.hid hA
  have HS := Lib.hid (show ∀ e ∈ L, e.C.size = 33 from fun e he => (hO e he).1.1)
  have HN := Lib.hid (fun W h1 => r23results L A c W hO h1 (by omega))
  have HG := Lib.hid (gets_eq (vul := vul) (s := s) (L := L) (at0 := at0) ha)
  have HBd := Lib.hid (fun k hk => mT_bd (s := s) hO hR hv ha hc k hk)
  have HNo := Lib.hid (fun k (hk : k < L.length) => mT_no (vul := vul) (s := s) ha hc hk)
  have HOt := Lib.hid (fun k (hk : k < L.length) => mT_other (vul := vul) (s := s) ha hk)
  have HSf := Lib.hid (mT_self (s := s) hO hR hv ha hc)
  have HZ := Lib.hid (mT_zero L vul s at0 ha)
  have hma := List.getElem_mem ha
  have hoka := hO _ hma
  have hka := sel_k (hR _ hma) (sel_self ha hc)
  have HSa := Lib.hid (fun W => r22sides_some _ _ _ _ _ vul _ hoka.1 hoka.2.2.1 hoka.2.2.2.1 hv (hR _ hma) hka W)
  have HRa := Lib.hid (show ∀ t, rightM (resE vul t L[at0]) = true from fun t => resE_right _ hoka (hR _ hma) hka vul hv.2 t)
  obtain ⟨ba, oa, rfl, hba0, hra⟩ := rd_e HS.out HA.out at0 ha
  have q5a : w.cell? ⟨ba, oa + at0 * 33 + 5, none⟩ = some (.int .u8 (L[at0]).f) := hra 5 _ (by have := hoka.1.2.2.1; simpa using this)
  have HIa := Lib.hid (hoka.1.size)
  have HCnt := Lib.hid (fun k (hk : k < L.length) => cntE_succ L k hk (L[at0]).f)
  have HCnl := Lib.hid (fun k => cntE_le L k (L[at0]).f)
  have HCna := Lib.hid (cntE_all L (L[at0]).f)
  have HRA := Lib.hid hra
  have HQ5 := Lib.hid q5a
  have hc0 := hc
  have Hs2 := Lib.hid hs
  clear hO hR hA hoka hka hc hma hra q5a hs
  have HPos := Lib.hid (show 1 ≤ inField L (L[at0]).f from List.length_pos_of_mem (List.mem_filter.2 ⟨List.getElem_mem ha, sel_self ha hc0⟩))
  have HNv := Lib.hid (show notVoid L ≤ 24 by rw [← nvTo_all]; exact Nat.le_trans (nvTo_le L L.length) hn)
  clear hc0
  generalize L[at0] = ea at *
  have HV := Lib.hid (show ∃ V, valN L ea.f vul (notVoid L : Int) s at0 = V from ⟨_, rfl⟩)
  obtain ⟨V, hV⟩ := HV.out
  rw [hV] at HG ⊢
  clear HV hV
  obtain ⟨fan, hfan⟩ : ∃ fa, ea.f = fa := ⟨_, rfl⟩
  have Hfa := Lib.hid hfan
  clear hfan
  have Hs01 := Lib.hid (show s = 0 ∨ s = 1 by have := Hs2.out; omega)
  go_enter Tryz.func22, Tryz.ntmps22
  go_wp2
  go_loopw [9, 10, 11] (fun m n i wr => ∃ k : Nat, k ≤ L.length ∧ i = .int .i64 (k : Int) ∧ m = .int .i64 (mT L vul s at0 k) ∧ n = .int .i64 (cntE L k ea.f : Int) ∧ Hid (Below w.heap.size w wr) ∧ Hid (wr.heap[w.heap.size]? = some (.cells #[.int .i64 0, .int .i64 0] 36 (0, 0)))) (fun _ _ i _ => L.length - (intOf i).toNat)
  case atStart => exact ⟨0, by omega, rfl, by rw [HZ.out], rfl, (Below.refl _ _).alloc (Nat.le_refl _) _, blk_new _ rfl⟩
  case round =>
    obtain ⟨k, hk, rfl, rfl, rfl, HB, HK8⟩ := hrel
    have hbd := HBd.out k hk
    have hcl := HCnl.out k
    by_cases hlt : k < L.length
    · obtain ⟨b, off, hbo, hbw, hr⟩ := rd_e HS.out HA.out k hlt
      obtain ⟨rfl, rfl⟩ : ba = b ∧ oa = off := by injection hbo with h1; injection h1 with h2 h3; exact ⟨h2, h3⟩
      clear hbo hbw
      have hm := List.getElem_mem hlt
      have hok := HO.out _ hm
      have hr2 := range_below hr HB.out hba0
      have hI := Lib.hid (hok.1.size)
      have q5i : wr.cell? ⟨ba, oa + k * 33 + 5, none⟩ = some (.int .u8 (L[k]).f) := (bcell HB.out ba _ hba0).trans (hr 5 _ (by have := hok.1.2.2.1; simpa using this))
      have q5a : wr.cell? ⟨ba, oa + at0 * 33 + 5, none⟩ = some (.int .u8 ea.f) := (bcell HB.out ba _ hba0).trans HQ5.out
      have hbl : ba < wr.heap.size := Nat.lt_of_lt_of_le hba0 HB.out.size
      have hbl2 : ba < wr.drew.heap.size := hbl
      have HCo := Lib.hid (fun W => r23compared _ hok W)
      rw [cmpR_eq _ (HR.out _ hm)] at HCo
      have HNo1 := Lib.hid (HNo.out k hlt)
      have HOt1 := Lib.hid (HOt.out k hlt)
      have HCnt1 := Lib.hid (HCnt.out k hlt)
      have HSel := Lib.hid (show selE ea.f L[k] = (cmpB L[k] && decide ((L[k]).f = ea.f)) from rfl)
      have hs0 := And.intro hr2 (And.intro q5i q5a)
      have hS0 : (fun wq : World => wq.rangeAt ba (oa + k * 33) L[k].C.toList ∧ wq.cell? ⟨ba, oa + k * 33 + 5, none⟩ = some (.int .u8 (L[k]).f) ∧ wq.cell? ⟨ba, oa + at0 * 33 + 5, none⟩ = some (.int .u8 ea.f)) wr := hs0
      have HR2 := Lib.hid hr2
      have c1 : (0 : Int) ≤ (k : Int) := by omega
      have c2 : (k : Int) < (L.length : Int) := by omega
      have c3 : (0 : Int) ≤ (at0 : Int) := by omega
      have c4 : (at0 : Int) < (L.length : Int) := by omega
      have HSi := Lib.hid (fun hsel W => r22sides_some _ _ _ _ _ vul _ hok.1 hok.2.2.1 hok.2.2.2.1 hv (HR.out _ hm) (sel_k (f := ea.f) (HR.out _ hm) hsel) W)
      have HRi := Lib.hid (fun hsel => show ∀ t, rightM (resE vul t L[k]) = true from fun t => resE_right _ hok (HR.out _ hm) (sel_k (f := ea.f) (HR.out _ hm) hsel) vul hv.2 t)
      clear hr hr2 hs0 q5i q5a
      generalize (L[k]).C = C at hS0 HCo HR2 hI HSi
      generalize (L[k]).f = fi at hS0 HSel
      cases hR : cmpB L[k] with
      | false =>
        rw [hR] at HCo HSel
        have hsel : selE ea.f L[k] = false := HSel.out
        have HM := Lib.hid (HNo1.out hsel)
        have HCt := Lib.hid (HCnt1.out)
        have HCt2 := Lib.hid (show cntE L (k + 1) ea.f = cntE L k ea.f by rw [HCt.out, if_neg (by rw [hsel]; decide)]; rfl)
        clear HSel HNo1 HOt1 HCnt1 HCt hsel
        go_upto_region 5 with fail
        refine wp_region_held_drew (S := (fun wq => wq.rangeAt ba (oa + k * 33) C.toList ∧ wq.cell? ⟨ba, oa + k * 33 + 5, none⟩ = some (.int .u8 fi) ∧ wq.cell? ⟨ba, oa + at0 * 33 + 5, none⟩ = some (.int .u8 ea.f))) (by kernel_rfl) hS0 (fun hHeldA => ?_)
        refine take_named23 (i := 0) (d := 24) (v := ?vA0) rfl (by kernel_rfl) (by kernel_rfl) (by kernel_rfl) (by kernel_rfl) (fun _ _ _ h => h) (Or.inl ⟨by kernel_rfl, ?yA0⟩) (by assumption) ?_
        case yA0 => intro wq hSw; (try dsimp only at hSw); go_simp; (try with_reducible rfl)
        (try simp only [Act.put, List.setIfInBounds_toArray, List.set_cons_zero, List.set_cons_succ])
        refine take_named23 (i := 1) (d := 25) (v := ?vA1) rfl (by kernel_rfl) (by kernel_rfl) (by kernel_rfl) (by kernel_rfl) (fun _ _ _ h => h) (Or.inl ⟨by kernel_rfl, ?yA1⟩) (by assumption) ?_
        case yA1 => intro wq hSw; (try dsimp only at hSw); go_simp; (try with_reducible rfl)
        (try simp only [Act.put, List.setIfInBounds_toArray, List.set_cons_zero, List.set_cons_succ])
        refine take_named23 (i := 2) (d := 26) (v := ?vA2) rfl (by kernel_rfl) (by kernel_rfl) (by kernel_rfl) (by kernel_rfl) (fun _ _ _ h => h) (Or.inl ⟨by kernel_rfl, ?yA2⟩) (by assumption) ?_
        case yA2 => intro wq hSw; (try dsimp only at hSw); go_simp; (try with_reducible rfl)
        (try simp only [Act.put, List.setIfInBounds_toArray, List.set_cons_zero, List.set_cons_succ])
        refine take_named23 (i := 3) (d := 27) (v := .agg (C.toList).toArray) rfl (by kernel_rfl) (by kernel_rfl) (by kernel_rfl) (by kernel_rfl) (fun _ _ _ h => h) (yieldsIf_load_mid (by kernel_rfl) 51 (.tmp 26) rfl ba (oa + k * 33) rfl (C.toList) _ (fun w h => h.1) Tryz.underlying51 rfl hI.out) (by assumption) ?_
        (try simp only [Act.put, List.setIfInBounds_toArray, List.set_cons_zero, List.set_cons_succ])
        (try simp only [Array.toArray_toList])
        refine wpAnyH_ready (rs := [4]) (by kernel_rfl) (by simp) ?_
        refine AllReadyH.cons rfl (fun K hK => ?_) AllReadyH.nil
        go_simp
        refine (HCo.out _).mono ?_
        rintro ee wq1 ⟨rfl, hbq1⟩
        refine hK.out _ _ (⟨range_below hHeldA.1 hbq1 hbl2, keepB0 hbq1 hbl2 hHeldA.2.1, keepB0 hbq1 hbl2 hHeldA.2.2⟩) (fun hHeldA4 => ?_)
        clear hK K hHeldA
        (try simp only [Act.put, List.setIfInBounds_toArray, List.set_cons_zero, List.set_cons_succ])
        refine take_named23 (i := 5) (d := 29) (v := ?vA5) rfl (by kernel_rfl) (by kernel_rfl) (by kernel_rfl) (by kernel_rfl) (fun _ _ _ h => h) (Or.inl ⟨by kernel_rfl, ?yA5⟩) (by assumption) ?_
        case yA5 => intro wq hSw; (try dsimp only at hSw); go_simp; (try with_reducible rfl)
        (try simp only [Act.put, List.setIfInBounds_toArray, List.set_cons_zero, List.set_cons_succ])
        refine take_named23 (i := 6) (d := 30) (v := ?vA6) rfl (by kernel_rfl) (by kernel_rfl) (by kernel_rfl) (by kernel_rfl) (fun _ _ _ h => h) (Or.inl ⟨by kernel_rfl, ?yA6⟩) (by assumption) ?_
        case yA6 => intro wq hSw; (try dsimp only at hSw); go_simp; (try with_reducible rfl)
        (try simp only [Act.put, List.setIfInBounds_toArray, List.set_cons_zero, List.set_cons_succ])
        refine take_named23 (i := 7) (d := 31) (v := undef) rfl (by kernel_rfl) (by kernel_rfl) (by kernel_rfl) (by kernel_rfl) (fun _ _ _ h => h) (Or.inr ⟨by kernel_rfl, rfl⟩) (by assumption) ?_
        (try simp only [Act.put, List.setIfInBounds_toArray, List.set_cons_zero, List.set_cons_succ])
        refine take_named23 (i := 8) (d := 32) (v := undef) rfl (by kernel_rfl) (by kernel_rfl) (by kernel_rfl) (by kernel_rfl) (fun _ _ _ h => h) (Or.inr ⟨by kernel_rfl, rfl⟩) (by assumption) ?_
        (try simp only [Act.put, List.setIfInBounds_toArray, List.set_cons_zero, List.set_cons_succ])
        refine take_named23 (i := 9) (d := 33) (v := undef) rfl (by kernel_rfl) (by kernel_rfl) (by kernel_rfl) (by kernel_rfl) (fun _ _ _ h => h) (Or.inr ⟨by kernel_rfl, rfl⟩) (by assumption) ?_
        (try simp only [Act.put, List.setIfInBounds_toArray, List.set_cons_zero, List.set_cons_succ])
        refine take_named23 (i := 10) (d := 34) (v := undef) rfl (by kernel_rfl) (by kernel_rfl) (by kernel_rfl) (by kernel_rfl) (fun _ _ _ h => h) (Or.inr ⟨by kernel_rfl, rfl⟩) (by assumption) ?_
        (try simp only [Act.put, List.setIfInBounds_toArray, List.set_cons_zero, List.set_cons_succ])
        refine take_named23 (i := 11) (d := 35) (v := undef) rfl (by kernel_rfl) (by kernel_rfl) (by kernel_rfl) (by kernel_rfl) (fun _ _ _ h => h) (Or.inr ⟨by kernel_rfl, rfl⟩) (by assumption) ?_
        (try simp only [Act.put, List.setIfInBounds_toArray, List.set_cons_zero, List.set_cons_succ])
        refine take_named23 (i := 12) (d := 36) (v := undef) rfl (by kernel_rfl) (by kernel_rfl) (by kernel_rfl) (by kernel_rfl) (fun _ _ _ h => h) (Or.inr ⟨by kernel_rfl, rfl⟩) (by assumption) ?_
        (try simp only [Act.put, List.setIfInBounds_toArray, List.set_cons_zero, List.set_cons_succ])
        refine take_named23 (i := 13) (d := 37) (v := undef) rfl (by kernel_rfl) (by kernel_rfl) (by kernel_rfl) (by kernel_rfl) (fun _ _ _ h => h) (Or.inr ⟨by kernel_rfl, rfl⟩) (by assumption) ?_
        (try simp only [Act.put, List.setIfInBounds_toArray, List.set_cons_zero, List.set_cons_succ])
        refine take_named23 (i := 14) (d := 38) (v := undef) rfl (by kernel_rfl) (by kernel_rfl) (by kernel_rfl) (by kernel_rfl) (fun _ _ _ h => h) (Or.inr ⟨by kernel_rfl, rfl⟩) (by assumption) ?_
        (try simp only [Act.put, List.setIfInBounds_toArray, List.set_cons_zero, List.set_cons_succ])
        refine take_named23 (i := 15) (d := 39) (v := undef) rfl (by kernel_rfl) (by kernel_rfl) (by kernel_rfl) (by kernel_rfl) (fun _ _ _ h => h) (Or.inr ⟨by kernel_rfl, rfl⟩) (by assumption) ?_
        (try simp only [Act.put, List.setIfInBounds_toArray, List.set_cons_zero, List.set_cons_succ])
        refine take_named23 (i := 16) (d := 40) (v := undef) rfl (by kernel_rfl) (by kernel_rfl) (by kernel_rfl) (by kernel_rfl) (fun _ _ _ h => h) (Or.inr ⟨by kernel_rfl, rfl⟩) (by assumption) ?_
        (try simp only [Act.put, List.setIfInBounds_toArray, List.set_cons_zero, List.set_cons_succ])
        refine take_named23 (i := 17) (d := 41) (v := undef) rfl (by kernel_rfl) (by kernel_rfl) (by kernel_rfl) (by kernel_rfl) (fun _ _ _ h => h) (Or.inr ⟨by kernel_rfl, rfl⟩) (by assumption) ?_
        (try simp only [Act.put, List.setIfInBounds_toArray, List.set_cons_zero, List.set_cons_succ])
        refine take_named23 (i := 18) (d := 42) (v := ?vA18) rfl (by kernel_rfl) (by kernel_rfl) (by kernel_rfl) (by kernel_rfl) (fun _ _ _ h => h) (Or.inl ⟨by kernel_rfl, ?yA18⟩) (by assumption) ?_
        case yA18 => intro wq hSw; (try dsimp only at hSw); go_simp; (try with_reducible rfl)
        (try simp only [Act.put, List.setIfInBounds_toArray, List.set_cons_zero, List.set_cons_succ])
        refine wpAnyH_done (by kernel_rfl) ?_ _
        clear hHeldA4
        go_wp2
        go_roundw
        case rel => exact ⟨k + 1, by omega, by go_num, by rw [HM.out], by rw [HCt2.out], Lib.hid (below_via HB.out.drew hbq1), Lib.hid (blk_below (w := wr.drew) HK8.out hbq1 (blk_lt HK8.out))⟩
        case measure => simp [intOf]; omega
      | true =>
        rw [hR] at HCo HSel
        by_cases hff : fi = ea.f
        · have hsel : selE ea.f L[k] = true := by rw [HSel.out, hff]; simp
          have t0 : (fi != ea.f) = false := by simp [hff]
          have HCt := Lib.hid (show cntE L (k + 1) ea.f = cntE L k ea.f + 1 by rw [HCnt1.out, if_pos hsel])
          have hw1 := IntWalk.i64_in ((cntE L k ea.f : Int) + 1) (by omega)
          have HM1 := Lib.hid (HOt1.out hsel)
          have HRi2 := Lib.hid (HRi.out hsel)
          have HSi2 := Lib.hid (HSi.out hsel)
          clear HSel HNo1 HOt1 HCnt1 hsel hff HRi HSi
          go_upto_region 5 with fail
          refine wp_region_held_drew (S := (fun wq => wq.rangeAt ba (oa + k * 33) C.toList ∧ wq.cell? ⟨ba, oa + k * 33 + 5, none⟩ = some (.int .u8 fi) ∧ wq.cell? ⟨ba, oa + at0 * 33 + 5, none⟩ = some (.int .u8 ea.f))) (by kernel_rfl) hS0 (fun hHeldC => ?_)
          refine take_named23 (i := 0) (d := 24) (v := ?vC0) rfl (by kernel_rfl) (by kernel_rfl) (by kernel_rfl) (by kernel_rfl) (fun _ _ _ h => h) (Or.inl ⟨by kernel_rfl, ?yC0⟩) (by assumption) ?_
          case yC0 => intro wq hSw; (try dsimp only at hSw); go_simp; (try with_reducible rfl)
          (try simp only [Act.put, List.setIfInBounds_toArray, List.set_cons_zero, List.set_cons_succ])
          refine take_named23 (i := 1) (d := 25) (v := ?vC1) rfl (by kernel_rfl) (by kernel_rfl) (by kernel_rfl) (by kernel_rfl) (fun _ _ _ h => h) (Or.inl ⟨by kernel_rfl, ?yC1⟩) (by assumption) ?_
          case yC1 => intro wq hSw; (try dsimp only at hSw); go_simp; (try with_reducible rfl)
          (try simp only [Act.put, List.setIfInBounds_toArray, List.set_cons_zero, List.set_cons_succ])
          refine take_named23 (i := 2) (d := 26) (v := ?vC2) rfl (by kernel_rfl) (by kernel_rfl) (by kernel_rfl) (by kernel_rfl) (fun _ _ _ h => h) (Or.inl ⟨by kernel_rfl, ?yC2⟩) (by assumption) ?_
          case yC2 => intro wq hSw; (try dsimp only at hSw); go_simp; (try with_reducible rfl)
          (try simp only [Act.put, List.setIfInBounds_toArray, List.set_cons_zero, List.set_cons_succ])
          refine take_named23 (i := 3) (d := 27) (v := .agg (C.toList).toArray) rfl (by kernel_rfl) (by kernel_rfl) (by kernel_rfl) (by kernel_rfl) (fun _ _ _ h => h) (yieldsIf_load_mid (by kernel_rfl) 51 (.tmp 26) rfl ba (oa + k * 33) rfl (C.toList) _ (fun w h => h.1) Tryz.underlying51 rfl hI.out) (by assumption) ?_
          (try simp only [Act.put, List.setIfInBounds_toArray, List.set_cons_zero, List.set_cons_succ])
          (try simp only [Array.toArray_toList])
          refine wpAnyH_ready (rs := [4]) (by kernel_rfl) (by simp) ?_
          refine AllReadyH.cons rfl (fun K hK => ?_) AllReadyH.nil
          go_simp
          refine (HCo.out _).mono ?_
          rintro ee wq1 ⟨rfl, hbq1⟩
          refine hK.out _ _ (⟨range_below hHeldC.1 hbq1 hbl2, keepB0 hbq1 hbl2 hHeldC.2.1, keepB0 hbq1 hbl2 hHeldC.2.2⟩) (fun hHeldC4 => ?_)
          clear hK K hHeldC
          (try simp only [Act.put, List.setIfInBounds_toArray, List.set_cons_zero, List.set_cons_succ])
          refine take_named23 (i := 5) (d := 29) (v := ?vC5) rfl (by kernel_rfl) (by kernel_rfl) (by kernel_rfl) (by kernel_rfl) (fun _ _ _ h => h) (Or.inl ⟨by kernel_rfl, ?yC5⟩) (by assumption) ?_
          case yC5 => intro wq hSw; (try dsimp only at hSw); go_simp; (try with_reducible rfl)
          (try simp only [Act.put, List.setIfInBounds_toArray, List.set_cons_zero, List.set_cons_succ])
          refine take_named23 (i := 6) (d := 30) (v := ?vC6) rfl (by kernel_rfl) (by kernel_rfl) (by kernel_rfl) (by kernel_rfl) (fun _ _ _ h => h) (Or.inl ⟨by kernel_rfl, ?yC6⟩) (by assumption) ?_
          case yC6 => intro wq hSw; (try dsimp only at hSw); go_simp; (try with_reducible rfl)
          (try simp only [Act.put, List.setIfInBounds_toArray, List.set_cons_zero, List.set_cons_succ])
          refine take_named23 (i := 7) (d := 31) (v := ?vC7) rfl (by kernel_rfl) (by kernel_rfl) (by kernel_rfl) (by kernel_rfl) (fun _ _ _ h => h) (Or.inl ⟨by kernel_rfl, ?yC7⟩) (by assumption) ?_
          case yC7 => intro wq hSw; (try dsimp only at hSw); go_simp; (try with_reducible rfl)
          (try simp only [Act.put, List.setIfInBounds_toArray, List.set_cons_zero, List.set_cons_succ])
          refine take_named23 (i := 8) (d := 32) (v := ?vC8) rfl (by kernel_rfl) (by kernel_rfl) (by kernel_rfl) (by kernel_rfl) (fun _ _ _ h => h) (Or.inl ⟨by kernel_rfl, ?yC8⟩) (by assumption) ?_
          case yC8 => intro wq hSw; (try dsimp only at hSw); go_simp; (try with_reducible rfl)
          (try simp only [Act.put, List.setIfInBounds_toArray, List.set_cons_zero, List.set_cons_succ])
          refine take_named23 (i := 9) (d := 33) (v := ?vC9) rfl (by kernel_rfl) (by kernel_rfl) (by kernel_rfl) (by kernel_rfl) (fun _ _ _ h => h) (Or.inl ⟨by kernel_rfl, ?yC9⟩) (by assumption) ?_
          case yC9 => intro wq hSw; (try dsimp only at hSw); go_simp; (try with_reducible rfl)
          (try simp only [Act.put, List.setIfInBounds_toArray, List.set_cons_zero, List.set_cons_succ])
          refine take_named23 (i := 10) (d := 34) (v := ?vC10) rfl (by kernel_rfl) (by kernel_rfl) (by kernel_rfl) (by kernel_rfl) (fun _ _ _ h => h) (Or.inl ⟨by kernel_rfl, ?yC10⟩) (by assumption) ?_
          case yC10 => intro wq hSw; (try dsimp only at hSw); go_simp; (try with_reducible rfl)
          (try simp only [Act.put, List.setIfInBounds_toArray, List.set_cons_zero, List.set_cons_succ])
          refine take_named23 (i := 11) (d := 35) (v := ?vC11) rfl (by kernel_rfl) (by kernel_rfl) (by kernel_rfl) (by kernel_rfl) (fun _ _ _ h => h) (Or.inl ⟨by kernel_rfl, ?yC11⟩) (by assumption) ?_
          case yC11 => intro wq hSw; (try dsimp only at hSw); go_simp; (try with_reducible rfl)
          (try simp only [Act.put, List.setIfInBounds_toArray, List.set_cons_zero, List.set_cons_succ])
          refine take_named23 (i := 12) (d := 36) (v := ?vC12) rfl (by kernel_rfl) (by kernel_rfl) (by kernel_rfl) (by kernel_rfl) (fun _ _ _ h => h) (Or.inl ⟨by kernel_rfl, ?yC12⟩) (by assumption) ?_
          case yC12 => intro wq hSw; (try dsimp only at hSw); go_simp; (try with_reducible rfl)
          (try simp only [Act.put, List.setIfInBounds_toArray, List.set_cons_zero, List.set_cons_succ])
          refine take_named23 (i := 13) (d := 37) (v := ?vC13) rfl (by kernel_rfl) (by kernel_rfl) (by kernel_rfl) (by kernel_rfl) (fun _ _ _ h => h) (Or.inl ⟨by kernel_rfl, ?yC13⟩) (by assumption) ?_
          case yC13 => intro wq hSw; (try dsimp only at hSw); go_simp; (try with_reducible rfl)
          (try simp only [Act.put, List.setIfInBounds_toArray, List.set_cons_zero, List.set_cons_succ])
          refine take_named23 (i := 14) (d := 38) (v := ?vC14) rfl (by kernel_rfl) (by kernel_rfl) (by kernel_rfl) (by kernel_rfl) (fun _ _ _ h => h) (Or.inl ⟨by kernel_rfl, ?yC14⟩) (by assumption) ?_
          case yC14 => intro wq hSw; (try dsimp only at hSw); go_simp; (try with_reducible rfl)
          (try simp only [Act.put, List.setIfInBounds_toArray, List.set_cons_zero, List.set_cons_succ])
          refine take_named23 (i := 15) (d := 39) (v := ?vC15) rfl (by kernel_rfl) (by kernel_rfl) (by kernel_rfl) (by kernel_rfl) (fun _ _ _ h => h) (Or.inl ⟨by kernel_rfl, ?yC15⟩) (by assumption) ?_
          case yC15 => intro wq hSw; (try dsimp only at hSw); go_simp; (try with_reducible rfl)
          (try simp only [Act.put, List.setIfInBounds_toArray, List.set_cons_zero, List.set_cons_succ])
          refine take_named23 (i := 16) (d := 40) (v := ?vC16) rfl (by kernel_rfl) (by kernel_rfl) (by kernel_rfl) (by kernel_rfl) (fun _ _ _ h => h) (Or.inl ⟨by kernel_rfl, ?yC16⟩) (by assumption) ?_
          case yC16 => intro wq hSw; (try dsimp only at hSw); go_simp; (try with_reducible rfl)
          (try simp only [Act.put, List.setIfInBounds_toArray, List.set_cons_zero, List.set_cons_succ])
          refine take_named23 (i := 17) (d := 41) (v := ?vC17) rfl (by kernel_rfl) (by kernel_rfl) (by kernel_rfl) (by kernel_rfl) (fun _ _ _ h => h) (Or.inl ⟨by kernel_rfl, ?yC17⟩) (by assumption) ?_
          case yC17 => intro wq hSw; (try dsimp only at hSw); go_simp; (try with_reducible rfl)
          (try simp only [Act.put, List.setIfInBounds_toArray, List.set_cons_zero, List.set_cons_succ])
          refine take_named23 (i := 18) (d := 42) (v := ?vC18) rfl (by kernel_rfl) (by kernel_rfl) (by kernel_rfl) (by kernel_rfl) (fun _ _ _ h => h) (Or.inl ⟨by kernel_rfl, ?yC18⟩) (by assumption) ?_
          case yC18 => intro wq hSw; (try dsimp only at hSw); go_simp; (try with_reducible rfl)
          (try simp only [Act.put, List.setIfInBounds_toArray, List.set_cons_zero, List.set_cons_succ])
          refine wpAnyH_done (by kernel_rfl) ?_ _
          clear hHeldC4
          have HB1 := Lib.hid (below_via HB.out.drew hbq1)
          have K81 := Lib.hid (blk_below (w := wr.drew) HK8.out hbq1 (blk_lt HK8.out))
          have HR3 := Lib.hid (range_below (w := wr.drew) HR2.out hbq1 hbl2)
          have HR4 := Lib.hid (range_below HRA.out HB1.out hba0)
          have hbl3 : ba < wq1.heap.size := Nat.lt_of_lt_of_le hbl2 hbq1.size
          clear HR2 HB HK8 hS0 hbq1
          by_cases hka : k = at0
          · subst hka
            go_wp2
            go_roundw
            case rel => exact ⟨k + 1, by omega, by go_num, by rw [HSf.out], by rw [HCt.out]; go_num, HB1, K81⟩
            case measure => simp [intOf]; omega
          · have c5 : ((k : Int) == (at0 : Int)) = false := beq_eq_false_iff_ne.2 (by omega)
            have HM1 := Lib.hid (HM1.out hka)
            go_wp2_with (refine wpList_load_ent rfl 51 (.tmp 51) rfl ba (oa + at0 * 33) rfl ea.C _ HR4.out Tryz.underlying51 rfl HIa.out ?_)
            refine (HSa.out _).mono ?_
            rintro ee w2 ⟨v1, v2, rfl, o1, o2, -, hb2⟩
            have HB2 := Lib.hid (below_via HB1.out hb2)
            have K82 := Lib.hid (blk_below K81.out hb2 (blk_lt K81.out))
            have HR5 := Lib.hid (range_below HR3.out hb2 hbl3)
            clear HB1 K81 HR3 HR4 hb2
            go_wp2_with (refine wpList_load_ent rfl 51 (.tmp 61) rfl ba (oa + k * 33) rfl C _ HR5.out Tryz.underlying51 rfl hI.out ?_)
            refine (HSi2.out _).mono ?_
            rintro ee w3 ⟨v3, v4, rfl, o3, o4, -, hb3⟩
            have HB3 := Lib.hid (below_via HB2.out hb3)
            have K83 := Lib.hid (blk_below K82.out hb3 (blk_lt K82.out))
            have o1 := own_below o1 hb3 (Nat.le_refl _)
            have o2 := own_below o2 hb3 (Nat.le_refl _)
            rw [← wp_len23 _ vul] at o1 o3
            rw [← neg_len23 _ vul] at o2 o4
            rcases Hs01.out with h0 | h0
            · have r1 : ∀ e : Ent, resE vul s e = wPts (sideA e.k e.o) vul := fun e => by rw [h0]; rfl
              have cs : ((s : Int) == 0) = true := by rw [h0]; rfl
              rw [← r1] at o1 o3
              obtain ⟨A1, c1', rfl⟩ := own_form o1
              obtain ⟨A2, c2', rfl⟩ := own_form o2
              obtain ⟨A3, c3', rfl⟩ := own_form o3
              obtain ⟨A4, c4', rfl⟩ := own_form o4
              have HG1 := Lib.hid (gets_any (resE vul s ea) (resE vul s L[k]) A1 A3 c1' c3' w3 (Rd.of_own o1) (Rd.of_own o3) (HRa.out s) (HRi2.out s))
              have hw2 := IntWalk.i64_in (mT L vul s at0 k + gAB (resE vul s ea) (resE vul s L[k])) (by have := gAB_range _ _ (HRa.out s) (HRi2.out s); omega)
              clear o1 o2 o3 o4 HSi2 HSa h0 r1
              generalize gAB (resE vul s ea) (resE vul s L[k]) = gv at *
              generalize (resE vul s ea).length = n1 at *
              generalize (resE vul s L[k]).length = n2 at *
              go_wp2_with fail
              refine HG1.out.mono ?_
              rintro ee w4 ⟨rfl, nq, rfl⟩
              go_wp2
              go_roundw
              case rel => exact ⟨k + 1, by omega, by go_num, by rw [HM1.out], by rw [HCt.out]; go_num, Lib.hid (below_drewN HB3.out nq), Lib.hid (show (w3.drewN nq).heap[w.heap.size]? = _ from K83.out)⟩
              case measure => simp [intOf]; omega
            · have r1 : ∀ e : Ent, resE vul s e = negP (wPts (sideB e.k e.o) vul) := fun e => by rw [h0]; rfl
              have cs : ((s : Int) == 0) = false := by rw [h0]; rfl
              rw [← r1] at o2 o4
              obtain ⟨A1, c1', rfl⟩ := own_form o1
              obtain ⟨A2, c2', rfl⟩ := own_form o2
              obtain ⟨A3, c3', rfl⟩ := own_form o3
              obtain ⟨A4, c4', rfl⟩ := own_form o4
              have HG1 := Lib.hid (gets_any (resE vul s ea) (resE vul s L[k]) A2 A4 c2' c4' w3 (Rd.of_own o2) (Rd.of_own o4) (HRa.out s) (HRi2.out s))
              have hw2 := IntWalk.i64_in (mT L vul s at0 k + gAB (resE vul s ea) (resE vul s L[k])) (by have := gAB_range _ _ (HRa.out s) (HRi2.out s); omega)
              clear o1 o2 o3 o4 HSi2 HSa h0 r1
              generalize gAB (resE vul s ea) (resE vul s L[k]) = gv at *
              generalize (resE vul s ea).length = n1 at *
              generalize (resE vul s L[k]).length = n2 at *
              go_wp2_with fail
              refine HG1.out.mono ?_
              rintro ee w4 ⟨rfl, nq, rfl⟩
              go_wp2
              go_roundw
              case rel => exact ⟨k + 1, by omega, by go_num, by rw [HM1.out], by rw [HCt.out]; go_num, Lib.hid (below_drewN HB3.out nq), Lib.hid (show (w3.drewN nq).heap[w.heap.size]? = _ from K83.out)⟩
              case measure => simp [intOf]; omega
        · have hsel : selE ea.f L[k] = false := by rw [HSel.out, decide_eq_false hff]; rfl
          have t0 : (fi != ea.f) = true := by simp [hff]
          have HM := Lib.hid (HNo1.out hsel)
          have HCt := Lib.hid (HCnt1.out)
          have HCt2 := Lib.hid (show cntE L (k + 1) ea.f = cntE L k ea.f by rw [HCt.out, if_neg (by rw [hsel]; decide)]; rfl)
          clear HSel HNo1 HOt1 HCnt1 HCt hsel hff
          go_upto_region 5 with fail
          refine wp_region_held_drew (S := (fun wq => wq.rangeAt ba (oa + k * 33) C.toList ∧ wq.cell? ⟨ba, oa + k * 33 + 5, none⟩ = some (.int .u8 fi) ∧ wq.cell? ⟨ba, oa + at0 * 33 + 5, none⟩ = some (.int .u8 ea.f))) (by kernel_rfl) hS0 (fun hHeldB => ?_)
          refine take_named23 (i := 0) (d := 24) (v := ?vB0) rfl (by kernel_rfl) (by kernel_rfl) (by kernel_rfl) (by kernel_rfl) (fun _ _ _ h => h) (Or.inl ⟨by kernel_rfl, ?yB0⟩) (by assumption) ?_
          case yB0 => intro wq hSw; (try dsimp only at hSw); go_simp; (try with_reducible rfl)
          (try simp only [Act.put, List.setIfInBounds_toArray, List.set_cons_zero, List.set_cons_succ])
          refine take_named23 (i := 1) (d := 25) (v := ?vB1) rfl (by kernel_rfl) (by kernel_rfl) (by kernel_rfl) (by kernel_rfl) (fun _ _ _ h => h) (Or.inl ⟨by kernel_rfl, ?yB1⟩) (by assumption) ?_
          case yB1 => intro wq hSw; (try dsimp only at hSw); go_simp; (try with_reducible rfl)
          (try simp only [Act.put, List.setIfInBounds_toArray, List.set_cons_zero, List.set_cons_succ])
          refine take_named23 (i := 2) (d := 26) (v := ?vB2) rfl (by kernel_rfl) (by kernel_rfl) (by kernel_rfl) (by kernel_rfl) (fun _ _ _ h => h) (Or.inl ⟨by kernel_rfl, ?yB2⟩) (by assumption) ?_
          case yB2 => intro wq hSw; (try dsimp only at hSw); go_simp; (try with_reducible rfl)
          (try simp only [Act.put, List.setIfInBounds_toArray, List.set_cons_zero, List.set_cons_succ])
          refine take_named23 (i := 3) (d := 27) (v := .agg (C.toList).toArray) rfl (by kernel_rfl) (by kernel_rfl) (by kernel_rfl) (by kernel_rfl) (fun _ _ _ h => h) (yieldsIf_load_mid (by kernel_rfl) 51 (.tmp 26) rfl ba (oa + k * 33) rfl (C.toList) _ (fun w h => h.1) Tryz.underlying51 rfl hI.out) (by assumption) ?_
          (try simp only [Act.put, List.setIfInBounds_toArray, List.set_cons_zero, List.set_cons_succ])
          (try simp only [Array.toArray_toList])
          refine wpAnyH_ready (rs := [4]) (by kernel_rfl) (by simp) ?_
          refine AllReadyH.cons rfl (fun K hK => ?_) AllReadyH.nil
          go_simp
          refine (HCo.out _).mono ?_
          rintro ee wq1 ⟨rfl, hbq1⟩
          refine hK.out _ _ (⟨range_below hHeldB.1 hbq1 hbl2, keepB0 hbq1 hbl2 hHeldB.2.1, keepB0 hbq1 hbl2 hHeldB.2.2⟩) (fun hHeldB4 => ?_)
          clear hK K hHeldB
          (try simp only [Act.put, List.setIfInBounds_toArray, List.set_cons_zero, List.set_cons_succ])
          refine take_named23 (i := 5) (d := 29) (v := ?vB5) rfl (by kernel_rfl) (by kernel_rfl) (by kernel_rfl) (by kernel_rfl) (fun _ _ _ h => h) (Or.inl ⟨by kernel_rfl, ?yB5⟩) (by assumption) ?_
          case yB5 => intro wq hSw; (try dsimp only at hSw); go_simp; (try with_reducible rfl)
          (try simp only [Act.put, List.setIfInBounds_toArray, List.set_cons_zero, List.set_cons_succ])
          refine take_named23 (i := 6) (d := 30) (v := ?vB6) rfl (by kernel_rfl) (by kernel_rfl) (by kernel_rfl) (by kernel_rfl) (fun _ _ _ h => h) (Or.inl ⟨by kernel_rfl, ?yB6⟩) (by assumption) ?_
          case yB6 => intro wq hSw; (try dsimp only at hSw); go_simp; (try with_reducible rfl)
          (try simp only [Act.put, List.setIfInBounds_toArray, List.set_cons_zero, List.set_cons_succ])
          refine take_named23 (i := 7) (d := 31) (v := ?vB7) rfl (by kernel_rfl) (by kernel_rfl) (by kernel_rfl) (by kernel_rfl) (fun _ _ _ h => h) (Or.inl ⟨by kernel_rfl, ?yB7⟩) (by assumption) ?_
          case yB7 => intro wq hSw; (try dsimp only at hSw); go_simp; (try with_reducible rfl)
          (try simp only [Act.put, List.setIfInBounds_toArray, List.set_cons_zero, List.set_cons_succ])
          refine take_named23 (i := 8) (d := 32) (v := ?vB8) rfl (by kernel_rfl) (by kernel_rfl) (by kernel_rfl) (by kernel_rfl) (fun _ _ _ h => h) (Or.inl ⟨by kernel_rfl, ?yB8⟩) (by assumption) ?_
          case yB8 => intro wq hSw; (try dsimp only at hSw); go_simp; (try with_reducible rfl)
          (try simp only [Act.put, List.setIfInBounds_toArray, List.set_cons_zero, List.set_cons_succ])
          refine take_named23 (i := 9) (d := 33) (v := ?vB9) rfl (by kernel_rfl) (by kernel_rfl) (by kernel_rfl) (by kernel_rfl) (fun _ _ _ h => h) (Or.inl ⟨by kernel_rfl, ?yB9⟩) (by assumption) ?_
          case yB9 => intro wq hSw; (try dsimp only at hSw); go_simp; (try with_reducible rfl)
          (try simp only [Act.put, List.setIfInBounds_toArray, List.set_cons_zero, List.set_cons_succ])
          refine take_named23 (i := 10) (d := 34) (v := ?vB10) rfl (by kernel_rfl) (by kernel_rfl) (by kernel_rfl) (by kernel_rfl) (fun _ _ _ h => h) (Or.inl ⟨by kernel_rfl, ?yB10⟩) (by assumption) ?_
          case yB10 => intro wq hSw; (try dsimp only at hSw); go_simp; (try with_reducible rfl)
          (try simp only [Act.put, List.setIfInBounds_toArray, List.set_cons_zero, List.set_cons_succ])
          refine take_named23 (i := 11) (d := 35) (v := ?vB11) rfl (by kernel_rfl) (by kernel_rfl) (by kernel_rfl) (by kernel_rfl) (fun _ _ _ h => h) (Or.inl ⟨by kernel_rfl, ?yB11⟩) (by assumption) ?_
          case yB11 => intro wq hSw; (try dsimp only at hSw); go_simp; (try with_reducible rfl)
          (try simp only [Act.put, List.setIfInBounds_toArray, List.set_cons_zero, List.set_cons_succ])
          refine take_named23 (i := 12) (d := 36) (v := ?vB12) rfl (by kernel_rfl) (by kernel_rfl) (by kernel_rfl) (by kernel_rfl) (fun _ _ _ h => h) (Or.inl ⟨by kernel_rfl, ?yB12⟩) (by assumption) ?_
          case yB12 => intro wq hSw; (try dsimp only at hSw); go_simp; (try with_reducible rfl)
          (try simp only [Act.put, List.setIfInBounds_toArray, List.set_cons_zero, List.set_cons_succ])
          refine take_named23 (i := 13) (d := 37) (v := ?vB13) rfl (by kernel_rfl) (by kernel_rfl) (by kernel_rfl) (by kernel_rfl) (fun _ _ _ h => h) (Or.inl ⟨by kernel_rfl, ?yB13⟩) (by assumption) ?_
          case yB13 => intro wq hSw; (try dsimp only at hSw); go_simp; (try with_reducible rfl)
          (try simp only [Act.put, List.setIfInBounds_toArray, List.set_cons_zero, List.set_cons_succ])
          refine take_named23 (i := 14) (d := 38) (v := ?vB14) rfl (by kernel_rfl) (by kernel_rfl) (by kernel_rfl) (by kernel_rfl) (fun _ _ _ h => h) (Or.inl ⟨by kernel_rfl, ?yB14⟩) (by assumption) ?_
          case yB14 => intro wq hSw; (try dsimp only at hSw); go_simp; (try with_reducible rfl)
          (try simp only [Act.put, List.setIfInBounds_toArray, List.set_cons_zero, List.set_cons_succ])
          refine take_named23 (i := 15) (d := 39) (v := ?vB15) rfl (by kernel_rfl) (by kernel_rfl) (by kernel_rfl) (by kernel_rfl) (fun _ _ _ h => h) (Or.inl ⟨by kernel_rfl, ?yB15⟩) (by assumption) ?_
          case yB15 => intro wq hSw; (try dsimp only at hSw); go_simp; (try with_reducible rfl)
          (try simp only [Act.put, List.setIfInBounds_toArray, List.set_cons_zero, List.set_cons_succ])
          refine take_named23 (i := 16) (d := 40) (v := ?vB16) rfl (by kernel_rfl) (by kernel_rfl) (by kernel_rfl) (by kernel_rfl) (fun _ _ _ h => h) (Or.inl ⟨by kernel_rfl, ?yB16⟩) (by assumption) ?_
          case yB16 => intro wq hSw; (try dsimp only at hSw); go_simp; (try with_reducible rfl)
          (try simp only [Act.put, List.setIfInBounds_toArray, List.set_cons_zero, List.set_cons_succ])
          refine take_named23 (i := 17) (d := 41) (v := ?vB17) rfl (by kernel_rfl) (by kernel_rfl) (by kernel_rfl) (by kernel_rfl) (fun _ _ _ h => h) (Or.inl ⟨by kernel_rfl, ?yB17⟩) (by assumption) ?_
          case yB17 => intro wq hSw; (try dsimp only at hSw); go_simp; (try with_reducible rfl)
          (try simp only [Act.put, List.setIfInBounds_toArray, List.set_cons_zero, List.set_cons_succ])
          refine take_named23 (i := 18) (d := 42) (v := ?vB18) rfl (by kernel_rfl) (by kernel_rfl) (by kernel_rfl) (by kernel_rfl) (fun _ _ _ h => h) (Or.inl ⟨by kernel_rfl, ?yB18⟩) (by assumption) ?_
          case yB18 => intro wq hSw; (try dsimp only at hSw); go_simp; (try with_reducible rfl)
          (try simp only [Act.put, List.setIfInBounds_toArray, List.set_cons_zero, List.set_cons_succ])
          refine wpAnyH_done (by kernel_rfl) ?_ _
          clear hHeldB4
          go_wp2
          go_roundw
          case rel => exact ⟨k + 1, by omega, by go_num, by rw [HM.out], by rw [HCt2.out], Lib.hid (below_via HB.out.drew hbq1), Lib.hid (blk_below (w := wr.drew) HK8.out hbq1 (blk_lt HK8.out))⟩
          case measure => simp [intOf]; omega
    · obtain rfl : k = L.length := by omega
      rw [HCna.out]
      have hpos := HPos.out
      have hnv := HNv.out
      have hn24 : inField L ea.f ≤ 24 := by rw [← HCna.out]; omega
      have HN2 := Lib.hid (HN.out wr (HA.out.go HB.out))
      have hmb := mulB (x := (notVoid L : Int)) (y := mT L vul s at0 L.length + 10000) (X := 24) (Y := 500000) (by omega) (by omega)
      have HG2 := Lib.hid HG.out
      clear hlt hcl HG
      generalize mT L vul s at0 L.length = m at *
      generalize notVoid L = nv at *
      generalize inField L ea.f = n at *
      have i1 := IntWalk.i64_in (m + 10000) (by omega)
      have i2 := IntWalk.i64_in ((nv : Int) * (m + 10000)) (by omega)
      have i3 := IntWalk.i64_in (10000 * (n : Int)) (by omega)
      have i4 := IntWalk.i64_in ((nv : Int) * (m + 10000) - 10000 * (n : Int)) (by omega)
      have HRe := Lib.hid (fun W => reduced_any ((nv : Int) * (m + 10000) - 10000 * (n : Int)) (10000 * (n : Int)) W (by omega) (by omega))
      rw [HG2.out] at HRe
      have K8 := Lib.hid HK8.out
      obtain ⟨x, y⟩ := V
      unfold fV at HRe
      dsimp only at HRe
      clear HG2 HK8
      go_wp2_with fail
      refine HN2.out.mono ?_
      rintro ee w2 ⟨rfl, hb2⟩
      have HB2 := Lib.hid (below_via HB.out hb2)
      have K82 := Lib.hid (blk_below K8.out hb2 (blk_lt K8.out))
      clear hb2 HN2 HB K8
      go_wp2_with fail
      refine (HRe.out _).mono ?_
      rintro ee w3 ⟨rfl, hb3⟩
      have HB3 := Lib.hid (below_via HB2.out hb3)
      have K83 := Lib.hid (blk_below K82.out hb3 (blk_lt K82.out))
      have a0 := blk_cell K83.out 0
      have a1 := blk_cell K83.out 1
      have f0 := blk_free K83.out 0
      have f1 := blk_free K83.out 1
      clear hb3 HRe HB2 K82
      go_wp2
      have kz := blk_set (blk_set K83.out 0 (.int .i64 x)) 1 (.int .i64 y)
      have z0 := blk_cell kz 0
      have z1 := blk_cell kz 1
      exact bodyPost_ret (v := .agg #[.int .i64 x, .int .i64 y]) (by simp [results, Tryz.results22, go_sem, z0, z1]) rfl ⟨rfl, (HB3.out.setCell (p := ⟨w.heap.size, 0, none⟩) (Nat.le_refl _) _).setCell (p := ⟨w.heap.size, 1, none⟩) (Nat.le_refl _) _⟩

/-! ### The walk of finesseref23.Board. -/
/-! ### Lines that are filled in -/
def LN (C : Array Value) (n : Nat) (X : Nat → Ln) : Prop := C.size = n * 5 ∧ ∀ i, i < n → C[i * 5]? = some (.int .i64 (X i).1.1) ∧ C[i * 5 + 1]? = some (.int .i64 (X i).1.2) ∧ C[i * 5 + 2]? = some (.int .i64 (X i).2.1.1) ∧ C[i * 5 + 3]? = some (.int .i64 (X i).2.1.2) ∧ C[i * 5 + 4]? = some (.bool (X i).2.2)
theorem LN.congr {C : Array Value} {n : Nat} {X Y : Nat → Ln} (h : LN C n X) (e : ∀ i, i < n → X i = Y i) : LN C n Y :=
  ⟨h.1, fun i hi => by rw [← e i hi]; exact h.2 i hi⟩
def updL (X : Nat → Ln) (i : Nat) (l : Ln) : Nat → Ln := fun j => if j = i then l else X j
theorem updL_self (X : Nat → Ln) (i : Nat) (l : Ln) : updL X i l i = l := if_pos rfl
theorem LN.setB {C : Array Value} {n : Nat} {X : Nat → Ln} (h : LN C n X) (i : Nat) (hi : i < n) (b : Bool) : LN (C.setIfInBounds (i * 5 + 4) (.bool b)) n (updL X i ((X i).1, (X i).2.1, b)) := by
  obtain ⟨h1, h2⟩ := h
  refine ⟨by simp [h1], fun j hj => ?_⟩
  obtain ⟨e0, e1, e2, e3, e4⟩ := h2 j hj
  unfold updL
  by_cases e : j = i
  · subst e
    rw [if_pos rfl]
    refine ⟨?_, ?_, ?_, ?_, ?_⟩
    · rw [Array.getElem?_setIfInBounds_ne (by omega)]; exact e0
    · rw [Array.getElem?_setIfInBounds_ne (by omega)]; exact e1
    · rw [Array.getElem?_setIfInBounds_ne (by omega)]; exact e2
    · rw [Array.getElem?_setIfInBounds_ne (by omega)]; exact e3
    · rw [Array.getElem?_setIfInBounds_self_of_lt (by omega)]
  · rw [if_neg e]
    refine ⟨?_, ?_, ?_, ?_, ?_⟩
    · rw [Array.getElem?_setIfInBounds_ne (by omega)]; exact e0
    · rw [Array.getElem?_setIfInBounds_ne (by omega)]; exact e1
    · rw [Array.getElem?_setIfInBounds_ne (by omega)]; exact e2
    · rw [Array.getElem?_setIfInBounds_ne (by omega)]; exact e3
    · rw [Array.getElem?_setIfInBounds_ne (by omega)]; exact e4
theorem LN.set4 {C : Array Value} {n : Nat} {X : Nat → Ln} (h : LN C n X) (i : Nat) (hi : i < n) (p0 p1 q0 q1 : Int) :
    LN ((((C.setIfInBounds (i * 5) (.int .i64 p0)).setIfInBounds (i * 5 + 1) (.int .i64 p1)).setIfInBounds (i * 5 + 2) (.int .i64 q0)).setIfInBounds (i * 5 + 3) (.int .i64 q1)) n (updL X i ((p0, p1), (q0, q1), (X i).2.2)) := by
  obtain ⟨h1, h2⟩ := h
  refine ⟨by simp [h1], fun j hj => ?_⟩
  obtain ⟨e0, e1, e2, e3, e4⟩ := h2 j hj
  have ne : ∀ (a b : Nat) (v : Value) (D : Array Value), a ≠ b → (D.setIfInBounds a v)[b]? = D[b]? := fun a b v D hab => Array.getElem?_setIfInBounds_ne hab
  have yes : ∀ (a : Nat) (v : Value) (D : Array Value), a < D.size → (D.setIfInBounds a v)[a]? = some v := fun a v D ha => Array.getElem?_setIfInBounds_self_of_lt ha
  unfold updL
  by_cases e : j = i
  · subst e
    rw [if_pos rfl]
    refine ⟨?_, ?_, ?_, ?_, ?_⟩
    · rw [ne _ _ _ _ (by omega), ne _ _ _ _ (by omega), ne _ _ _ _ (by omega), yes _ _ _ (by omega)]
    · rw [ne _ _ _ _ (by omega), ne _ _ _ _ (by omega), yes _ _ _ (by simp; omega)]
    · rw [ne _ _ _ _ (by omega), yes _ _ _ (by simp; omega)]
    · rw [yes _ _ _ (by simp; omega)]
    · rw [ne _ _ _ _ (by omega), ne _ _ _ _ (by omega), ne _ _ _ _ (by omega), ne _ _ _ _ (by omega)]; exact e4
  · rw [if_neg e]
    refine ⟨?_, ?_, ?_, ?_, ?_⟩
    · rw [ne _ _ _ _ (by omega), ne _ _ _ _ (by omega), ne _ _ _ _ (by omega), ne _ _ _ _ (by omega)]; exact e0
    · rw [ne _ _ _ _ (by omega), ne _ _ _ _ (by omega), ne _ _ _ _ (by omega), ne _ _ _ _ (by omega)]; exact e1
    · rw [ne _ _ _ _ (by omega), ne _ _ _ _ (by omega), ne _ _ _ _ (by omega), ne _ _ _ _ (by omega)]; exact e2
    · rw [ne _ _ _ _ (by omega), ne _ _ _ _ (by omega), ne _ _ _ _ (by omega), ne _ _ _ _ (by omega)]; exact e3
    · rw [ne _ _ _ _ (by omega), ne _ _ _ _ (by omega), ne _ _ _ _ (by omega), ne _ _ _ _ (by omega)]; exact e4
def zeroL : Ln := ((0, 0), (0, 0), false)
/-- The lines of the first entries. -/
def lnTo (L : List Ent) (vul : Int) (k i : Nat) : Ln := if i < k then lineE L vul i else zeroL
theorem lnTo_zero (L : List Ent) (vul : Int) (i : Nat) : lnTo L vul 0 i = zeroL := if_neg (by omega)
theorem lnTo_at (L : List Ent) (vul : Int) (k : Nat) : lnTo L vul k k = zeroL := if_neg (by omega)
theorem lnTo_succ (L : List Ent) (vul : Int) (k i : Nat) : lnTo L vul (k + 1) i = updL (lnTo L vul k) k (lineE L vul k) i := by
  unfold lnTo updL
  by_cases e : i = k
  · subst e; rw [if_pos (by omega), if_pos rfl]
  · rw [if_neg e]
    show _ = if i < k then lineE L vul i else zeroL
    by_cases e2 : i < k
    · rw [if_pos e2, if_pos (by omega)]
    · rw [if_neg e2, if_neg (by omega)]
theorem LN.all {C : Array Value} {L : List Ent} {vul : Int} (h : LN C L.length (lnTo L vul L.length)) : C.toList = lnC (boardTo L vul L.length) := by
  apply List.ext_getElem?
  intro j
  have hl : (lnC (boardTo L vul L.length)).length = L.length * 5 := by rw [lnC_len, boardTo_len]
  by_cases hj : j < L.length * 5
  · obtain ⟨i, r, hr, rfl⟩ : ∃ i r, r < 5 ∧ j = i * 5 + r := ⟨j / 5, j % 5, Nat.mod_lt _ (by decide), by omega⟩
    have hi : i < L.length := by omega
    obtain ⟨e0, e1, e2, e3, e4⟩ := h.2 i hi
    have ex : lnTo L vul L.length i = lineE L vul i := if_pos hi
    obtain ⟨d0, d1, d2, d3, d4⟩ := lnC_get (boardTo L vul L.length) i (by rw [boardTo_len]; exact hi)
    rw [boardTo_get L vul L.length i hi] at d0 d1 d2 d3 d4
    rw [ex] at e0 e1 e2 e3 e4
    rw [Array.getElem?_toList]
    rcases (show r = 0 ∨ r = 1 ∨ r = 2 ∨ r = 3 ∨ r = 4 by omega) with rfl | rfl | rfl | rfl | rfl
    · exact e0.trans d0.symm
    · exact e1.trans d1.symm
    · exact e2.trans d2.symm
    · exact e3.trans d3.symm
    · exact e4.trans d4.symm
  · rw [List.getElem?_eq_none (by rw [Array.length_toList, h.1]; omega), List.getElem?_eq_none (by rw [hl]; omega)]

theorem info_lineR : (Tryz.prog.info? 40).map (fun i => (i.zero, i.size, i.bytes)) = some (some (.agg #[.int .i64 0, .int .i64 0, .int .i64 0, .int .i64 0, .bool false]), 5, 40) := by kernel_rfl
theorem lineZ_ln (n : Nat) : LN (lineZ n) n (fun _ => zeroL) := by
  refine ⟨lineZ_size n, fun i hi => ?_⟩
  have hm : ∀ r, r < 5 → i * 5 + r < (lineZ n).size := fun r hr => by rw [lineZ_size]; omega
  have m0 : i * 5 % 5 = 0 := by omega
  have m1 : (i * 5 + 1) % 5 = 1 := by omega
  have m2 : (i * 5 + 2) % 5 = 2 := by omega
  have m3 : (i * 5 + 3) % 5 = 3 := by omega
  have m4 : (i * 5 + 4) % 5 = 4 := by omega
  refine ⟨?_, ?_, ?_, ?_, ?_⟩
  · rw [Array.getElem?_eq_getElem (show i * 5 < (lineZ n).size from hm 0 (by omega))]; simp [lineZ, madeCells, zeroL, m0]
  · rw [Array.getElem?_eq_getElem (hm 1 (by omega))]; simp [lineZ, madeCells, zeroL, m1]
  · rw [Array.getElem?_eq_getElem (hm 2 (by omega))]; simp [lineZ, madeCells, zeroL, m2]
  · rw [Array.getElem?_eq_getElem (hm 3 (by omega))]; simp [lineZ, madeCells, zeroL, m3]
  · rw [Array.getElem?_eq_getElem (hm 4 (by omega))]; simp [lineZ, madeCells, zeroL, m4]
theorem make_linesR (W : World) (n : Nat) (hn : n ≤ 65536) : (Instr.makeSlice 29 (.int .i64 (n : Int)) (.int .i64 (n : Int))).run Tryz.prog W = .ok (.slice (some ⟨W.heap.size, 0, none⟩) n n) (W.alloc (.cells (lineZ n) 40)) := by
  obtain ⟨i0, hi, hz0, hz1, hz2⟩ := info_parts info_lineR
  have hr := run_make (P := Tryz.prog) W 29 40 i0 _ Tryz.underlying29 hi hz0 .i64 .i64 (n : Int) (n : Int) (by omega) (by omega) (by rw [hz2]; omega) (by omega)
  rw [hr, hz1]
  rfl

/-! ### What a line is -/
theorem aw_one (p : Int) : awardF p 1 = (0, 1) := by
  rw [aw_fr]
  show fr (p * 0) 100 = _
  rw [Int.mul_zero]
  exact zero_frD 100 (by decide)
theorem line_none (L : List Ent) (V : Int) (k : Nat) (h : k < L.length) (h0 : (L[k]).k = 0) : lineE L V k = zeroL := by
  unfold lineE zeroL
  rw [XB_get L V _ k 0 h, XB_get L V _ k 1 h, if_pos h0, if_pos h0, List.getElem?_eq_getElem h]
  show (_, _, decide ((L[k]).k ≠ 0) && _) = _
  rw [h0]; rfl
theorem line_award (L : List Ent) (V : Int) (k : Nat) (h : k < L.length) (h4 : (L[k]).k = 4) : lineE L V k = (awardF (L[k]).a0 (notVoid L : Int), awardF (L[k]).a1 (notVoid L : Int), decide ((notVoid L : Int) > 1)) := by
  unfold lineE
  have h0 : (L[k]).k ≠ 0 := by omega
  rw [XB_get L V _ k 0 h, XB_get L V _ k 1 h, if_neg h0, if_neg h0, List.getElem?_eq_getElem h, if_pos h4, if_pos h4]
  show (_, _, decide ((L[k]).k ≠ 0) && _) = _
  rw [decide_eq_true h0, Bool.true_and]
  by_cases ha : (notVoid L : Int) = 1
  · rw [if_pos ha, if_pos ha, ha, aw_one, aw_one]
  · rw [if_neg ha, if_neg ha]; rfl
theorem line_cmp (L : List Ent) (hO : ∀ e ∈ L, e.Ok) (hR : ∀ e ∈ L, e.right = true) (V : Int) (hv : 0 ≤ V ∧ V ≤ 3) (k : Nat) (h : k < L.length) (hc : cmpB L[k] = true) :
    lineE L V k = (valN L (L[k]).f V (notVoid L : Int) 0 k, valN L (L[k]).f V (notVoid L : Int) 1 k, decide ((notVoid L : Int) > 1)) := by
  unfold lineE
  obtain ⟨h0, h4⟩ := of_decide_eq_true hc
  rw [XB_get L V _ k 0 h, XB_get L V _ k 1 h, if_neg h0, if_neg h0, List.getElem?_eq_getElem h, if_neg h4, if_neg h4]
  show (_, _, decide ((L[k]).k ≠ 0) && _) = _
  rw [decide_eq_true h0, Bool.true_and]
  by_cases ha : (notVoid L : Int) = 1
  · have h1 : inField L (L[k]).f = 1 := by
      have h2 := inField_le L (L[k]).f
      have h3 : 0 < inField L (L[k]).f := List.length_pos_of_mem (List.mem_filter.2 ⟨List.getElem_mem h, Bool.and_eq_true_iff.2 ⟨hc, decide_eq_true rfl⟩⟩)
      omega
    rw [if_pos ha, if_pos ha, alone_val L hO hR V hv _ k h rfl hc h1 _ 0, alone_val L hO hR V hv _ k h rfl hc h1 _ 1, ha]; rfl
  · rw [if_neg ha, if_neg ha]

set_option maxRecDepth 100000 in
set_option maxHeartbeats 2000000 in
theorem r23board_bad (L : List Ent) (A : Option Addr) (c : Nat) (vul E : Int) (w : World) (hO : ∀ e ∈ L, e.Ok) (hA : Rd w w.heap.size 33 A L.length (enL L)) (hn : L.length ≤ 1000000) (hE : (if 3 < vul then 2 else chkE L) = E) (h0 : E ≠ 0) :
    Calls Tryz.prog 7 #[.slice A L.length c, .int .u8 vul] w fun e w' => e = .returned (.tuple #[.slice none 0 0, .int .i64 E]) ∧ Below w.heap.size w w' := by
  have HC := Lib.hid (r23wrong L A c w hO hA hn)
  generalize chkE L = N at *
  have t0 : (E != 0) = true := by rw [bne_iff_ne]; exact h0
  clear hA hO
  by_cases h3 : 3 < vul
  · rw [if_pos h3] at hE
    subst hE
    have t1 : decide (3 < vul) = true := decide_eq_true h3
    go_enter Tryz.func7, Tryz.ntmps7
    go_wp2_with fail
    refine HC.out.mono ?_
    rintro ee w2 ⟨rfl, hb2⟩
    go_wp2
    go_ret2
    exact ⟨rfl, hb2⟩
  · rw [if_neg h3] at hE
    subst hE
    go_enter Tryz.func7, Tryz.ntmps7
    go_wp2_with fail
    refine HC.out.mono ?_
    rintro ee w2 ⟨rfl, hb2⟩
    go_wp2
    go_ret2
    exact ⟨rfl, hb2⟩

set_option maxRecDepth 100000 in
set_option maxHeartbeats 4000000 in
theorem r23board_ok (L : List Ent) (A : Option Addr) (c : Nat) (vul : Int) (w : World) (hO : ∀ e ∈ L, e.Ok) (hA : Rd w w.heap.size 33 A L.length (enL L)) (hn : L.length ≤ 24) (hR : ∀ e ∈ L, e.right = true) (h0 : chkE L = 0) (hv : 0 ≤ vul ∧ vul ≤ 3) :
    Calls Tryz.prog 7 #[.slice A L.length c, .int .u8 vul] w fun e w' => ∃ v, e = .returned (.tuple #[v, .int .i64 0]) ∧ w'.ownsRow w.heap.size 40 5 v L.length (lnC (boardTo L vul L.length)) ∧ Below w.heap.size w w' := by
  have HC := Lib.hid (r23wrong L A c w hO hA (by omega))
  rw [h0] at HC
  have HN := Lib.hid (fun W h1 => r23results L A c W hO h1 (by omega))
  have HG := Lib.hid (fun W h1 k s hs hk hc => r23gets L A c vul k s W hO hR h1 hn hv hs hk hc)
  have HLc := Lib.hid (fun k hk hc => line_cmp L hO hR vul hv k hk hc)
  have HA := Lib.hid hA
  have HO := Lib.hid hO
  have HR := Lib.hid hR
  have t3 : decide (3 < vul) = false := decide_eq_false (by omega)
  clear hA hO hR h0
  have HLw := Lib.hid (fun k hk h4 => line_award L vul k hk h4)
  have HLn := Lib.hid (fun k hk h4 => line_none L vul k hk h4)
  have HNv := Lib.hid (show notVoid L ≤ 24 by rw [← nvTo_all]; exact Nat.le_trans (nvTo_le L L.length) hn)
  have HN1 := Lib.hid (fun i h hk => notVoid_one L i h hk)
  have HX := Lib.hid (fun k i => lnTo_succ L vul k i)
  generalize hnv : notVoid L = nv at *
  go_enter Tryz.func7, Tryz.ntmps7
  go_wp2_with fail
  refine HC.out.mono ?_
  rintro ee w2 ⟨rfl, hb2⟩
  go_wp2_with fail
  refine (HN.out _ (HA.out.go hb2)).mono ?_
  rintro ee w3 ⟨rfl, hb3⟩
  have HB3 := Lib.hid (below_via hb2 hb3)
  clear hb2 hb3 HC HN
  have hmk := fun W => make_linesR W L.length (by omega)
  go_wp2_with fail
  obtain ⟨g, hg⟩ : ∃ g, w3.heap.size = g := ⟨_, rfl⟩
  obtain ⟨W1, hW1⟩ : ∃ V, w3.alloc (.cells (lineZ L.length) 40) = V := ⟨_, rfl⟩
  have Kg := Lib.hid (show W1.heap[g]? = some (.cells (lineZ L.length) 40 (0, 0)) by rw [← hW1]; exact blk_new _ hg.symm)
  have HB1 := Lib.hid (show Below w.heap.size w W1 by rw [← hW1]; exact HB3.out.alloc HB3.out.size _)
  have hgw : w.heap.size ≤ g := by rw [← hg]; exact HB3.out.size
  rw [hW1, hg]
  clear hmk hg hW1 HB3 hnv
  go_loopw [9] (fun i wr => ∃ (k : Nat) (C : Array Value), k ≤ L.length ∧ i = .int .i64 (k : Int) ∧ Hid (Below w.heap.size w wr) ∧ Hid (wr.heap[g]? = some (.cells C 40 (0, 0))) ∧ Hid (LN C L.length (lnTo L vul k))) (fun i _ => L.length - (intOf i).toNat)
  case atStart => exact ⟨0, lineZ L.length, Nat.zero_le _, rfl, HB1, Kg, (lineZ_ln L.length).congr (fun i _ => (lnTo_zero L vul i).symm)⟩
  case round =>
    obtain ⟨k, C, hk, rfl, HB, HK, HL⟩ := hrel
    by_cases hlt : k < L.length
    · obtain ⟨b, off, rfl, hbw, hr⟩ := rd_e (fun e he => (HO.out e he).1.1) HA.out k hlt
      have hm := List.getElem_mem hlt
      have hok := HO.out _ hm
      have HR1 := Lib.hid hr
      have hI := Lib.hid (hok.1.size)
      have q4 : wr.cell? ⟨b, off + k * 33 + 4, none⟩ = some (.int .u8 (L[k]).k) := (bcell HB.out b _ hbw).trans (hr 4 _ (by have := hok.1.2.1; simpa using this))
      have HCo := Lib.hid (fun W => r23compared _ hok W)
      rw [cmpR_eq _ (HR.out _ hm)] at HCo
      have HE := Lib.hid (fun i => HX.out k i)
      have c1 : (0 : Int) ≤ (k : Int) := by omega
      have c2 : (k : Int) < (L.length : Int) := by omega
      clear hr
      by_cases h0 : (L[k]).k = 0
      · rw [h0] at q4
        have HE2 := Lib.hid (HL.out.congr (Y := lnTo L vul (k + 1)) (fun i _ => by
          rw [HE.out i, HLn.out k hlt h0]
          unfold updL
          by_cases e : i = k
          · subst e; rw [if_pos rfl, lnTo_at]
          · rw [if_neg e]))
        clear h0 HE
        go_wp2
        go_roundw
        case rel => exact ⟨k + 1, C, hlt, by go_num, HB, HK, HE2⟩
        case measure => simp [intOf]; omega
      · have t0 : ((L[k]).k == 0) = false := beq_eq_false_iff_ne.2 h0
        have hn1 := HN1.out k hlt h0
        have hn24 := HNv.out
        have HAw : ∃ p0 p1 q0 q1 E : Int, (∀ W, Calls Tryz.prog 20 #[.agg (L[k]).C, .int .i64 (nv : Int)] W fun e w' => e = .returned (.tuple #[.agg #[.int .i64 p0, .int .i64 p1], .agg #[.int .i64 q0, .int .i64 q1], .int .i64 E]) ∧ Below W.heap.size W w') ∧
            (cmpB L[k] = false → lineE L vul k = ((p0, p1), (q0, q1), decide ((nv : Int) > 1))) := by
          by_cases h4 : (L[k]).k = 4
          · have hright : rightE 4 (L[k]).f (L[k]).o (L[k]).a0 (L[k]).a1 = true := by have := HR.out _ hm; unfold Ent.right at this; rwa [h4] at this
            have hs : shareB (L[k]).a0 = true ∧ shareB (L[k]).a1 = true := by
              have h2 := (Bool.and_eq_true_iff.1 hright).2
              have h3 : awardB (L[k]).o (L[k]).a0 (L[k]).a1 = true := h2
              exact Bool.and_eq_true_iff.1 (Bool.and_eq_true_iff.1 h3).1
            exact ⟨(awardF (L[k]).a0 (nv : Int)).1, (awardF (L[k]).a0 (nv : Int)).2, (awardF (L[k]).a1 (nv : Int)).1, (awardF (L[k]).a1 (nv : Int)).2, 0, fun W => r22award_some (L[k]).C (L[k]).f (L[k]).a0 (L[k]).a1 (nv : Int) (L[k]).o (h4 ▸ hok.1) hok.2.2.1 hok.2.2.2.1 (by omega) hright hs.1 hs.2 W, fun _ => HLw.out k hlt h4⟩
          · refine ⟨0, 0, 0, 0, 6, fun W => r22award_err (L[k]).C (L[k]).k (L[k]).f (L[k]).a0 (L[k]).a1 (nv : Int) 6 (L[k]).o hok.1 hok.2.2.1 hok.2.2.2.1 hok.2.2.2.2 (.inr ⟨rfl, HR.out _ hm, by omega, by omega, h4⟩) W, fun hc => ?_⟩
            have : cmpB L[k] = true := decide_eq_true ⟨h0, h4⟩
            rw [this] at hc; cases hc
        obtain ⟨p0, p1, q0, q1, E, hAw, hLa⟩ := HAw
        have HAw := Lib.hid hAw
        have HLa := Lib.hid hLa
        have HLc1 := Lib.hid (fun hc => HLc.out k hlt hc)
        have HG1 := Lib.hid (fun W h1 s hs hc => HG.out W h1 k s hs hlt hc)
        clear hAw hLa
        obtain ⟨g0, g1, g2, g3, g4⟩ := HL.out.2 k hlt
        have x4 := (blk_cell HK.out (k * 5 + 4)).trans g4
        have y4 := blk_free HK.out (k * 5 + 4)
        have lg := blk_lt HK.out
        obtain ⟨W5, hW5⟩ : ∃ W5, wr.setCell ⟨g, k * 5 + 4, none⟩ (.bool (decide ((1 : Int) < (nv : Int)))) = W5 := ⟨_, rfl⟩
        have hk5 := blk_set HK.out (k * 5 + 4) (.bool (decide ((1 : Int) < (nv : Int))))
        rw [hW5] at hk5
        have HK5 := Lib.hid hk5
        clear hk5
        have HL5 := Lib.hid (HL.out.setB k hlt (decide ((1 : Int) < (nv : Int))))
        have HB5 := Lib.hid (show Below w.heap.size w W5 by rw [← hW5]; exact HB.out.setCell hgw _)
        have HR5 := Lib.hid (range_below HR1.out HB5.out hbw)
        clear g0 g1 g2 g3 g4 h0
        go_wp2_with (refine wpList_load_ent rfl 51 (.tmp 47) rfl b (off + k * 33) rfl _ _ HR5.out Tryz.underlying51 rfl hI.out ?_)
        refine (HAw.out _).mono ?_
        rintro ee w6 ⟨rfl, hb6⟩
        have lg5 := blk_lt HK5.out
        have HK6 := Lib.hid (blk_below HK5.out hb6 lg5)
        have HB6 := Lib.hid (below_via HB5.out hb6)
        obtain ⟨g0, g1, g2, g3, g4⟩ := HL5.out.2 k hlt
        have a0 := (blk_cell HK6.out (k * 5)).trans g0
        have a1 := (blk_cell HK6.out (k * 5 + 1)).trans g1
        have a2 := (blk_cell HK6.out (k * 5 + 2)).trans g2
        have a3 := (blk_cell HK6.out (k * 5 + 3)).trans g3
        have f0 := blk_free HK6.out (k * 5)
        have f1 := blk_free HK6.out (k * 5 + 1)
        have f2 := blk_free HK6.out (k * 5 + 2)
        have f3 := blk_free HK6.out (k * 5 + 3)
        have hk7 := blk_set (blk_set (blk_set (blk_set HK6.out (k * 5) (.int .i64 p0)) (k * 5 + 1) (.int .i64 p1)) (k * 5 + 2) (.int .i64 q0)) (k * 5 + 3) (.int .i64 q1)
        have HL7 := Lib.hid (HL5.out.set4 k hlt p0 p1 q0 q1)
        obtain ⟨W7, hW7⟩ : ∃ W7, (((w6.setCell ⟨g, k * 5, none⟩ (.int .i64 p0)).setCell ⟨g, k * 5 + 1, none⟩ (.int .i64 p1)).setCell ⟨g, k * 5 + 2, none⟩ (.int .i64 q0)).setCell ⟨g, k * 5 + 3, none⟩ (.int .i64 q1) = W7 := ⟨_, rfl⟩
        have hb7 : Below w.heap.size w W7 := by rw [← hW7]; exact (((HB6.out.setCell (p := ⟨g, k * 5, none⟩) hgw _).setCell (p := ⟨g, k * 5 + 1, none⟩) hgw _).setCell (p := ⟨g, k * 5 + 2, none⟩) hgw _).setCell (p := ⟨g, k * 5 + 3, none⟩) hgw _
        rw [hW7] at hk7
        have HB7 := Lib.hid hb7
        have HK7 := Lib.hid hk7
        have HR7 := Lib.hid (range_below HR1.out HB7.out hbw)
        clear hb6 g0 g1 g2 g3 g4 hW5 HK5 hb7 hk7 HAw
        go_wp2_with (refine wpList_load_ent rfl 51 (.tmp 60) rfl b (off + k * 33) rfl _ _ HR7.out Tryz.underlying51 rfl hI.out ?_)
        refine (HCo.out _).mono ?_
        rintro ee w8 ⟨rfl, hb8⟩
        have HB8 := Lib.hid (below_via HB7.out hb8)
        have HK8 := Lib.hid (blk_below HK7.out hb8 (blk_lt HK7.out))
        clear hb8 HB7 HK7 HR7 hW7 HK6 HB6 HB5 HR5 HCo HB HK
        cases hc : cmpB L[k] with
        | false =>
          have hl := HLa.out hc
          have HE2 := Lib.hid (HL7.out.congr (Y := lnTo L vul (k + 1)) (fun i _ => by
            rw [HE.out i, hl]
            unfold updL
            by_cases e : i = k
            · subst e; rw [if_pos rfl, if_pos rfl, if_pos rfl]
            · rw [if_neg e, if_neg e, if_neg e]))
          clear hl HE HL7
          go_wp2
          go_roundw
          case rel => exact ⟨k + 1, _, hlt, by go_num, HB8, HK8, HE2⟩
          case measure => simp [intOf]; omega
        | true =>
          have hl := HLc1.out hc
          have HGa := Lib.hid (fun W h1 => HG1.out W h1 0 (by decide) hc)
          have HGb := Lib.hid (fun W h1 => HG1.out W h1 1 (by decide) hc)
          clear HG1 HLc1 HLa
          generalize valN L (L[k]).f vul (nv : Int) 0 k = v0 at *
          generalize valN L (L[k]).f vul (nv : Int) 1 k = v1 at *
          obtain ⟨r0, r1⟩ := v0
          obtain ⟨s0, s1⟩ := v1
          unfold fV at HGa HGb
          dsimp only at HGa HGb
          have Hl := Lib.hid hl
          clear hl
          go_wp2_with fail
          refine (HGa.out _ (HA.out.go HB8.out)).mono ?_
          rintro ee w9 ⟨rfl, hb9⟩
          have HB9 := Lib.hid (below_via HB8.out hb9)
          have HK9 := Lib.hid (blk_below HK8.out hb9 (blk_lt HK8.out))
          clear hb9 HB8 HK8
          go_wp2_with fail
          refine (HGb.out _ (HA.out.go HB9.out)).mono ?_
          rintro ee wA ⟨rfl, hbA⟩
          have HBA := Lib.hid (below_via HB9.out hbA)
          have HKA := Lib.hid (blk_below HK9.out hbA (blk_lt HK9.out))
          clear hbA HB9 HK9
          obtain ⟨g0, g1, g2, g3, g4⟩ := HL7.out.2 k hlt
          have b0 := (blk_cell HKA.out (k * 5)).trans g0
          have b1 := (blk_cell HKA.out (k * 5 + 1)).trans g1
          have b2 := (blk_cell HKA.out (k * 5 + 2)).trans g2
          have b3 := (blk_cell HKA.out (k * 5 + 3)).trans g3
          have e0 := blk_free HKA.out (k * 5)
          have e1 := blk_free HKA.out (k * 5 + 1)
          have e2 := blk_free HKA.out (k * 5 + 2)
          have e3 := blk_free HKA.out (k * 5 + 3)
          have HKZ := Lib.hid (blk_set (blk_set (blk_set (blk_set HKA.out (k * 5) (.int .i64 r0)) (k * 5 + 1) (.int .i64 r1)) (k * 5 + 2) (.int .i64 s0)) (k * 5 + 3) (.int .i64 s1))
          have HLZ := Lib.hid (HL7.out.set4 k hlt r0 r1 s0 s1)
          have HBZ := Lib.hid ((((HBA.out.setCell (p := ⟨g, k * 5, none⟩) hgw (.int .i64 r0)).setCell (p := ⟨g, k * 5 + 1, none⟩) hgw (.int .i64 r1)).setCell (p := ⟨g, k * 5 + 2, none⟩) hgw (.int .i64 s0)).setCell (p := ⟨g, k * 5 + 3, none⟩) hgw (.int .i64 s1))
          have HE2 := Lib.hid (HLZ.out.congr (Y := lnTo L vul (k + 1)) (fun i _ => by
            rw [HE.out i, Hl.out]
            unfold updL
            by_cases e : i = k
            · subst e; rw [if_pos rfl, if_pos rfl, if_pos rfl, if_pos rfl]
            · rw [if_neg e, if_neg e, if_neg e, if_neg e]))
          clear g0 g1 g2 g3 g4 HLZ HL7 HKA HBA HE Hl
          go_wp2
          go_roundw
          case rel => exact ⟨k + 1, _, hlt, by go_num, HBZ, HKZ, HE2⟩
          case measure => simp [intOf]; omega
    · obtain rfl : k = L.length := by omega
      have HC2 := Lib.hid HL.out.all
      have hsz := HL.out.1
      go_wp2
      go_ret2
      refine ⟨_, rfl, ⟨by rw [lnC_len, boardTo_len], .inr ⟨g, L.length, C, rfl, hgw, HK.out, Nat.le_refl _, by unfold maxLen; omega, hsz, ?_⟩⟩, HB.out⟩
      rw [← HC2.out, List.take_of_length_le (by rw [Array.length_toList, hsz]; exact Nat.le_refl _)]

end Go.Proofs.YtchklobblkddhaaGreatDoor
