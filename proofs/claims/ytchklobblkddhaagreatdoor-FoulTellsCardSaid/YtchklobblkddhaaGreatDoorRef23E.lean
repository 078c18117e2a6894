/- The walk of finesseref23.Demand. -/
import Derived.Test.YtchklobblkddhaaGreatDoorRef23C
namespace Go.Proofs.YtchklobblkddhaaGreatDoor
open Go.RowKit Go.Shelf

/-- What an entry demands for a side, in hundredths. -/
def dE (all : Int) (s : Nat) (e : Ent) : Int := (if cmpB e = true then 100 * (all - 1) else 0) + (if e.k = 4 then (if s = 0 then e.a0 else e.a1) * 2 * (all - 1) else 0)
def dTo (L : List Ent) (all : Int) (s k : Nat) : Int := ((L.take k).map (dE all s)).sum
theorem dTo_succ (L : List Ent) (all : Int) (s k : Nat) (h : k < L.length) : dTo L all s (k + 1) = dTo L all s k + dE all s L[k] := by
  unfold dTo
  rw [List.take_succ_eq_append_getElem h, List.map_append, List.sum_append]
  simp
/-- How many compared entries all fields have. -/
theorem dem_sum (all : Int) (s : Nat) : ∀ M : List Ent, (∀ e ∈ M, 0 ≤ e.f ∧ e.f ≤ 3) →
    ((List.range 4).map (fun f => (inField M ((f : Nat) : Int) : Int) * (all - 1) * 100)).sum + (M.filterMap (fun e => if e.k = 4 then some ((if s = 0 then e.a0 else e.a1) * (2 * (all - 1))) else none)).sum = (M.map (dE all s)).sum := by
  intro M
  induction M with
  | nil => intro _; simp [inField, List.range_succ]
  | cons e M ih =>
    intro hf
    have h1 := ih (fun x hx => hf x (List.mem_cons_of_mem _ hx))
    have hfe := hf e (List.mem_cons_self ..)
    have hin : ∀ f : Int, (inField (e :: M) f : Int) = (inField M f : Int) + (if (cmpB e && decide (e.f = f)) = true then 1 else 0) := fun f => by
      unfold inField
      by_cases h : (cmpB e && decide (e.f = f)) = true
      · rw [List.filter_cons_of_pos (p := fun e : Ent => cmpB e && decide (e.f = f)) h, if_pos h]; simp
      · rw [List.filter_cons_of_neg (p := fun e : Ent => cmpB e && decide (e.f = f)) h, if_neg h]; simp
    rw [List.map_cons, List.sum_cons, ← h1]
    simp only [List.range_succ, List.range_zero, List.nil_append, List.map_cons, List.map_nil, List.sum_cons, List.sum_nil, List.cons_append] at *
    rw [hin, hin, hin, hin]
    have e4 : (List.filterMap (fun e : Ent => if e.k = 4 then some ((if s = 0 then e.a0 else e.a1) * (2 * (all - 1))) else none) (e :: M)).sum = (if e.k = 4 then (if s = 0 then e.a0 else e.a1) * 2 * (all - 1) else 0) + (List.filterMap (fun e : Ent => if e.k = 4 then some ((if s = 0 then e.a0 else e.a1) * (2 * (all - 1))) else none) M).sum := by
      by_cases h4 : e.k = 4
      · rw [List.filterMap_cons_some (b := (if s = 0 then e.a0 else e.a1) * (2 * (all - 1))) (by rw [if_pos h4]), List.sum_cons, if_pos h4, Int.mul_assoc]
      · rw [List.filterMap_cons_none (by rw [if_neg h4]), if_neg h4]; omega
    rw [e4]
    unfold dE
    generalize (if e.k = 4 then (if s = 0 then e.a0 else e.a1) * 2 * (all - 1) else 0) = A
    generalize (List.filterMap (fun e : Ent => if e.k = 4 then some ((if s = 0 then e.a0 else e.a1) * (2 * (all - 1))) else none) M).sum = F
    generalize inField M ((0 : Nat) : Int) = n0
    generalize inField M ((1 : Nat) : Int) = n1
    generalize inField M ((2 : Nat) : Int) = n2
    generalize inField M ((3 : Nat) : Int) = n3
    cases hb : cmpB e with
    | false => simp; omega
    | true =>
      simp only [Bool.true_and, decide_eq_true_eq, if_true]
      obtain ⟨f, hfe2⟩ : ∃ f : Int, e.f = f := ⟨_, rfl⟩
      rw [hfe2] at hfe ⊢
      rcases (show f = 0 ∨ f = 1 ∨ f = 2 ∨ f = 3 by omega) with rfl | rfl | rfl | rfl <;> simp <;> grind
theorem dem_ref (L : List Ent) (hO : ∀ e ∈ L, e.Ok) (hR : ∀ e ∈ L, e.right = true) (s : Nat) : fr (dTo L (notVoid L : Int) s L.length) 100 = demF L s := by
  unfold demF
  congr 1
  unfold dTo demN
  rw [List.take_length, ← dem_sum (notVoid L : Int) s L (fun e he => ⟨(hO e he).2.2.2.1.1, right_f (hR e he)⟩), List.sum_append]
  congr 2
  refine List.map_congr_left fun f _ => ?_
  rw [maxA_mul]
theorem dE_bd (L : List Ent) (hR : ∀ e ∈ L, e.right = true) (hn : L.length ≤ 24) (s : Nat) (e : Ent) (he : e ∈ L) : 0 ≤ dE (notVoid L : Int) s e ∧ dE (notVoid L : Int) s e ≤ 10000 := by
  have hv : notVoid L ≤ L.length := List.length_filter_le _ _
  unfold dE
  by_cases h4 : e.k = 4
  · obtain ⟨i, hi, rfl⟩ := List.getElem_of_mem he
    have h1 := notVoid_one L i hi (by omega)
    obtain ⟨r0, r1⟩ := right_aw (hR _ he) h4
    have hb : 0 ≤ (if s = 0 then (L[i]).a0 else (L[i]).a1) ∧ (if s = 0 then (L[i]).a0 else (L[i]).a1) ≤ 100 := by
      split
      · exact share_bd r0
      · exact share_bd r1
    have hc : cmpB L[i] = false := decide_eq_false (fun h => h.2 h4)
    rw [hc, if_pos h4, if_neg (by decide)]
    generalize (if s = 0 then (L[i]).a0 else (L[i]).a1) = a at hb
    have := mulB (x := a * 2) (y := (notVoid L : Int) - 1) (X := 200) (Y := 23) (by omega) (by omega)
    omega
  · rw [if_neg h4]
    cases hc : cmpB e with
    | false => simp
    | true =>
      obtain ⟨i, hi, rfl⟩ := List.getElem_of_mem he
      have h1 := notVoid_one L i hi (of_decide_eq_true hc).1
      rw [if_pos rfl]
      omega
theorem dTo_bd (L : List Ent) (hR : ∀ e ∈ L, e.right = true) (hn : L.length ≤ 24) (s k : Nat) (_ : k ≤ L.length) : 0 ≤ dTo L (notVoid L : Int) s k ∧ dTo L (notVoid L : Int) s k ≤ 240000 := by
  have h := sum_bd 10000 (by decide) (L.map (dE (notVoid L : Int) s)) (fun x hx => by
    obtain ⟨e, he, rfl⟩ := List.mem_map.1 hx
    exact dE_bd L hR hn s e he) k
  rw [List.length_map, ← List.map_take] at h
  unfold dTo
  omega

set_option maxRecDepth 100000 in
set_option maxHeartbeats 2000000 in
theorem r23demand_bad (L : List Ent) (A : Option Addr) (c : Nat) (w : World) (hO : ∀ e ∈ L, e.Ok) (hA : Rd w w.heap.size 33 A L.length (enL L)) (hn : L.length ≤ 1000000) (h0 : chkE L ≠ 0) :
    Calls Tryz.prog 11 #[.slice A L.length c] w fun e w' => e = .returned (.tuple #[fV (0, 0), fV (0, 0), .int .i64 (chkE L)]) ∧ Below w.heap.size w w' := by
  have HC := Lib.hid (fun W h1 => r23wrong L A c W hO h1 hn)
  generalize chkE L = N at *
  have HA := Lib.hid hA
  have t0 : (N != 0) = true := by rw [bne_iff_ne]; exact h0
  clear hA hO
  go_enter Tryz.func11, Tryz.ntmps11
  go_wp2_with fail
  obtain ⟨W1, hW1⟩ : ∃ V, (w.alloc (.cells #[.int .i64 0, .int .i64 0] 36)).alloc (.cells #[.int .i64 0, .int .i64 0] 36) = V := ⟨_, rfl⟩
  obtain ⟨g, hg⟩ : ∃ g, w.heap.size = g := ⟨_, rfl⟩
  have K2 := Lib.hid (show W1.heap[g]? = some (.cells #[.int .i64 0, .int .i64 0] 36 (0, 0)) by rw [← hW1]; exact blk_alloc (blk_new _ hg.symm) _)
  have K3 := Lib.hid (show W1.heap[g + 1]? = some (.cells #[.int .i64 0, .int .i64 0] 36 (0, 0)) by rw [← hW1]; exact blk_new _ (by simp; omega))
  have HB1 := Lib.hid (show Below w.heap.size w W1 by rw [← hW1]; exact (by repeat (first | exact Below.refl _ _ | assumption | refine Below.drew ?_ | refine below_drewN ?_ _ | refine Below.alloc ?_ (by first | omega | (simp; done) | (simp; omega)) _ | refine Below.setCell ?_ (by first | omega | (simp; done) | (simp; omega)) _)))
  have Hg := Lib.hid hg
  have hgl := blk_lt K3.out
  rw [hW1, hg]
  clear hW1 hg
  refine (HC.out W1 (HA.out.go HB1.out)).mono ?_
  rintro ee w2 ⟨rfl, hb2⟩
  have k2 := blk_below K2.out hb2 (by omega)
  have k3 := blk_below K3.out hb2 hgl
  have HB2 := Lib.hid (below_via HB1.out hb2)
  have HK2 := Lib.hid k2
  have HK3 := Lib.hid k3
  have a0 := blk_cell k2 0
  have a1 := blk_cell k2 1
  have b0 := blk_cell k3 0
  have b1 := blk_cell k3 1
  have e0 := blk_free k2 0
  have e1 := blk_free k2 1
  have f0 := blk_free k3 0
  have f1 := blk_free k3 1
  have hgg : g ≠ g + 1 := by omega
  have hgg2 : g + 1 ≠ g := by omega
  have hgw : w.heap.size ≤ g := Nat.le_of_eq Hg.out
  have hgw1 : w.heap.size ≤ g + 1 := by omega
  clear k2 k3 hb2 HC
  go_wp2
  have hbz : Below w.heap.size w ((((w2.setCell ⟨g, 0, none⟩ (.int .i64 0)).setCell ⟨g, 1, none⟩ (.int .i64 0)).setCell ⟨g + 1, 0, none⟩ (.int .i64 0)).setCell ⟨g + 1, 1, none⟩ (.int .i64 0)) := (((HB2.out.setCell (p := ⟨g, 0, none⟩) hgw _).setCell (p := ⟨g, 1, none⟩) hgw _).setCell (p := ⟨g + 1, 0, none⟩) hgw1 _).setCell (p := ⟨g + 1, 1, none⟩) hgw1 _
  have kz := blk_far (blk_far (blk_set (blk_set HK2.out 0 (.int .i64 0)) 1 (.int .i64 0)) (p := ⟨g + 1, 0, none⟩) hgg (.int .i64 0)) (p := ⟨g + 1, 1, none⟩) hgg (.int .i64 0)
  have ky := blk_set (blk_set (blk_far (blk_far HK3.out (p := ⟨g, 0, none⟩) hgg2 (.int .i64 0)) (p := ⟨g, 1, none⟩) hgg2 (.int .i64 0)) 0 (.int .i64 0)) 1 (.int .i64 0)
  have z0 := blk_cell kz 0
  have z1 := blk_cell kz 1
  have y0 := blk_cell ky 0
  have y1 := blk_cell ky 1
  exact bodyPost_ret (v := .tuple #[.agg #[.int .i64 0, .int .i64 0], .agg #[.int .i64 0, .int .i64 0], .int .i64 N]) (by simp [results, Tryz.results11, go_sem, z0, z1, y0, y1]) rfl ⟨rfl, hbz⟩

set_option maxRecDepth 100000 in
set_option maxHeartbeats 4000000 in
theorem r23demand_ok (L : List Ent) (A : Option Addr) (c : Nat) (w : World) (hO : ∀ e ∈ L, e.Ok) (hA : Rd w w.heap.size 33 A L.length (enL L)) (hn : L.length ≤ 24) (hR : ∀ e ∈ L, e.right = true) (h0 : chkE L = 0) :
    Calls Tryz.prog 11 #[.slice A L.length c] w fun e w' => e = .returned (.tuple #[fV (demF L 0), fV (demF L 1), .int .i64 0]) ∧ Below w.heap.size w w' := by
  have HC := Lib.hid (fun W h1 => r23wrong L A c W hO h1 (by omega))
  rw [h0] at HC
  have HN := Lib.hid (fun W h1 => r23results L A c W hO h1 (by omega))
  have HA := Lib.hid hA
  have HO := Lib.hid hO
  have HR := Lib.hid hR
  have HF := Lib.hid (fun s => dem_ref L hO hR s)
  have HD := Lib.hid (fun s k hk => dTo_bd L hR hn s k hk)
  have HS := Lib.hid (fun s k hk => dTo_succ L (notVoid L : Int) s k hk)
  have HNv := Lib.hid (show notVoid L ≤ 24 by rw [← nvTo_all]; exact Nat.le_trans (nvTo_le L L.length) hn)
  have HN1 := Lib.hid (fun i h hk => notVoid_one L i h hk)
  clear hA hO hR h0
  generalize notVoid L = nv at *
  go_enter Tryz.func11, Tryz.ntmps11
  go_wp2_with fail
  obtain ⟨W1, hW1⟩ : ∃ V, (w.alloc (.cells #[.int .i64 0, .int .i64 0] 36)).alloc (.cells #[.int .i64 0, .int .i64 0] 36) = V := ⟨_, rfl⟩
  obtain ⟨g, hg⟩ : ∃ g, w.heap.size = g := ⟨_, rfl⟩
  have K2 := Lib.hid (show W1.heap[g]? = some (.cells #[.int .i64 0, .int .i64 0] 36 (0, 0)) by rw [← hW1]; exact blk_alloc (blk_new _ hg.symm) _)
  have K3 := Lib.hid (show W1.heap[g + 1]? = some (.cells #[.int .i64 0, .int .i64 0] 36 (0, 0)) by rw [← hW1]; exact blk_new _ (by simp; omega))
  have HB1 := Lib.hid (show Below w.heap.size w W1 by rw [← hW1]; exact (by repeat (first | exact Below.refl _ _ | assumption | refine Below.drew ?_ | refine below_drewN ?_ _ | refine Below.alloc ?_ (by first | omega | (simp; done) | (simp; omega)) _ | refine Below.setCell ?_ (by first | omega | (simp; done) | (simp; omega)) _)))
  have Hg := Lib.hid hg
  have hgl := blk_lt K3.out
  rw [hW1, hg]
  clear hW1 hg
  refine (HC.out W1 (HA.out.go HB1.out)).mono ?_
  rintro ee w2 ⟨rfl, hb2⟩
  have HK2 := Lib.hid (blk_below K2.out hb2 (by omega))
  have HK3 := Lib.hid (blk_below K3.out hb2 hgl)
  have HB2 := Lib.hid (below_via HB1.out hb2)
  clear hb2 HC K2 K3 HB1 hgl
  go_wp2_with fail
  refine (HN.out _ (HA.out.go HB2.out)).mono ?_
  rintro ee w3 ⟨rfl, hb3⟩
  have HL2 := Lib.hid (blk_below HK2.out hb3 (blk_lt HK2.out))
  have HL3 := Lib.hid (blk_below HK3.out hb3 (blk_lt HK3.out))
  have HB3 := Lib.hid (below_via HB2.out hb3)
  clear hb3 HN HK2 HK3 HB2
  go_wp2
  go_loopw [7, 8, 9] (fun x y i wr => ∃ k : Nat, k ≤ L.length ∧ i = .int .i64 (k : Int) ∧ x = .int .i64 (dTo L (nv : Int) 0 k) ∧ y = .int .i64 (dTo L (nv : Int) 1 k) ∧ Hid (Below w.heap.size w wr) ∧ Hid (wr.heap[g]? = some (.cells #[.int .i64 0, .int .i64 0] 36 (0, 0))) ∧ Hid (wr.heap[g + 1]? = some (.cells #[.int .i64 0, .int .i64 0] 36 (0, 0)))) (fun _ _ i _ => L.length - (intOf i).toNat)
  case atStart => exact ⟨0, Nat.zero_le _, rfl, rfl, rfl, HB3, HL2, HL3⟩
  case round =>
    obtain ⟨k, hk, rfl, rfl, rfl, HB, HK2, HK3⟩ := hrel
    have hd0 := HD.out 0 k hk
    have hd1 := HD.out 1 k hk
    by_cases hlt : k < L.length
    · obtain ⟨b, off, rfl, hbw, hr⟩ := rd_e (fun e he => (HO.out e he).1.1) HA.out k hlt
      have hm := List.getElem_mem hlt
      have hok := HO.out _ hm
      have HR1 := Lib.hid (range_below hr HB.out hbw)
      have hI := Lib.hid (hok.1.size)
      have HCo := Lib.hid (fun W => r23compared _ hok W)
      rw [cmpR_eq _ (HR.out _ hm)] at HCo
      have HS0 := Lib.hid (HS.out 0 k hlt)
      have HS1 := Lib.hid (HS.out 1 k hlt)
      have hc1' := HD.out 0 (k + 1) hlt
      have hc2' := HD.out 1 (k + 1) hlt
      have c1 : (0 : Int) ≤ (k : Int) := by omega
      have c2 : (k : Int) < (L.length : Int) := by omega
      have HN2 := Lib.hid (HN1.out k hlt)
      have hn24 := HNv.out
      have hAw := Lib.hid (fun h4 => right_aw (HR.out _ hm) h4)
      clear hr
      go_wp2_with (refine wpList_load_ent rfl 51 (.tmp 27) rfl b (off + k * 33) rfl _ _ HR1.out Tryz.underlying51 rfl hI.out ?_)
      refine (HCo.out _).mono ?_
      rintro ee w4 ⟨rfl, hb4⟩
      have HB4 := Lib.hid (below_via HB.out hb4)
      have HK24 := Lib.hid (blk_below HK2.out hb4 (blk_lt HK2.out))
      have HK34 := Lib.hid (blk_below HK3.out hb4 (blk_lt HK3.out))
      have HR4 := Lib.hid (range_below HR1.out hb4 (Nat.lt_of_lt_of_le hbw HB.out.size))
      clear hb4 HK2 HK3 HB HR1
      cases hc : cmpB L[k] with
      | true =>
        obtain ⟨h0, h4⟩ := of_decide_eq_true hc
        have hn1 := HN2.out h0
        have q4 : w4.cell? ⟨b, off + k * 33 + 4, none⟩ = some (.int .u8 (L[k]).k) := HR4.out 4 _ (by have := hok.1.2.1; simpa using this)
        have t4 : ((L[k]).k == 4) = false := beq_eq_false_iff_ne.2 h4
        have e0 : dE (nv : Int) 0 L[k] = 100 * ((nv : Int) - 1) := by unfold dE; rw [hc, if_pos rfl, if_neg h4]; omega
        have e1 : dE (nv : Int) 1 L[k] = 100 * ((nv : Int) - 1) := by unfold dE; rw [hc, if_pos rfl, if_neg h4]; omega
        rw [e0] at HS0
        rw [e1] at HS1
        generalize dTo L (nv : Int) 0 k = x at *
        generalize dTo L (nv : Int) 1 k = y at *
        have i1 := IntWalk.i64_in ((nv : Int) - 1) (by omega)
        have i2 := IntWalk.i64_in (100 * ((nv : Int) - 1)) (by omega)
        have i3 := IntWalk.i64_in (x + 100 * ((nv : Int) - 1)) (by omega)
        have i4 := IntWalk.i64_in (y + 100 * ((nv : Int) - 1)) (by omega)
        clear h0 h4 e0 e1 hok hc
        go_wp2
        go_roundw
        case rel => exact ⟨k + 1, hlt, by go_num, int_eq HS0.out.symm, int_eq HS1.out.symm, HB4, HK24, HK34⟩
        case measure => simp [intOf]; omega
      | false =>
        have q4 : w4.cell? ⟨b, off + k * 33 + 4, none⟩ = some (.int .u8 (L[k]).k) := HR4.out 4 _ (by have := hok.1.2.1; simpa using this)
        by_cases h4 : (L[k]).k = 4
        · have t4 : ((L[k]).k == 4) = true := by rw [h4]; rfl
          have hn1 := HN2.out (by omega)
          have qa : w4.cell? ⟨b, off + k * 33 + 31, none⟩ = some (.int .i64 (L[k]).a0) := HR4.out 31 _ (by have := hok.1.2.2.2.1; simpa using this)
          have qb : w4.cell? ⟨b, off + k * 33 + 32, none⟩ = some (.int .i64 (L[k]).a1) := HR4.out 32 _ (by have := hok.1.2.2.2.2.1; simpa using this)
          obtain ⟨r0, r1⟩ := hAw.out h4
          have ha := share_bd r0
          have hb := share_bd r1
          have e0 : dE (nv : Int) 0 L[k] = (L[k]).a0 * 2 * ((nv : Int) - 1) := by unfold dE; rw [hc, if_neg (by decide), if_pos h4, if_pos rfl]; omega
          have e1 : dE (nv : Int) 1 L[k] = (L[k]).a1 * 2 * ((nv : Int) - 1) := by unfold dE; rw [hc, if_neg (by decide), if_pos h4, if_neg (by decide)]; omega
          rw [e0] at HS0
          rw [e1] at HS1
          generalize (L[k]).a0 = a at *
          generalize (L[k]).a1 = d at *
          have hm1 := mulB (x := a * 2) (y := (nv : Int) - 1) (X := 200) (Y := 23) (by omega) (by omega)
          have hm2 := mulB (x := d * 2) (y := (nv : Int) - 1) (X := 200) (Y := 23) (by omega) (by omega)
          generalize dTo L (nv : Int) 0 k = x at *
          generalize dTo L (nv : Int) 1 k = y at *
          have i1 := IntWalk.i64_in ((nv : Int) - 1) (by omega)
          have i2 := IntWalk.i64_in (a * 2) (by omega)
          have i3 := IntWalk.i64_in (d * 2) (by omega)
          have i5 := IntWalk.i64_in (a * 2 * ((nv : Int) - 1)) (by omega)
          have i6 := IntWalk.i64_in (d * 2 * ((nv : Int) - 1)) (by omega)
          have i7 := IntWalk.i64_in (x + a * 2 * ((nv : Int) - 1)) (by omega)
          have i8 := IntWalk.i64_in (y + d * 2 * ((nv : Int) - 1)) (by omega)
          clear h4 e0 e1 hok hc r0 r1
          go_wp2
          go_quiet (fail)
          go_wp2
          go_roundw
          case rel => exact ⟨k + 1, hlt, by go_num, int_eq HS0.out.symm, int_eq HS1.out.symm, Lib.hid (below_drewN HB4.out nq), Lib.hid (show (w4.drewN nq).heap[g]? = _ from HK24.out), Lib.hid (show (w4.drewN nq).heap[g + 1]? = _ from HK34.out)⟩
          case measure => simp [intOf]; omega
        · have t4 : ((L[k]).k == 4) = false := beq_eq_false_iff_ne.2 h4
          have e0 : dE (nv : Int) 0 L[k] = 0 := by unfold dE; rw [hc, if_neg (by decide), if_neg h4]; rfl
          have e1 : dE (nv : Int) 1 L[k] = 0 := by unfold dE; rw [hc, if_neg (by decide), if_neg h4]; rfl
          rw [e0, Int.add_zero] at HS0
          rw [e1, Int.add_zero] at HS1
          clear h4 e0 e1 hok hc
          go_wp2
          go_roundw
          case rel => exact ⟨k + 1, hlt, by go_num, int_eq HS0.out.symm, int_eq HS1.out.symm, HB4, HK24, HK34⟩
          case measure => simp [intOf]; omega
    · obtain rfl : k = L.length := by omega
      have HRa := Lib.hid (fun W => reduced_any (dTo L (nv : Int) 0 L.length) 100 W (by omega) (by omega))
      have HRb := Lib.hid (fun W => reduced_any (dTo L (nv : Int) 1 L.length) 100 W (by omega) (by omega))
      rw [HF.out 0] at HRa
      rw [HF.out 1] at HRb
      obtain ⟨x0, x1, hF0⟩ : ∃ a b, demF L 0 = (a, b) := ⟨_, _, rfl⟩
      obtain ⟨y0, y1, hF1⟩ : ∃ a b, demF L 1 = (a, b) := ⟨_, _, rfl⟩
      rw [hF0] at HRa
      rw [hF1] at HRb
      have HF0 := Lib.hid hF0
      have HF1 := Lib.hid hF1
      unfold fV at HRa HRb
      dsimp only at HRa HRb
      have HK26 := Lib.hid HK2.out
      have HK36 := Lib.hid HK3.out
      clear hF0 hF1 HK2 HK3 hd0 hd1
      go_wp2_with fail
      refine (HRa.out _).mono ?_
      rintro ee w6 ⟨rfl, hb6⟩
      have HB6 := Lib.hid (below_via HB.out hb6)
      have HK25 := Lib.hid (blk_below HK26.out hb6 (blk_lt HK26.out))
      have HK35 := Lib.hid (blk_below HK36.out hb6 (blk_lt HK36.out))
      clear hb6 HB HK26 HK36
      go_wp2_with fail
      refine (HRb.out _).mono ?_
      rintro ee w7 ⟨rfl, hb7⟩
      have HB7 := Lib.hid (below_via HB6.out hb7)
      have HK27 := Lib.hid (blk_below HK25.out hb7 (blk_lt HK25.out))
      have HK37 := Lib.hid (blk_below HK35.out hb7 (blk_lt HK35.out))
      clear hb7 HB6 HK25 HK35
      have a0 := blk_cell HK27.out 0
      have a1 := blk_cell HK27.out 1
      have b0 := blk_cell HK37.out 0
      have b1 := blk_cell HK37.out 1
      have e0 := blk_free HK27.out 0
      have e1 := blk_free HK27.out 1
      have f0 := blk_free HK37.out 0
      have f1 := blk_free HK37.out 1
      have hgg : g ≠ g + 1 := by omega
      have hgg2 : g + 1 ≠ g := by omega
      have hgw : w.heap.size ≤ g := Nat.le_of_eq Hg.out
      have hgw1 : w.heap.size ≤ g + 1 := by omega
      go_wp2
      have hbz : Below w.heap.size w ((((w7.setCell ⟨g, 0, none⟩ (.int .i64 x0)).setCell ⟨g, 1, none⟩ (.int .i64 x1)).setCell ⟨g + 1, 0, none⟩ (.int .i64 y0)).setCell ⟨g + 1, 1, none⟩ (.int .i64 y1)) := (((HB7.out.setCell (p := ⟨g, 0, none⟩) hgw _).setCell (p := ⟨g, 1, none⟩) hgw _).setCell (p := ⟨g + 1, 0, none⟩) hgw1 _).setCell (p := ⟨g + 1, 1, none⟩) hgw1 _
      have kz := blk_far (blk_far (blk_set (blk_set HK27.out 0 (.int .i64 x0)) 1 (.int .i64 x1)) (p := ⟨g + 1, 0, none⟩) hgg (.int .i64 y0)) (p := ⟨g + 1, 1, none⟩) hgg (.int .i64 y1)
      have ky := blk_set (blk_set (blk_far (blk_far HK37.out (p := ⟨g, 0, none⟩) hgg2 (.int .i64 x0)) (p := ⟨g, 1, none⟩) hgg2 (.int .i64 x1)) 0 (.int .i64 y0)) 1 (.int .i64 y1)
      have z0 := blk_cell kz 0
      have z1 := blk_cell kz 1
      have y0' := blk_cell ky 0
      have y1' := blk_cell ky 1
      exact bodyPost_ret (v := .tuple #[.agg #[.int .i64 x0, .int .i64 x1], .agg #[.int .i64 y0, .int .i64 y1], .int .i64 0]) (by simp [results, Tryz.results11, go_sem, z0, z1, y0', y1']) rfl ⟨by rw [HF0.out, HF1.out]; rfl, hbz⟩

end Go.Proofs.YtchklobblkddhaaGreatDoor
