/- The walks of finesseref23.compared, wrong, results and All. The walk of finesseref23.All. -/
import Derived.Test.YtchklobblkddhaaGreatDoorRef22T
import Derived.Test.YtchklobblkddhaaGreatDoorFouW
import Derived.Test.YtchklobblkddhaaGreatDoorFouSuL
namespace Go.Proofs.YtchklobblkddhaaGreatDoor
open Go.RowKit Go.Shelf

/-! ### The walks of finesseref23.compared, wrong, results and All. -/
def cmpR (k : Int) : Bool := decide (k = 1 ∨ k = 2 ∨ k = 3)
theorem cmpR_eq (e : Ent) (h : e.right = true) : cmpR e.k = cmpB e := by
  rcases right_k23 h with h0 | h0 | h0
  · unfold cmpR cmpB; rw [h0]; rfl
  · unfold cmpR cmpB; rw [h0]; rfl
  · have h1 : cmpB e = true := decide_eq_true (by omega)
    rw [h1]
    exact decide_eq_true h0

set_option maxRecDepth 100000 in
set_option maxHeartbeats 1000000 in
theorem r23compared (e : Ent) (he : e.Ok) (w : World) : Calls Tryz.prog 21 #[.agg e.C] w fun r w' => r = .returned (.bool (cmpR e.k)) ∧ Below w.heap.size w w' := by
  have c4 := he.1.2.1
  clear he
  generalize e.C = C at *
  generalize e.k = k at *
  have hB1 : Below w.heap.size w (w.alloc (.cells C 51)) := (Below.refl _ _).alloc (Nat.le_refl _) _
  have q4 : (w.alloc (.cells C 51)).cell? ⟨w.heap.size, 4, none⟩ = some (.int .u8 k) := (blk_cell (blk_new _ rfl) 4).trans c4
  clear c4
  obtain ⟨r, hr⟩ : ∃ r, cmpR k = r := ⟨_, rfl⟩
  rw [hr]
  have Hr := Lib.hid hr
  clear hr
  by_cases h1 : k = 1
  · subst h1
    have Hr2 := Lib.hid (show r = true from Hr.out.symm)
    go_enter Tryz.func21, Tryz.ntmps21
    go_wp2
    go_ret
    exact ⟨by rw [Hr2.out]; rfl, hB1⟩
  · have t1 : (k == 1) = false := beq_eq_false_iff_ne.2 h1
    by_cases h2 : k = 2
    · subst h2
      have Hr2 := Lib.hid (show r = true from Hr.out.symm)
      clear h1
      go_enter Tryz.func21, Tryz.ntmps21
      go_wp2
      go_ret
      exact ⟨by rw [Hr2.out]; rfl, hB1⟩
    · have t2 : (k == 2) = false := beq_eq_false_iff_ne.2 h2
      by_cases h3 : k = 3
      · subst h3
        have Hr2 := Lib.hid (show r = true from Hr.out.symm)
        clear h1 h2
        go_enter Tryz.func21, Tryz.ntmps21
        go_wp2
        go_ret
        exact ⟨by rw [Hr2.out]; rfl, hB1⟩
      · have t3 : (k == 3) = false := beq_eq_false_iff_ne.2 h3
        have Hr2 := Lib.hid (show r = false by rw [← Hr.out]; exact decide_eq_false (by omega))
        clear h1 h2 h3
        go_enter Tryz.func21, Tryz.ntmps21
        go_wp2
        go_ret
        exact ⟨by rw [Hr2.out]; rfl, hB1⟩

set_option maxRecDepth 100000 in
set_option maxHeartbeats 2000000 in
theorem r23wrong (L : List Ent) (A : Option Addr) (c : Nat) (w : World) (hO : ∀ e ∈ L, e.Ok) (hA : Rd w w.heap.size 33 A L.length (enL L)) (hn : L.length ≤ 1000000) :
    Calls Tryz.prog 18 #[.slice A L.length c] w fun e w' => e = .returned (.int .i64 (chkE L)) ∧ Below w.heap.size w w' := by
  obtain ⟨N, hN⟩ : ∃ N, chkE L = N := ⟨_, rfl⟩
  rw [hN]
  have HN := Lib.hid hN
  have HO := Lib.hid hO
  have HA := Lib.hid hA
  have HS := Lib.hid (show ∀ e ∈ L, e.C.size = 33 from fun e he => (hO e he).1.1)
  clear hN hO hA
  go_enter Tryz.func18, Tryz.ntmps18
  go_wp2
  go_loopw [3] (fun i wr => ∃ j : Nat, j ≤ L.length ∧ i = .int .i64 (j : Int) ∧ Hid (∀ q (hq : q < L.length), q < j → L[q].right = true) ∧ Below w.heap.size w wr) (fun i _ => L.length - (intOf i).toNat)
  case atStart => exact ⟨0, by omega, rfl, (fun q hq h => by omega : ∀ q (hq : q < L.length), q < 0 → L[q].right = true), Below.refl _ _⟩
  case round =>
    obtain ⟨j, hj, rfl, hz, hB⟩ := hrel
    by_cases hlt : j < L.length
    · obtain ⟨b, off, rfl, hbw, hr⟩ := rd_e HS.out HA.out j hlt
      have hr2 := Lib.hid (range_below hr hB hbw)
      have hok := HO.out _ (List.getElem_mem hlt)
      have hI := Lib.hid (hok.1.size)
      have HR := Lib.hid (fun W => r22right _ _ _ _ _ _ hok.1 hok.2.2.1 hok.2.2.2.1 hok.2.2.2.2 W)
      have HE := Lib.hid (show rightE L[j].k L[j].f L[j].o L[j].a0 L[j].a1 = L[j].right from rfl)
      rw [HE.out] at HR
      have HBad := Lib.hid (show L[j].right = false → 2 = N from fun h => by
        rw [← HN.out]; unfold chkE
        rw [if_neg (fun hall => by have := List.all_eq_true.1 hall _ (List.getElem_mem hlt); rw [h] at this; cases this)])
      have HNx := Lib.hid (show L[j].right = true → ∀ q (hq : q < L.length), q < j + 1 → L[q].right = true from fun h q hq hqj => by
        by_cases e : q < j
        · exact hz.out q hq e
        · obtain rfl : q = j := by omega
          exact h)
      have c1 : (0 : Int) ≤ (j : Int) := by omega
      have c2 : (j : Int) < (L.length : Int) := by omega
      generalize L[j].right = R at HR HBad HNx
      generalize L[j].C = C at *
      have HB := Lib.hid hB
      clear hok hr HE hB
      go_wp2_with (refine wpList_load_ent rfl 51 (.tmp 12) rfl b (off + j * 33) rfl C _ hr2.out Tryz.underlying51 rfl hI.out ?_)
      refine (HR.out _).mono ?_
      rintro ee w2 ⟨rfl, hb⟩
      have HB2 := Lib.hid (below_via HB.out hb)
      clear hb HR HB
      cases R
      · obtain rfl := HBad.out rfl
        go_wp2
        go_ret
        exact ⟨rfl, HB2.out⟩
      · have Hn := Lib.hid (HNx.out rfl)
        clear HBad HNx
        go_wp2
        go_roundw
        case rel => exact ⟨j + 1, by omega, by go_num, Hn.out, HB2.out⟩
        case measure => simp [intOf]; omega
    · obtain rfl : j = L.length := by omega
      have hall : L.all Ent.right = true := List.all_eq_true.2 (fun x hx => by
        obtain ⟨i, hi, rfl⟩ := List.getElem_of_mem hx
        exact hz.out i hi hi)
      have HN2 := Lib.hid (show (if 24 < L.length then 5 else 0) = N by rw [← HN.out]; unfold chkE; rw [if_pos hall])
      clear hall
      by_cases h24 : 24 < L.length
      · have c1 : (24 : Int) < (L.length : Int) := by omega
        obtain rfl : 5 = N := by rw [← HN2.out, if_pos h24]
        go_wp2
        go_ret
        exact ⟨rfl, hB⟩
      · have c1 : ¬ (24 : Int) < (L.length : Int) := by omega
        obtain rfl : 0 = N := by rw [← HN2.out, if_neg h24]
        go_wp2
        go_ret
        exact ⟨rfl, hB⟩

def nvTo (L : List Ent) (k : Nat) : Nat := ((L.take k).filter fun e => decide (e.k ≠ 0)).length
theorem nvTo_succ (L : List Ent) (k : Nat) (h : k < L.length) : nvTo L (k + 1) = nvTo L k + (if (L[k]).k = 0 then 0 else 1) := by
  unfold nvTo
  rw [List.take_succ_eq_append_getElem h, List.filter_append, List.length_append]
  congr 1
  by_cases e : (L[k]).k = 0
  · rw [if_pos e, List.filter_cons_of_neg (by simp [e])]; rfl
  · rw [if_neg e, List.filter_cons_of_pos (by simp [e])]; rfl
theorem nvTo_all (L : List Ent) : nvTo L L.length = notVoid L := by unfold nvTo notVoid; rw [List.take_length]
theorem nvTo_le (L : List Ent) (k : Nat) : nvTo L k ≤ k := Nat.le_trans (List.length_filter_le _ _) (by rw [List.length_take]; omega)

set_option maxRecDepth 100000 in
set_option maxHeartbeats 2000000 in
theorem r23results (L : List Ent) (A : Option Addr) (c : Nat) (w : World) (hO : ∀ e ∈ L, e.Ok) (hA : Rd w w.heap.size 33 A L.length (enL L)) (hn : L.length ≤ 1000000) :
    Calls Tryz.prog 19 #[.slice A L.length c] w fun e w' => e = .returned (.int .i64 (notVoid L : Int)) ∧ Below w.heap.size w w' := by
  have HO := Lib.hid hO
  have HA := Lib.hid hA
  have HS := Lib.hid (show ∀ e ∈ L, e.C.size = 33 from fun e he => (hO e he).1.1)
  clear hO hA
  go_enter Tryz.func19, Tryz.ntmps19
  go_wp2
  go_loopw [3, 4] (fun v i wr => ∃ j : Nat, j ≤ L.length ∧ i = .int .i64 (j : Int) ∧ v = .int .i64 (nvTo L j : Int) ∧ Below w.heap.size w wr) (fun _ i _ => L.length - (intOf i).toNat)
  case atStart => exact ⟨0, by omega, rfl, rfl, Below.refl _ _⟩
  case round =>
    obtain ⟨j, hj, rfl, rfl, hB⟩ := hrel
    by_cases hlt : j < L.length
    · obtain ⟨b, off, rfl, hbw, hr⟩ := rd_e HS.out HA.out j hlt
      have hok := HO.out _ (List.getElem_mem hlt)
      have hk := hok.2.2.2.2
      have h4 : wr.cell? ⟨b, off + j * 33 + 4, none⟩ = some (.int .u8 (L[j]).k) := (bcell hB b _ hbw).trans (hr 4 _ (by have h5 := hok.1.2.1; simpa using h5))
      have Hs := Lib.hid (nvTo_succ L j hlt)
      have hle := nvTo_le L j
      have c1 : (0 : Int) ≤ (j : Int) := by omega
      have c2 : (j : Int) < (L.length : Int) := by omega
      have HB := Lib.hid hB
      clear hok hr hB
      generalize (L[j]).k = k at h4 Hs hk
      generalize nvTo L j = q at Hs hle
      have hw := IntWalk.i64_in ((q : Int) + 1) (by omega)
      by_cases h0 : k = 0
      · subst h0
        rw [if_pos rfl] at Hs
        go_wp2
        go_roundw
        case rel => exact ⟨j + 1, hlt, by go_num, by rw [Hs.out]; rfl, HB.out⟩
        case measure => simp [intOf]; omega
      · have t0 : decide (k > 0) = true := decide_eq_true (by omega)
        have t1 : 0 < k := by omega
        rw [if_neg h0] at Hs
        go_wp2
        go_roundw
        case rel => exact ⟨j + 1, hlt, by go_num, by rw [Hs.out]; go_num, HB.out⟩
        case measure => simp [intOf]; omega
    · obtain rfl : j = L.length := by omega
      have Hv := Lib.hid (nvTo_all L)
      go_wp2
      go_ret
      exact ⟨by rw [← Hv.out]; rfl, hB⟩

/-! ### The walk of finesseref23.All. -/
set_option maxRecDepth 100000 in
set_option maxHeartbeats 2000000 in
theorem r23all_bad (L : List Ent) (A : Option Addr) (c : Nat) (w : World) (hO : ∀ e ∈ L, e.Ok) (hA : Rd w w.heap.size 33 A L.length (enL L)) (hn : L.length ≤ 1000000) (h0 : chkE L ≠ 0) :
    Calls Tryz.prog 9 #[.slice A L.length c] w fun e w' => e = .returned (.tuple #[.int .i64 0, .agg #[.int .i64 0, .int .i64 0, .int .i64 0, .int .i64 0], .int .i64 (chkE L)]) ∧ Below w.heap.size w w' := by
  have HC := Lib.hid (fun W h1 => r23wrong L A c W hO h1 hn)
  generalize chkE L = N at *
  have HA := Lib.hid hA
  have t0 : (N != 0) = true := by rw [bne_iff_ne]; exact h0
  clear hA hO
  go_enter Tryz.func9, Tryz.ntmps9
  go_upto_region 2 with fail
  obtain ⟨W1, hW1⟩ : ∃ V, (w.alloc (.cells #[.int .i64 0, .int .i64 0, .int .i64 0, .int .i64 0] 32)).alloc (.cells #[.int .i64 0, .int .i64 0, .int .i64 0, .int .i64 0] 32) = V := ⟨_, rfl⟩
  obtain ⟨g, hg⟩ : ∃ g, w.heap.size = g := ⟨_, rfl⟩
  have K3 := Lib.hid (show W1.heap[g]? = some (.cells #[.int .i64 0, .int .i64 0, .int .i64 0, .int .i64 0] 32 (0, 0)) by rw [← hW1]; exact blk_alloc (blk_new _ hg.symm) _)
  have K5 := Lib.hid (show W1.heap[g + 1]? = some (.cells #[.int .i64 0, .int .i64 0, .int .i64 0, .int .i64 0] 32 (0, 0)) by rw [← hW1]; exact blk_new _ (by simp; omega))
  have HB1 := Lib.hid (show Below w.heap.size w W1 by rw [← hW1]; exact (by repeat (first | exact Below.refl _ _ | assumption | refine Below.drew ?_ | refine below_drewN ?_ _ | refine Below.alloc ?_ (by first | omega | (simp; done) | (simp; omega)) _ | refine Below.setCell ?_ (by first | omega | (simp; done) | (simp; omega)) _)))
  have Hg := Lib.hid hg
  have hgl := blk_lt K5.out
  rw [hW1, hg]
  clear hW1 hg
  go_wp2_with fail
  refine (HC.out W1 (HA.out.go HB1.out)).mono ?_
  rintro ee w2 ⟨rfl, hb2⟩
  have k3 := blk_below K3.out hb2 (by omega)
  have k5 := blk_below K5.out hb2 hgl
  have HB2 := Lib.hid (below_via HB1.out hb2)
  have HK3 := Lib.hid k3
  have a0 := blk_cell k5 0
  have a1 := blk_cell k5 1
  have a2 := blk_cell k5 2
  have a3 := blk_cell k5 3
  have b0 := blk_cell k3 0
  have b1 := blk_cell k3 1
  have b2 := blk_cell k3 2
  have b3 := blk_cell k3 3
  have f0 := blk_free k3 0
  have f1 := blk_free k3 1
  have f2 := blk_free k3 2
  have f3 := blk_free k3 3
  clear k3 k5 hb2 HC
  go_upto_region 4 with fail
  go_region
  go_wp2
  have hgw : w.heap.size ≤ g := Nat.le_of_eq Hg.out
  have hbz : Below w.heap.size w ((((w2.drew.setCell ⟨g, 0, none⟩ (.int .i64 0)).setCell ⟨g, 1, none⟩ (.int .i64 0)).setCell ⟨g, 2, none⟩ (.int .i64 0)).setCell ⟨g, 3, none⟩ (.int .i64 0)) := (((HB2.out.drew.setCell (p := ⟨g, 0, none⟩) hgw _).setCell (p := ⟨g, 1, none⟩) hgw _).setCell (p := ⟨g, 2, none⟩) hgw _).setCell (p := ⟨g, 3, none⟩) hgw _
  have kz := blk_set (blk_set (blk_set (blk_set (HK3.out : w2.drew.heap[g]? = _) 0 (.int .i64 0)) 1 (.int .i64 0)) 2 (.int .i64 0)) 3 (.int .i64 0)
  have z0 := blk_cell kz 0
  have z1 := blk_cell kz 1
  have z2 := blk_cell kz 2
  have z3 := blk_cell kz 3
  exact bodyPost_ret (v := .tuple #[.int .i64 0, .agg #[.int .i64 0, .int .i64 0, .int .i64 0, .int .i64 0], .int .i64 N]) (by simp [results, Tryz.results9, go_sem, z0, z1, z2, z3]) rfl ⟨rfl, hbz⟩

theorem cnt4_all (L : List Ent) : cnt4 L L.length = cntC L := by unfold cnt4 cntC; rw [cntE_all, cntE_all, cntE_all, cntE_all]

set_option maxRecDepth 100000 in
set_option maxHeartbeats 2000000 in
theorem r23all_ok (L : List Ent) (A : Option Addr) (c : Nat) (w : World) (hO : ∀ e ∈ L, e.Ok) (hA : Rd w w.heap.size 33 A L.length (enL L)) (hn : L.length ≤ 1000000) (h0 : chkE L = 0) (hR : ∀ e ∈ L, e.right = true) :
    Calls Tryz.prog 9 #[.slice A L.length c] w fun e w' => e = .returned (.tuple #[.int .i64 (notVoid L : Int), .agg (cntC L), .int .i64 0]) ∧ Below w.heap.size w w' := by
  obtain ⟨n0, n1, n2, n3, hcn⟩ : ∃ n0 n1 n2 n3 : Int, cntC L = #[.int .i64 n0, .int .i64 n1, .int .i64 n2, .int .i64 n3] := ⟨_, _, _, _, rfl⟩
  rw [hcn]
  have HCn := Lib.hid hcn
  have HC := Lib.hid (fun W h1 => r23wrong L A c W hO h1 hn)
  rw [h0] at HC
  clear hcn
  have HN := Lib.hid (fun W h1 => r23results L A c W hO h1 hn)
  obtain ⟨nv, hnv⟩ : ∃ nv, notVoid L = nv := ⟨_, rfl⟩
  rw [hnv] at HN ⊢
  clear hnv
  have HA := Lib.hid hA
  have HO := Lib.hid hO
  have HR := Lib.hid hR
  have HS := Lib.hid (show ∀ e ∈ L, e.C.size = 33 from fun e he => (hO e he).1.1)
  clear hA hO hR h0
  go_enter Tryz.func9, Tryz.ntmps9
  go_upto_region 2 with fail
  obtain ⟨W1, hW1⟩ : ∃ V, (w.alloc (.cells #[.int .i64 0, .int .i64 0, .int .i64 0, .int .i64 0] 32)).alloc (.cells #[.int .i64 0, .int .i64 0, .int .i64 0, .int .i64 0] 32) = V := ⟨_, rfl⟩
  obtain ⟨g, hg⟩ : ∃ g, w.heap.size = g := ⟨_, rfl⟩
  have K3 := Lib.hid (show W1.heap[g]? = some (.cells #[.int .i64 0, .int .i64 0, .int .i64 0, .int .i64 0] 32 (0, 0)) by rw [← hW1]; exact blk_alloc (blk_new _ hg.symm) _)
  have K5 := Lib.hid (show W1.heap[g + 1]? = some (.cells #[.int .i64 0, .int .i64 0, .int .i64 0, .int .i64 0] 32 (0, 0)) by rw [← hW1]; exact blk_new _ (by simp; omega))
  have HB1 := Lib.hid (show Below w.heap.size w W1 by rw [← hW1]; exact (by repeat (first | exact Below.refl _ _ | assumption | refine Below.drew ?_ | refine below_drewN ?_ _ | refine Below.alloc ?_ (by first | omega | (simp; done) | (simp; omega)) _ | refine Below.setCell ?_ (by first | omega | (simp; done) | (simp; omega)) _)))
  have Hg := Lib.hid hg
  have hgl := blk_lt K5.out
  rw [hW1, hg]
  clear hW1 hg
  go_wp2_with fail
  refine (HC.out W1 (HA.out.go HB1.out)).mono ?_
  rintro ee w2 ⟨rfl, hb2⟩
  have HK3 := Lib.hid (blk_below K3.out hb2 (by omega))
  have HK5 := Lib.hid (blk_below K5.out hb2 hgl)
  have HB2 := Lib.hid (below_via HB1.out hb2)
  clear hb2 HC K3 K5 HB1 hgl
  go_wp2
  go_loopw [7] (fun i wr => ∃ j : Nat, j ≤ L.length ∧ i = .int .i64 (j : Int) ∧ Hid (wr.heap[g]? = some (.cells #[.int .i64 0, .int .i64 0, .int .i64 0, .int .i64 0] 32 (0, 0))) ∧ Hid (wr.heap[g + 1]? = some (.cells (cnt4 L j) 32 (0, 0))) ∧ Hid (Below w.heap.size w wr)) (fun i _ => L.length - (intOf i).toNat)
  case atStart => exact ⟨0, by omega, rfl, HK3, HK5, HB2⟩
  case round =>
    obtain ⟨j, hj, rfl, h3, h5, HB⟩ := hrel
    by_cases hlt : j < L.length
    · obtain ⟨b, off, rfl, hbw, hr⟩ := rd_e HS.out HA.out j hlt
      have hr2 := Lib.hid (range_below hr HB.out hbw)
      have hok := HO.out _ (List.getElem_mem hlt)
      have hI := Lib.hid (hok.1.size)
      have hc5 := hok.1.2.2.1
      have hf := hok.2.2.2.1
      have hf3 := right_f (HR.out _ (List.getElem_mem hlt))
      have HCo := Lib.hid (fun W => r23compared _ hok W)
      rw [cmpR_eq _ (HR.out _ (List.getElem_mem hlt))] at HCo
      have q5 : wr.cell? ⟨b, off + j * 33 + 5, none⟩ = some (.int .u8 (L[j]).f) := (bcell HB.out b _ hbw).trans (hr 5 _ (by simpa using hc5))
      have HS2 := Lib.hid (cnt4_set L j hlt)
      have HS3 := Lib.hid (cnt4_keep L j hlt)
      have hbl : b < wr.heap.size := Nat.lt_of_lt_of_le hbw HB.out.size
      obtain ⟨f, hfe⟩ : ∃ f : Nat, (L[j]).f = (f : Int) := ⟨(L[j]).f.toNat, by omega⟩
      have hf4 : f < 4 := by omega
      have hf4i : (f : Int) < 4 := by omega
      have hcl := cntE_le L j (f : Int)
      have Hcf := Lib.hid (cnt4_get L j f hf4)
      have HX := Lib.hid (fun hx => HS2.out hx f hf4 hfe)
      rw [hfe] at q5
      have c1 : (0 : Int) ≤ (j : Int) := by omega
      have c2 : (j : Int) < (L.length : Int) := by omega
      generalize cmpB L[j] = R at HCo HX HS3
      generalize (L[j]).C = C at *
      generalize cntE L j (f : Int) = m at *
      clear hok hr hc5 hf hf3 HS2 hfe
      go_wp2_with (refine wpList_load_ent rfl 51 (.tmp 22) rfl b (off + j * 33) rfl C _ hr2.out Tryz.underlying51 rfl hI.out ?_)
      refine (HCo.out _).mono ?_
      rintro ee w3 ⟨rfl, hb⟩
      have HB3 := Lib.hid (below_via HB.out hb)
      have k3 := Lib.hid (blk_below h3.out hb (blk_lt h3.out))
      have k5 := Lib.hid (blk_below h5.out hb (blk_lt h5.out))
      have p5 := keepB0 hb hbl q5
      clear hb HB HCo h3 h5 q5
      cases R
      · have Hn := Lib.hid (HS3.out rfl)
        rw [← Hn.out] at k5
        clear HS3 HX
        go_wp2
        go_roundw
        case rel => exact ⟨j + 1, by omega, by go_num, k3, k5, HB3⟩
        case measure => simp [intOf]; omega
      · have Hn := Lib.hid (HX.out rfl)
        have pf := (blk_cell k5.out f).trans Hcf.out
        have ff := blk_free k5.out f
        have hw := IntWalk.i64_in ((m : Int) + 1) (by omega)
        clear HS3 HX
        go_wp2
        go_roundw
        case rel => exact ⟨j + 1, by omega, by go_num, Lib.hid (blk_far k3.out (by simp) _), Lib.hid (by rw [← Hn.out]; exact blk_set k5.out f _), Lib.hid (HB3.out.setCell (p := ⟨g + 1, f, none⟩) (by show _ ≤ g + 1; rw [Hg.out]; omega) _)⟩
        case measure => simp [intOf]; omega
    · obtain rfl : j = L.length := by omega
      rw [cnt4_all, HCn.out] at h5
      have HN2 := Lib.hid (HN.out wr.drew (show Rd wr.drew wr.drew.heap.size 33 A L.length (enL L) from (HA.out.go HB.out : Rd wr wr.heap.size 33 A L.length (enL L))))
      have k5 := Lib.hid h5.out
      have lg3 := blk_lt h3.out
      have lg5 := blk_lt h5.out
      have hgg : g ≠ g + 1 := by omega
      have a0 := blk_cell k5.out 0
      have a1 := blk_cell k5.out 1
      have a2 := blk_cell k5.out 2
      have a3 := blk_cell k5.out 3
      have HK3 := Lib.hid h3.out
      have b0 := blk_cell HK3.out 0
      have b1 := blk_cell HK3.out 1
      have b2 := blk_cell HK3.out 2
      have b3 := blk_cell HK3.out 3
      have f0 := blk_free HK3.out 0
      have f1 := blk_free HK3.out 1
      have f2 := blk_free HK3.out 2
      have f3 := blk_free HK3.out 3
      clear h3 h5
      have HKp := Lib.hid (fun (W : World) (hb : Below wr.drew.heap.size wr.drew W) => (show (W.cell? ⟨g + 1, 0, none⟩ = some (.int .i64 n0) ∧ W.cell? ⟨g + 1, 1, none⟩ = some (.int .i64 n1) ∧ W.cell? ⟨g + 1, 2, none⟩ = some (.int .i64 n2) ∧ W.cell? ⟨g + 1, 3, none⟩ = some (.int .i64 n3)) ∧ W.heap[g]? = some (.cells #[.int .i64 0, .int .i64 0, .int .i64 0, .int .i64 0] 32 (0, 0)) ∧ Below w.heap.size w W from ⟨⟨keepB0 (W := wr.drew) hb lg5 a0, keepB0 (W := wr.drew) hb lg5 a1, keepB0 hb lg5 a2, keepB0 hb lg5 a3⟩, blk_below (w := wr.drew) HK3.out hb lg3, below_via HB.out.drew hb⟩))
      clear hn lg3 hj hlt
      go_upto_region 10 with fail
      go_region_held3 (fun w' => w'.cell? ⟨g + 1, 0, none⟩ = some (.int .i64 n0) ∧ w'.cell? ⟨g + 1, 1, none⟩ = some (.int .i64 n1) ∧ w'.cell? ⟨g + 1, 2, none⟩ = some (.int .i64 n2) ∧ w'.cell? ⟨g + 1, 3, none⟩ = some (.int .i64 n3))
        ((first | exact ⟨a0, a1, a2, a3⟩ | exact (HKp.out _ hba).1 | exact ⟨keepS (keepS (keepS (keepS y0 hgg _) hgg _) hgg _) hgg _, keepS (keepS (keepS (keepS y1 hgg _) hgg _) hgg _) hgg _, keepS (keepS (keepS (keepS y2 hgg _) hgg _) hgg _) hgg _, keepS (keepS (keepS (keepS y3 hgg _) hgg _) hgg _) hgg _⟩))
        ((go_at_call 19; (with_reducible refine (HN2.out).mono ?_); rintro ee wa ⟨rfl, hba⟩; obtain ⟨⟨y0, y1, y2, y3⟩, ky, hbw⟩ := HKp.out wa hba; have KY := Lib.hid ky; have e0 := blk_cell ky 0; have e1 := blk_cell ky 1; have e2 := blk_cell ky 2; have e3 := blk_cell ky 3; have z0 := blk_free ky 0; have z1 := blk_free ky 1; have z2 := blk_free ky 2; have z3 := blk_free ky 3; clear ky))
      go_wp2
      have hgw : w.heap.size ≤ g := Nat.le_of_eq Hg.out
      have hbz : Below w.heap.size w ((((wa.setCell ⟨g, 0, none⟩ (.int .i64 n0)).setCell ⟨g, 1, none⟩ (.int .i64 n1)).setCell ⟨g, 2, none⟩ (.int .i64 n2)).setCell ⟨g, 3, none⟩ (.int .i64 n3)) := (((hbw.setCell (p := ⟨g, 0, none⟩) hgw _).setCell (p := ⟨g, 1, none⟩) hgw _).setCell (p := ⟨g, 2, none⟩) hgw _).setCell (p := ⟨g, 3, none⟩) hgw _
      have kz := blk_set (blk_set (blk_set (blk_set KY.out 0 (.int .i64 n0)) 1 (.int .i64 n1)) 2 (.int .i64 n2)) 3 (.int .i64 n3)
      have z0 := blk_cell kz 0
      have z1 := blk_cell kz 1
      have z2 := blk_cell kz 2
      have z3 := blk_cell kz 3
      exact bodyPost_ret (v := .tuple #[.int .i64 (nv : Int), .agg #[.int .i64 n0, .int .i64 n1, .int .i64 n2, .int .i64 n3], .int .i64 0]) (by simp [results, Tryz.results9, go_sem, z0, z1, z2, z3]) rfl ⟨rfl, hbz⟩

end Go.Proofs.YtchklobblkddhaaGreatDoor
