/- The walk of the statement NeubergSmall. (Written by gennsmall.py.) -/
import Derived.Test.YtlobdeakgoicpaaDoorR21S
import Derived.Test.YtlobdeakgoicpaaDoorNeuAwakeW
namespace Go.Proofs.YtlobdeakgoicpaaDoor
open Go.RowKit

set_option maxHeartbeats 4000000 in
set_option maxRecDepth 100000 in
theorem nsmall_walk (w : World) (hL : Laid w) : Calls Tryd.prog 5 #[] w fun e w' => e = .returned (.bool true) ∧ Below w.heap.size w w' := by
  have HW := Lib.hid (fun (W : World) (hW : Below w.heap.size w W) => nawake W (hL.below hW hL.lt))
  clear hL
  go_enter Tryd.func5, Tryd.ntmps5
  go_wp2_with fail
  go_loopw [1] (fun i wr => ∃ a : Int, -1 ≤ a ∧ a ≤ 26 ∧ i = .int .i64 a ∧ Below w.heap.size w wr) (fun i _ => (26 - intOf i).toNat)
  case atStart => exact ⟨-1, by omega, by omega, rfl, Below.refl _ _⟩
  case round =>
    obtain ⟨all, ha1, ha2, rfl, hbel⟩ := hrel
    have hsr := hbel.size
    by_cases hlt : all ≤ 25
    case neg =>
      have t0 : decide (all ≤ 25) = false := decide_eq_false hlt
      go_wp2_with fail
      refine (HW.out _ hbel).mono ?_
      rintro e w1 ⟨rfl, hb⟩
      go_wp2
      go_ret
      exact ⟨rfl, hbel.trans (hb.mono hsr)⟩
    case pos =>
      have t1 : decide (all ≤ 25) = true := decide_eq_true hlt
      go_wp2_with fail
      go_loopw [2] (fun i wr => ∃ n : Int, -1 ≤ n ∧ n ≤ 26 ∧ i = .int .i64 n ∧ Below w.heap.size w wr) (fun i _ => (26 - intOf i).toNat)
      case atStart => exact ⟨-1, by omega, by omega, rfl, hbel⟩
      case round =>
        clear hbel hsr
        obtain ⟨n, hn1, hn2, rfl, hbel⟩ := hrel
        have hsr := hbel.size
        by_cases hltn : n ≤ 25
        case neg =>
          have t2 : decide (n ≤ 25) = false := decide_eq_false hltn
          go_wp2_with fail
          go_loopw [17] (fun i wr => ∃ p : Int, -1 ≤ p ∧ p ≤ 102 ∧ i = .int .i64 p ∧ Below w.heap.size w wr) (fun i _ => (102 - intOf i).toNat)
          case atStart => exact ⟨-1, by omega, by omega, rfl, hbel⟩
          case round =>
            clear hbel hsr
            obtain ⟨p, hp1, hp2, rfl, hbel⟩ := hrel
            have hsr := hbel.size
            by_cases hltp : p ≤ 101
            case neg =>
              have t3 : decide (p ≤ 101) = false := decide_eq_false hltp
              go_wp2
              go_roundw
              case rel => exact ⟨all + 1, by omega, by omega, by go_num, hbel⟩
              case measure => simp [intOf]; omega
            case pos =>
              have t3 : decide (p ≤ 101) = true := decide_eq_true hltp
              obtain ⟨qx, qy, qe, HQ1, HQ2⟩ := share_pair p all (by omega)
              have HQ1 := Lib.hid HQ1
              have HQ2 := Lib.hid HQ2
              go_wp2_with fail
              refine (HQ1.out _).mono ?_
              rintro e wa ⟨rfl, hba⟩
              obtain ⟨W1, hW1⟩ : ∃ W1, wa.alloc (.cells #[.int .i64 qx, .int .i64 qy] 23) = W1 := ⟨_, rfl⟩
              obtain ⟨G1, hG1⟩ : ∃ G, wa.heap.size = G := ⟨_, rfl⟩
              have hc : Below wr.heap.size wr W1 := by rw [← hW1]; exact hba.alloc hba.size _
              have n1 : W1.heap[G1]? = some (.cells #[.int .i64 qx, .int .i64 qy] 23) := by rw [← hW1]; exact blk_new _ hG1.symm
              have l1 := blk_lt n1
              have B1 := hbel.trans (hc.mono hsr)
              go_upto_region 25 with fail
              (try rw [hW1]); (try rw [hG1])
              clear hW1 hG1 hba hc
              go_wp2_with fail
              refine (HQ2.out _).mono ?_
              rintro e wa ⟨rfl, hba⟩
              obtain ⟨W2, hW1⟩ : ∃ W1, wa.alloc (.cells #[.int .i64 qx, .int .i64 qy] 23) = W1 := ⟨_, rfl⟩
              obtain ⟨G2, hG1⟩ : ∃ G, wa.heap.size = G := ⟨_, rfl⟩
              have hc : Below W1.heap.size W1 W2 := by rw [← hW1]; exact hba.alloc hba.size _
              have n2 : W2.heap[G2]? = some (.cells #[.int .i64 qx, .int .i64 qy] 23) := by rw [← hW1]; exact blk_new _ hG1.symm
              have n1 := blk_below n1 hc l1
              have B2 := B1.trans (hc.mono B1.size)
              go_upto_region 26 with fail
              (try rw [hW1]); (try rw [hG1])
              clear hW1 hG1 hba hc l1 B1 HQ1 HQ2
              have d0 := blk_cell n1 0
              have d1 := blk_cell n1 1
              have d2 := blk_cell n2 0
              have d3 := blk_cell n2 1
              clear n1 n2
              go_wp2
              go_roundw
              case rel => exact ⟨p + 1, by omega, by omega, by go_num, B2⟩
              case measure => simp [intOf]; omega
        case pos =>
          have t2 : decide (n ≤ 25) = true := decide_eq_true hltn
          obtain ⟨T1, hT1⟩ : ∃ T1, 2 * (n - 1) = T1 := ⟨_, rfl⟩
          obtain ⟨T2, hT2⟩ : ∃ T2, 20 * n - 19 = T2 := ⟨_, rfl⟩
          have a1 : IntKind.i64.wrap (n - 1) = n - 1 := IntWalk.i64_in _ (by omega)
          have a2 : IntKind.i64.wrap (2 * (n - 1)) = T1 := by rw [hT1]; exact IntWalk.i64_in _ (by omega)
          have a3 : IntKind.i64.wrap (20 * n) = 20 * n := IntWalk.i64_in _ (by omega)
          have a4 : IntKind.i64.wrap (20 * n - 19) = T2 := by rw [hT2]; exact IntWalk.i64_in _ (by omega)
          have hFb : ∀ f ∈ ([(0, 1), (n - 1, 1), (T1, 1), (T2, 10), (-1, 3), (2, 2)] : List Pt), (-9223372036854775808 ≤ f.1 ∧ f.1 ≤ 9223372036854775807) ∧ (-9223372036854775808 ≤ f.2 ∧ f.2 ≤ 9223372036854775807) := by
            intro f hf
            simp only [List.mem_cons, List.not_mem_nil, or_false] at hf
            rcases hf with rfl | rfl | rfl | rfl | rfl | rfl <;> dsimp only <;> omega
          have HFb := Lib.hid hFb
          have A1 := Lib.hid a1
          have A2 := Lib.hid a2
          have A3 := Lib.hid a3
          have A4 := Lib.hid a4
          clear hFb a1 a2 a3 a4 hT1 hT2
          go_wp2_with fail
          refine (q_any _ _ _).mono ?_
          rintro e v1 ⟨rfl, hba⟩
          have hbq := hba
          have sq := hbq.size
          clear hba
          have a1 := A1.out
          go_wp2_with fail
          clear a1
          refine (q_any _ _ _).mono ?_
          rintro e v2 ⟨rfl, hba⟩
          have hbq := hbq.trans (hba.mono sq)
          have sq := hbq.size
          clear hba
          have a1 := A1.out
          have a2 := A2.out
          go_wp2_with fail
          clear a1 a2
          refine (q_any _ _ _).mono ?_
          rintro e v3 ⟨rfl, hba⟩
          have hbq := hbq.trans (hba.mono sq)
          have sq := hbq.size
          clear hba
          have a3 := A3.out
          have a4 := A4.out
          go_wp2_with fail
          clear a3 a4
          refine (q_any _ _ _).mono ?_
          rintro e v4 ⟨rfl, hba⟩
          have hbq := hbq.trans (hba.mono sq)
          have sq := hbq.size
          clear hba
          go_wp2_with fail
          refine (q_any _ _ _).mono ?_
          rintro e v5 ⟨rfl, hba⟩
          have hbq := hbq.trans (hba.mono sq)
          have sq := hbq.size
          clear hba
          go_wp2_with fail
          refine (q_any _ _ _).mono ?_
          rintro e v6 ⟨rfl, hba⟩
          have hbq := hbq.trans (hba.mono sq)
          have sq := hbq.size
          clear hba
          obtain ⟨W2, hW2⟩ : ∃ W2, v6.alloc (.cells #[.int .i64 0, .int .i64 1, .int .i64 (n - 1), .int .i64 1, .int .i64 T1, .int .i64 1, .int .i64 T2, .int .i64 10, .int .i64 (-1), .int .i64 3, .int .i64 2, .int .i64 2] 23) = W2 := ⟨_, rfl⟩
          obtain ⟨G, hG⟩ : ∃ G, v6.heap.size = G := ⟨_, rfl⟩
          have nF : W2.heap[G]? = some (.cells #[.int .i64 0, .int .i64 1, .int .i64 (n - 1), .int .i64 1, .int .i64 T1, .int .i64 1, .int .i64 T2, .int .i64 10, .int .i64 (-1), .int .i64 3, .int .i64 2, .int .i64 2] 23) := by rw [← hW2]; exact blk_new _ hG.symm
          have hr := Lib.hid (show Rd W2 W2.heap.size 2 (some ⟨G, 0, none⟩) ([(0, 1), (n - 1, 1), (T1, 1), (T2, 10), (-1, 3), (2, 2)] : List Pt).length (pC [(0, 1), (n - 1, 1), (T1, 1), (T2, 10), (-1, 3), (2, 2)]) from rd_of_blk nF rfl rfl)
          have hB2 : Below w.heap.size w W2 := by rw [← hW2]; exact (hbel.trans (hbq.mono hsr)).alloc (by omega) _
          have sB2 := hB2.size
          go_wp2_with fail
          (try rw [hW2]); (try rw [hG])
          clear hW2 hG nF hbq sq hbel hsr HW
          obtain ⟨FL, hFL⟩ : ∃ FL : List Pt, [(0, 1), (n - 1, 1), (T1, 1), (T2, 10), (-1, 3), (2, 2)] = FL := ⟨_, rfl⟩
          rw [hFL] at hr HFb
          have h6 : FL.length = 6 := by rw [← hFL]; rfl
          clear hFL
          go_loopw [46] (fun i wr => ∃ k : Nat, k ≤ 6 ∧ i = .int .i64 (k : Int) ∧ Below W2.heap.size W2 wr) (fun i _ => 6 - (intOf i).toNat)
          case atStart => exact ⟨0, by omega, rfl, Below.refl _ _⟩
          case round =>
            obtain ⟨k, hk, rfl, hbel⟩ := hrel
            have hsr := hbel.size
            by_cases hltk : k < 6
            case pos =>
              have t3 : decide ((k : Int) < 6) = true := decide_eq_true (by omega)
              obtain ⟨b, off, hbo, hbw, e0, e1⟩ := rd_p hr.out k (by omega)
              obtain ⟨rfl, rfl⟩ : b = G ∧ off = 0 := by cases hbo; exact ⟨rfl, rfl⟩
              clear hbo
              have hfb := HFb.out _ (List.getElem_mem (show k < FL.length by omega))
              have c0 := (bcell hbel b (0 + k * 2) hbw).trans e0
              have c1 := (bcell hbel b (0 + k * 2 + 1) hbw).trans e1
              rw [Nat.zero_add] at c0 c1
              clear e0 e1
              generalize FL[k]'_ = f at hfb c0 c1
              obtain ⟨f1, f2⟩ := f
              dsimp only at hfb c0 c1
              obtain ⟨ax, ay, ae, HA1, HA2⟩ := adjust_pair f1 f2 n all hfb.1 hfb.2
              obtain ⟨px, py, pe, HP1, HP2⟩ := percent_pair f1 f2 all hfb.1 hfb.2
              have HA1 := Lib.hid HA1
              have HA2 := Lib.hid HA2
              have HP1 := Lib.hid HP1
              have HP2 := Lib.hid HP2
              clear hfb
              have B := hB2.trans (hbel.mono sB2)
              obtain ⟨W3, hW3⟩ : ∃ W3, wr.alloc (.cells #[.int .i64 f1, .int .i64 f2] 23) = W3 := ⟨_, rfl⟩
              obtain ⟨GM, hGM⟩ : ∃ G, wr.heap.size = G := ⟨_, rfl⟩
              have nM : W3.heap[GM]? = some (.cells #[.int .i64 f1, .int .i64 f2] 23) := by rw [← hW3]; exact blk_new _ hGM.symm
              have lM := blk_lt nM
              have hb3 : Below wr.heap.size wr W3 := by rw [← hW3]; exact (by repeat (first | exact Below.refl _ _ | assumption | refine Below.drew ?_ | refine below_drewN ?_ _ | refine Below.alloc ?_ (by first | omega | (simp; done) | (simp; omega)) _ | refine Below.setCell ?_ (by first | omega | (simp; done) | (simp; omega)) _))
              have B0 := hbel.trans (hb3.mono hsr)
              go_upto_region 10 with fail
              (try rw [hW3]); (try rw [hGM])
              clear hW3 hGM hb3 hsr hbel c0 c1 B hbw
              have c0 := blk_cell nM 0
              have c1 := blk_cell nM 1
              go_wp2_with fail
              clear c0 c1
              refine (HA1.out _).mono ?_
              rintro e wa ⟨rfl, hba⟩
              obtain ⟨V1, hW1⟩ : ∃ W1, wa.alloc (.cells #[.int .i64 ax, .int .i64 ay] 23) = W1 := ⟨_, rfl⟩
              obtain ⟨G1, hG1⟩ : ∃ G, wa.heap.size = G := ⟨_, rfl⟩
              have hc : Below W3.heap.size W3 V1 := by rw [← hW1]; exact hba.alloc hba.size _
              have n1 : V1.heap[G1]? = some (.cells #[.int .i64 ax, .int .i64 ay] 23) := by rw [← hW1]; exact blk_new _ hG1.symm
              have l1 := blk_lt n1
              have nM := blk_below nM hc lM
              have lM := blk_lt nM
              have B1 := B0.trans (hc.mono B0.size)
              go_upto_region 11 with fail
              (try rw [hW1]); (try rw [hG1])
              clear hW1 hG1 hba hc HA1
              have c0 := blk_cell nM 0
              have c1 := blk_cell nM 1
              go_wp2_with fail
              clear c0 c1
              refine (HA2.out _).mono ?_
              rintro e wa ⟨rfl, hba⟩
              obtain ⟨V2, hW1⟩ : ∃ W1, wa.alloc (.cells #[.int .i64 ax, .int .i64 ay] 23) = W1 := ⟨_, rfl⟩
              obtain ⟨G2, hG1⟩ : ∃ G, wa.heap.size = G := ⟨_, rfl⟩
              have hc : Below V1.heap.size V1 V2 := by rw [← hW1]; exact hba.alloc hba.size _
              have n2 : V2.heap[G2]? = some (.cells #[.int .i64 ax, .int .i64 ay] 23) := by rw [← hW1]; exact blk_new _ hG1.symm
              have l2 := blk_lt n2
              have nM := blk_below nM hc lM
              have lM := blk_lt nM
              have n1 := blk_below n1 hc l1
              have l1 := blk_lt n1
              have B2 := B1.trans (hc.mono B1.size)
              go_upto_region 12 with fail
              (try rw [hW1]); (try rw [hG1])
              clear hW1 hG1 hba hc HA2
              have c0 := blk_cell nM 0
              have c1 := blk_cell nM 1
              go_wp2_with fail
              clear c0 c1
              refine (HP1.out _).mono ?_
              rintro e wa ⟨rfl, hba⟩
              obtain ⟨V3, hW1⟩ : ∃ W1, wa.alloc (.cells #[.int .i64 px, .int .i64 py] 23) = W1 := ⟨_, rfl⟩
              obtain ⟨G3, hG1⟩ : ∃ G, wa.heap.size = G := ⟨_, rfl⟩
              have hc : Below V2.heap.size V2 V3 := by rw [← hW1]; exact hba.alloc hba.size _
              have n3 : V3.heap[G3]? = some (.cells #[.int .i64 px, .int .i64 py] 23) := by rw [← hW1]; exact blk_new _ hG1.symm
              have l3 := blk_lt n3
              have nM := blk_below nM hc lM
              have lM := blk_lt nM
              have n1 := blk_below n1 hc l1
              have l1 := blk_lt n1
              have n2 := blk_below n2 hc l2
              have l2 := blk_lt n2
              have B3 := B2.trans (hc.mono B2.size)
              go_upto_region 13 with fail
              (try rw [hW1]); (try rw [hG1])
              clear hW1 hG1 hba hc HP1
              have c0 := blk_cell nM 0
              have c1 := blk_cell nM 1
              go_wp2_with fail
              clear c0 c1
              refine (HP2.out _).mono ?_
              rintro e wa ⟨rfl, hba⟩
              obtain ⟨V4, hW1⟩ : ∃ W1, wa.alloc (.cells #[.int .i64 px, .int .i64 py] 23) = W1 := ⟨_, rfl⟩
              obtain ⟨G4, hG1⟩ : ∃ G, wa.heap.size = G := ⟨_, rfl⟩
              have hc : Below V3.heap.size V3 V4 := by rw [← hW1]; exact hba.alloc hba.size _
              have n4 : V4.heap[G4]? = some (.cells #[.int .i64 px, .int .i64 py] 23) := by rw [← hW1]; exact blk_new _ hG1.symm
              have l4 := blk_lt n4
              have n1 := blk_below n1 hc l1
              have l1 := blk_lt n1
              have n2 := blk_below n2 hc l2
              have l2 := blk_lt n2
              have n3 := blk_below n3 hc l3
              have l3 := blk_lt n3
              have B4 := B3.trans (hc.mono B3.size)
              go_upto_region 14 with fail
              (try rw [hW1]); (try rw [hG1])
              clear hW1 hG1 hba hc HP2
              clear nM lM
              have d0 := blk_cell n1 0
              have d1 := blk_cell n1 1
              have d2 := blk_cell n2 0
              have d3 := blk_cell n2 1
              have d4 := blk_cell n3 0
              have d5 := blk_cell n3 1
              have d6 := blk_cell n4 0
              have d7 := blk_cell n4 1
              clear n1 n2 n3 n4 l1 l2 l3 l4 B0 B1 B2 B3
              go_wp2
              go_roundw
              case rel => exact ⟨k + 1, by omega, by go_num, B4⟩
              case measure => simp [intOf]; omega
            case neg =>
              have t3 : decide ((k : Int) < 6) = false := decide_eq_false (by omega)
              obtain ⟨sx, se, HS1, HS2⟩ := sum_pair n all
              have HS1 := Lib.hid HS1
              have HS2 := Lib.hid HS2
              have B := hB2.trans (hbel.mono sB2)
              go_wp2_with fail
              refine (HS1.out _).mono ?_
              rintro e wx ⟨rfl, rfl⟩
              go_wp2_with fail
              refine (HS2.out _).mono ?_
              rintro e wx ⟨rfl, rfl⟩
              go_wp2
              go_roundw
              case rel => exact ⟨n + 1, by omega, by omega, by go_num, B⟩
              case measure => simp [intOf]; omega

end Go.Proofs.YtlobdeakgoicpaaDoor
