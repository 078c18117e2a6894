/- The walk of finesselaw23.alone. -/
import Derived.Test.YtchklobblkddhaaDoorFouMadeW
import Derived.Test.YtchklobblkddhaaDoorFouSuL
namespace Go.Proofs.YtchklobblkddhaaDoor
open Go.RowKit Go.Shelf

/-- No entry of the field of one is split, among the first. -/
def aloneTo (L : List Ent) (f : Int) (k : Nat) : Bool := (L.take k).all fun e => !(decide (e.k = 3) && decide (e.f = f))
theorem aloneTo_succ (L : List Ent) (f : Int) (k : Nat) (h : k < L.length) : aloneTo L f (k + 1) = (aloneTo L f k && !(decide ((L[k]).k = 3) && decide ((L[k]).f = f))) := by
  unfold aloneTo
  rw [List.take_succ_eq_append_getElem h, List.all_append]; simp
theorem aloneTo_bad (L : List Ent) (f : Int) (k : Nat) (h : k < L.length) (hk : (L[k]).k = 3) (hf : (L[k]).f = f) : aloneTo L f L.length = false := by
  unfold aloneTo
  rw [List.take_length, List.all_eq_false]
  exact ⟨L[k], List.getElem_mem h, by simp [hk, hf]⟩

set_option maxRecDepth 100000 in
set_option maxHeartbeats 4000000 in
theorem alone_any (L : List Ent) (A : Option Addr) (c : Nat) (at_ : Nat) (hat : at_ < L.length) (w : World) (hO : ∀ e ∈ L, e.Ok) (hA : Rd w w.heap.size 33 A L.length (enL L)) (hl : L.length ≤ 9223372036854775807) :
    Calls Tryd.prog 17 #[.slice A L.length c, .int .i64 at_] w fun e w' => e = .returned (.bool (aloneTo L (L[at_]).f L.length)) ∧ Below w.heap.size w w' := by
  have HO := Lib.hid hO
  have HA := Lib.hid hA
  have hmA := List.getElem_mem hat
  obtain ⟨F, hF⟩ : ∃ F, (L[at_]).f = F := ⟨_, rfl⟩
  obtain ⟨b, off, rfl, hbw, hrA⟩ := rd_e (fun e he => (HO.out e he).1.1) HA.out at_ hat
  have hA5 : w.cell? ⟨b, off + at_ * 33 + 5, none⟩ = some (.int .u8 F) := by
    rw [← hF]
    exact hrA 5 _ (by have h5 := (HO.out _ hmA).1.2.2.1; simpa using h5)
  rw [hF]
  have HA5 := Lib.hid hA5
  clear hO hA hrA hA5 hF hmA
  go_enter Tryd.func17, Tryd.ntmps17
  go_wp2
  go_loopw [9] (fun i wr => ∃ k : Nat, k ≤ L.length ∧ i = .int .i64 (k : Int) ∧ Hid (aloneTo L F k = true) ∧ Below w.heap.size w wr) (fun i _ => L.length - (intOf i).toNat)
  case atStart => exact ⟨0, by omega, rfl, Lib.hid rfl, Below.refl _ _⟩
  case round =>
    obtain ⟨k, hk, rfl, Hal, hbel⟩ := hrel
    have Hbel := Lib.hid hbel
    have hrs := hbel.size
    clear hbel
    by_cases hlt : k < L.length
    · obtain ⟨b0, off0, hA0, hbw0, hr⟩ := rd_e (fun e he => (HO.out e he).1.1) HA.out k hlt
      obtain ⟨rfl, rfl⟩ : b = b0 ∧ off = off0 := by injection hA0 with hA0; injection hA0 with h1 h2; exact ⟨h1, h2⟩
      have hr2 := Lib.hid (range_below hr Hbel.out hbw)
      have hA5 := (bcell Hbel.out b (off + at_ * 33 + 5) hbw).trans HA5.out
      have hm := List.getElem_mem hlt
      have hok := HO.out _ hm
      have hI := Lib.hid (hok.1.size)
      have h33 := Lib.hid (hok.1.1)
      have hone := Lib.hid (hok.2.1)
      have c1 : (0 : Int) ≤ (k : Int) := by omega
      have c2 : (k : Int) < (L.length : Int) := by omega
      have c3 : (0 : Int) ≤ (at_ : Int) := by omega
      have c4 : (at_ : Int) < (L.length : Int) := by omega
      have hc4 := hok.1.2.1
      have hc5 := hok.1.2.2.1
      clear hr hm hA0 hbw0
      go_upto_region 4 with (first | (refine wpList_load_ent rfl 32 (.tmp 11) rfl b (off + k * 33) rfl _ _ hr2.out Tryd.underlying32 rfl hI.out ?_) | (refine plain_alloc_to rfl 32 rfl enZ enZ_zero ?_) | (refine wpList_store_new23 rfl 32 _ _ rfl (L[k]).C _ _ rfl rfl hI.out (by rw [h33.out]; rfl) hone.out ?_))
      obtain ⟨W5, hW5⟩ : ∃ V, wr.alloc (.cells (L[k]).C 32) = V := ⟨_, rfl⟩
      obtain ⟨G, hG⟩ : ∃ g, wr.heap.size = g := ⟨_, rfl⟩
      have KG := Lib.hid (show W5.heap[G]? = some (.cells (L[k]).C 32 (0, 0)) by rw [← hW5]; exact blk_new _ hG.symm)
      have HB5 := Lib.hid (show Below w.heap.size w W5 by rw [← hW5]; exact Hbel.out.alloc hrs _)
      have q4 := (blk_cell KG.out 4).trans hc4
      have q5 := (blk_cell KG.out 5).trans hc5
      have qA := (bcell HB5.out b (off + at_ * 33 + 5) hbw).trans HA5.out
      rw [hW5, hG]
      clear hW5 hG hc4 hc5 hr2 Hbel hrs hA5
      have hbd : Below w.heap.size w W5.drew := HB5.out.drew
      have HS := Lib.hid (aloneTo_succ L F k hlt)
      have HBad := Lib.hid (aloneTo_bad L F k hlt)
      by_cases h3 : (L[k]).k = 3
      · rw [h3] at q4
        by_cases hF : (L[k]).f = F
        · have hres := HBad.out h3 hF
          have Hres := Lib.hid hres
          rw [hF] at q5
          clear HS HBad h3 hF hres Hal
          refine wp_region_held_drew (S := (fun wq => wq.cell? ⟨G, 4, none⟩ = some (.int .u8 3) ∧ wq.cell? ⟨G, 5, none⟩ = some (.int .u8 F) ∧ wq.cell? ⟨b, off + at_ * 33 + 5, none⟩ = some (.int .u8 F))) (by kernel_rfl) ⟨q4, q5, qA⟩ (fun hHeldA => ?_)
          refine take_named23 (i := 0) (d := 13) (v := ?vA0) rfl (by kernel_rfl) (by kernel_rfl) (by kernel_rfl) (by kernel_rfl) (fun _ _ _ h => h) (Or.inl ⟨by kernel_rfl, ?yA0⟩) (by assumption) ?_
          case yA0 => intro wq hSw; (try dsimp only at hSw); go_simp; (try with_reducible rfl)
          (try simp only [Act.put, List.setIfInBounds_toArray, List.set_cons_zero, List.set_cons_succ])
          refine take_named23 (i := 1) (d := 14) (v := ?vA1) rfl (by kernel_rfl) (by kernel_rfl) (by kernel_rfl) (by kernel_rfl) (fun _ _ _ h => h) (Or.inl ⟨by kernel_rfl, ?yA1⟩) (by assumption) ?_
          case yA1 => intro wq hSw; (try dsimp only at hSw); go_simp; (try with_reducible rfl)
          (try simp only [Act.put, List.setIfInBounds_toArray, List.set_cons_zero, List.set_cons_succ])
          refine take_named23 (i := 2) (d := 15) (v := ?vA2) rfl (by kernel_rfl) (by kernel_rfl) (by kernel_rfl) (by kernel_rfl) (fun _ _ _ h => h) (Or.inl ⟨by kernel_rfl, ?yA2⟩) (by assumption) ?_
          case yA2 => intro wq hSw; (try dsimp only at hSw); go_simp; (try with_reducible rfl)
          (try simp only [Act.put, List.setIfInBounds_toArray, List.set_cons_zero, List.set_cons_succ])
          refine take_named23 (i := 3) (d := 16) (v := ?vA3) rfl (by kernel_rfl) (by kernel_rfl) (by kernel_rfl) (by kernel_rfl) (fun _ _ _ h => h) (Or.inl ⟨by kernel_rfl, ?yA3⟩) (by assumption) ?_
          case yA3 => intro wq hSw; (try dsimp only at hSw); go_simp; (try with_reducible rfl)
          (try simp only [Act.put, List.setIfInBounds_toArray, List.set_cons_zero, List.set_cons_succ])
          refine take_named23 (i := 4) (d := 17) (v := ?vA4) rfl (by kernel_rfl) (by kernel_rfl) (by kernel_rfl) (by kernel_rfl) (fun _ _ _ h => h) (Or.inl ⟨by kernel_rfl, ?yA4⟩) (by assumption) ?_
          case yA4 => intro wq hSw; (try dsimp only at hSw); go_simp; (try with_reducible rfl)
          (try simp only [Act.put, List.setIfInBounds_toArray, List.set_cons_zero, List.set_cons_succ])
          refine take_named23 (i := 5) (d := 18) (v := ?vA5) rfl (by kernel_rfl) (by kernel_rfl) (by kernel_rfl) (by kernel_rfl) (fun _ _ _ h => h) (Or.inl ⟨by kernel_rfl, ?yA5⟩) (by assumption) ?_
          case yA5 => intro wq hSw; (try dsimp only at hSw); go_simp; (try with_reducible rfl)
          (try simp only [Act.put, List.setIfInBounds_toArray, List.set_cons_zero, List.set_cons_succ])
          refine take_named23 (i := 6) (d := 19) (v := ?vA6) rfl (by kernel_rfl) (by kernel_rfl) (by kernel_rfl) (by kernel_rfl) (fun _ _ _ h => h) (Or.inl ⟨by kernel_rfl, ?yA6⟩) (by assumption) ?_
          case yA6 => intro wq hSw; (try dsimp only at hSw); go_simp; (try with_reducible rfl)
          (try simp only [Act.put, List.setIfInBounds_toArray, List.set_cons_zero, List.set_cons_succ])
          refine take_named23 (i := 7) (d := 20) (v := ?vA7) rfl (by kernel_rfl) (by kernel_rfl) (by kernel_rfl) (by kernel_rfl) (fun _ _ _ h => h) (Or.inl ⟨by kernel_rfl, ?yA7⟩) (by assumption) ?_
          case yA7 => intro wq hSw; (try dsimp only at hSw); go_simp; (try with_reducible rfl)
          (try simp only [Act.put, List.setIfInBounds_toArray, List.set_cons_zero, List.set_cons_succ])
          refine take_named23 (i := 8) (d := 21) (v := ?vA8) rfl (by kernel_rfl) (by kernel_rfl) (by kernel_rfl) (by kernel_rfl) (fun _ _ _ h => h) (Or.inl ⟨by kernel_rfl, ?yA8⟩) (by assumption) ?_
          case yA8 => intro wq hSw; (try dsimp only at hSw); go_simp; (try with_reducible rfl)
          (try simp only [Act.put, List.setIfInBounds_toArray, List.set_cons_zero, List.set_cons_succ])
          refine take_named23 (i := 9) (d := 22) (v := ?vA9) rfl (by kernel_rfl) (by kernel_rfl) (by kernel_rfl) (by kernel_rfl) (fun _ _ _ h => h) (Or.inl ⟨by kernel_rfl, ?yA9⟩) (by assumption) ?_
          case yA9 => intro wq hSw; (try dsimp only at hSw); go_simp; (try with_reducible rfl)
          (try simp only [Act.put, List.setIfInBounds_toArray, List.set_cons_zero, List.set_cons_succ])
          refine take_named23 (i := 10) (d := 23) (v := ?vA10) rfl (by kernel_rfl) (by kernel_rfl) (by kernel_rfl) (by kernel_rfl) (fun _ _ _ h => h) (Or.inl ⟨by kernel_rfl, ?yA10⟩) (by assumption) ?_
          case yA10 => intro wq hSw; (try dsimp only at hSw); go_simp; (try with_reducible rfl)
          (try simp only [Act.put, List.setIfInBounds_toArray, List.set_cons_zero, List.set_cons_succ])
          refine take_named23 (i := 11) (d := 24) (v := ?vA11) rfl (by kernel_rfl) (by kernel_rfl) (by kernel_rfl) (by kernel_rfl) (fun _ _ _ h => h) (Or.inl ⟨by kernel_rfl, ?yA11⟩) (by assumption) ?_
          case yA11 => intro wq hSw; (try dsimp only at hSw); go_simp; (try with_reducible rfl)
          (try simp only [Act.put, List.setIfInBounds_toArray, List.set_cons_zero, List.set_cons_succ])
          refine take_named23 (i := 12) (d := 25) (v := ?vA12) rfl (by kernel_rfl) (by kernel_rfl) (by kernel_rfl) (by kernel_rfl) (fun _ _ _ h => h) (Or.inl ⟨by kernel_rfl, ?yA12⟩) (by assumption) ?_
          case yA12 => intro wq hSw; (try dsimp only at hSw); go_simp; (try with_reducible rfl)
          (try simp only [Act.put, List.setIfInBounds_toArray, List.set_cons_zero, List.set_cons_succ])
          refine wpAnyH_done (by kernel_rfl) ?_ _
          clear hHeldA
          go_wp2
          go_ret
          exact ⟨by rw [Hres.out]; rfl, HB5.out.drew⟩
        · have hfb : ((L[k]).f == F) = false := beq_eq_false_iff_ne.2 hF
          have Hal2 := Lib.hid (show aloneTo L F (k + 1) = true by rw [HS.out, Hal.out, h3, decide_eq_false hF]; rfl)
          clear HS HBad h3 Hal
          generalize (L[k]).f = f at q5 hfb
          clear hF
          refine wp_region_held_drew (S := (fun wq => wq.cell? ⟨G, 4, none⟩ = some (.int .u8 3) ∧ wq.cell? ⟨G, 5, none⟩ = some (.int .u8 f) ∧ wq.cell? ⟨b, off + at_ * 33 + 5, none⟩ = some (.int .u8 F))) (by kernel_rfl) ⟨q4, q5, qA⟩ (fun hHeldB => ?_)
          refine take_named23 (i := 0) (d := 13) (v := ?vB0) rfl (by kernel_rfl) (by kernel_rfl) (by kernel_rfl) (by kernel_rfl) (fun _ _ _ h => h) (Or.inl ⟨by kernel_rfl, ?yB0⟩) (by assumption) ?_
          case yB0 => intro wq hSw; (try dsimp only at hSw); go_simp; (try with_reducible rfl)
          (try simp only [Act.put, List.setIfInBounds_toArray, List.set_cons_zero, List.set_cons_succ])
          refine take_named23 (i := 1) (d := 14) (v := ?vB1) rfl (by kernel_rfl) (by kernel_rfl) (by kernel_rfl) (by kernel_rfl) (fun _ _ _ h => h) (Or.inl ⟨by kernel_rfl, ?yB1⟩) (by assumption) ?_
          case yB1 => intro wq hSw; (try dsimp only at hSw); go_simp; (try with_reducible rfl)
          (try simp only [Act.put, List.setIfInBounds_toArray, List.set_cons_zero, List.set_cons_succ])
          refine take_named23 (i := 2) (d := 15) (v := ?vB2) rfl (by kernel_rfl) (by kernel_rfl) (by kernel_rfl) (by kernel_rfl) (fun _ _ _ h => h) (Or.inl ⟨by kernel_rfl, ?yB2⟩) (by assumption) ?_
          case yB2 => intro wq hSw; (try dsimp only at hSw); go_simp; (try with_reducible rfl)
          (try simp only [Act.put, List.setIfInBounds_toArray, List.set_cons_zero, List.set_cons_succ])
          refine take_named23 (i := 3) (d := 16) (v := ?vB3) rfl (by kernel_rfl) (by kernel_rfl) (by kernel_rfl) (by kernel_rfl) (fun _ _ _ h => h) (Or.inl ⟨by kernel_rfl, ?yB3⟩) (by assumption) ?_
          case yB3 => intro wq hSw; (try dsimp only at hSw); go_simp; (try with_reducible rfl)
          (try simp only [Act.put, List.setIfInBounds_toArray, List.set_cons_zero, List.set_cons_succ])
          refine take_named23 (i := 4) (d := 17) (v := ?vB4) rfl (by kernel_rfl) (by kernel_rfl) (by kernel_rfl) (by kernel_rfl) (fun _ _ _ h => h) (Or.inl ⟨by kernel_rfl, ?yB4⟩) (by assumption) ?_
          case yB4 => intro wq hSw; (try dsimp only at hSw); go_simp; (try with_reducible rfl)
          (try simp only [Act.put, List.setIfInBounds_toArray, List.set_cons_zero, List.set_cons_succ])
          refine take_named23 (i := 5) (d := 18) (v := ?vB5) rfl (by kernel_rfl) (by kernel_rfl) (by kernel_rfl) (by kernel_rfl) (fun _ _ _ h => h) (Or.inl ⟨by kernel_rfl, ?yB5⟩) (by assumption) ?_
          case yB5 => intro wq hSw; (try dsimp only at hSw); go_simp; (try with_reducible rfl)
          (try simp only [Act.put, List.setIfInBounds_toArray, List.set_cons_zero, List.set_cons_succ])
          refine take_named23 (i := 6) (d := 19) (v := ?vB6) rfl (by kernel_rfl) (by kernel_rfl) (by kernel_rfl) (by kernel_rfl) (fun _ _ _ h => h) (Or.inl ⟨by kernel_rfl, ?yB6⟩) (by assumption) ?_
          case yB6 => intro wq hSw; (try dsimp only at hSw); go_simp; (try with_reducible rfl)
          (try simp only [Act.put, List.setIfInBounds_toArray, List.set_cons_zero, List.set_cons_succ])
          refine take_named23 (i := 7) (d := 20) (v := ?vB7) rfl (by kernel_rfl) (by kernel_rfl) (by kernel_rfl) (by kernel_rfl) (fun _ _ _ h => h) (Or.inl ⟨by kernel_rfl, ?yB7⟩) (by assumption) ?_
          case yB7 => intro wq hSw; (try dsimp only at hSw); go_simp; (try with_reducible rfl)
          (try simp only [Act.put, List.setIfInBounds_toArray, List.set_cons_zero, List.set_cons_succ])
          refine take_named23 (i := 8) (d := 21) (v := ?vB8) rfl (by kernel_rfl) (by kernel_rfl) (by kernel_rfl) (by kernel_rfl) (fun _ _ _ h => h) (Or.inl ⟨by kernel_rfl, ?yB8⟩) (by assumption) ?_
          case yB8 => intro wq hSw; (try dsimp only at hSw); go_simp; (try with_reducible rfl)
          (try simp only [Act.put, List.setIfInBounds_toArray, List.set_cons_zero, List.set_cons_succ])
          refine take_named23 (i := 9) (d := 22) (v := ?vB9) rfl (by kernel_rfl) (by kernel_rfl) (by kernel_rfl) (by kernel_rfl) (fun _ _ _ h => h) (Or.inl ⟨by kernel_rfl, ?yB9⟩) (by assumption) ?_
          case yB9 => intro wq hSw; (try dsimp only at hSw); go_simp; (try with_reducible rfl)
          (try simp only [Act.put, List.setIfInBounds_toArray, List.set_cons_zero, List.set_cons_succ])
          refine take_named23 (i := 10) (d := 23) (v := ?vB10) rfl (by kernel_rfl) (by kernel_rfl) (by kernel_rfl) (by kernel_rfl) (fun _ _ _ h => h) (Or.inl ⟨by kernel_rfl, ?yB10⟩) (by assumption) ?_
          case yB10 => intro wq hSw; (try dsimp only at hSw); go_simp; (try with_reducible rfl)
          (try simp only [Act.put, List.setIfInBounds_toArray, List.set_cons_zero, List.set_cons_succ])
          refine take_named23 (i := 11) (d := 24) (v := ?vB11) rfl (by kernel_rfl) (by kernel_rfl) (by kernel_rfl) (by kernel_rfl) (fun _ _ _ h => h) (Or.inl ⟨by kernel_rfl, ?yB11⟩) (by assumption) ?_
          case yB11 => intro wq hSw; (try dsimp only at hSw); go_simp; (try with_reducible rfl)
          (try simp only [Act.put, List.setIfInBounds_toArray, List.set_cons_zero, List.set_cons_succ])
          refine take_named23 (i := 12) (d := 25) (v := ?vB12) rfl (by kernel_rfl) (by kernel_rfl) (by kernel_rfl) (by kernel_rfl) (fun _ _ _ h => h) (Or.inl ⟨by kernel_rfl, ?yB12⟩) (by assumption) ?_
          case yB12 => intro wq hSw; (try dsimp only at hSw); go_simp; (try with_reducible rfl)
          (try simp only [Act.put, List.setIfInBounds_toArray, List.set_cons_zero, List.set_cons_succ])
          refine wpAnyH_done (by kernel_rfl) ?_ _
          clear hHeldB
          go_wp2
          go_roundw
          case rel => exact ⟨k + 1, hlt, by go_num, Hal2, HB5.out.drew⟩
          case measure => simp [intOf]; omega
      · have h3b : ((L[k]).k == 3) = false := beq_eq_false_iff_ne.2 h3
        have Hal2 := Lib.hid (show aloneTo L F (k + 1) = true by rw [HS.out, Hal.out, decide_eq_false h3]; rfl)
        clear HS HBad Hal
        generalize (L[k]).k = kk at q4 h3b
        clear h3
        refine wp_region_held_drew (S := (fun wq => wq.cell? ⟨G, 4, none⟩ = some (.int .u8 kk) ∧ wq.cell? ⟨G, 5, none⟩ = some (.int .u8 (L[k]).f) ∧ wq.cell? ⟨b, off + at_ * 33 + 5, none⟩ = some (.int .u8 F))) (by kernel_rfl) ⟨q4, q5, qA⟩ (fun hHeldC => ?_)
        refine take_named23 (i := 0) (d := 13) (v := ?vC0) rfl (by kernel_rfl) (by kernel_rfl) (by kernel_rfl) (by kernel_rfl) (fun _ _ _ h => h) (Or.inl ⟨by kernel_rfl, ?yC0⟩) (by assumption) ?_
        case yC0 => intro wq hSw; (try dsimp only at hSw); go_simp; (try with_reducible rfl)
        (try simp only [Act.put, List.setIfInBounds_toArray, List.set_cons_zero, List.set_cons_succ])
        refine take_named23 (i := 1) (d := 14) (v := ?vC1) rfl (by kernel_rfl) (by kernel_rfl) (by kernel_rfl) (by kernel_rfl) (fun _ _ _ h => h) (Or.inl ⟨by kernel_rfl, ?yC1⟩) (by assumption) ?_
        case yC1 => intro wq hSw; (try dsimp only at hSw); go_simp; (try with_reducible rfl)
        (try simp only [Act.put, List.setIfInBounds_toArray, List.set_cons_zero, List.set_cons_succ])
        refine take_named23 (i := 2) (d := 15) (v := ?vC2) rfl (by kernel_rfl) (by kernel_rfl) (by kernel_rfl) (by kernel_rfl) (fun _ _ _ h => h) (Or.inl ⟨by kernel_rfl, ?yC2⟩) (by assumption) ?_
        case yC2 => intro wq hSw; (try dsimp only at hSw); go_simp; (try with_reducible rfl)
        (try simp only [Act.put, List.setIfInBounds_toArray, List.set_cons_zero, List.set_cons_succ])
        refine take_named23 (i := 3) (d := 16) (v := ?vC3) rfl (by kernel_rfl) (by kernel_rfl) (by kernel_rfl) (by kernel_rfl) (fun _ _ _ h => h) (Or.inl ⟨by kernel_rfl, ?yC3⟩) (by assumption) ?_
        case yC3 => intro wq hSw; (try dsimp only at hSw); go_simp; (try with_reducible rfl)
        (try simp only [Act.put, List.setIfInBounds_toArray, List.set_cons_zero, List.set_cons_succ])
        refine take_named23 (i := 4) (d := 17) (v := undef) rfl (by kernel_rfl) (by kernel_rfl) (by kernel_rfl) (by kernel_rfl) (fun _ _ _ h => h) (Or.inr ⟨by kernel_rfl, rfl⟩) (by assumption) ?_
        (try simp only [Act.put, List.setIfInBounds_toArray, List.set_cons_zero, List.set_cons_succ])
        refine take_named23 (i := 5) (d := 18) (v := undef) rfl (by kernel_rfl) (by kernel_rfl) (by kernel_rfl) (by kernel_rfl) (fun _ _ _ h => h) (Or.inr ⟨by kernel_rfl, rfl⟩) (by assumption) ?_
        (try simp only [Act.put, List.setIfInBounds_toArray, List.set_cons_zero, List.set_cons_succ])
        refine take_named23 (i := 6) (d := 19) (v := undef) rfl (by kernel_rfl) (by kernel_rfl) (by kernel_rfl) (by kernel_rfl) (fun _ _ _ h => h) (Or.inr ⟨by kernel_rfl, rfl⟩) (by assumption) ?_
        (try simp only [Act.put, List.setIfInBounds_toArray, List.set_cons_zero, List.set_cons_succ])
        refine take_named23 (i := 7) (d := 20) (v := undef) rfl (by kernel_rfl) (by kernel_rfl) (by kernel_rfl) (by kernel_rfl) (fun _ _ _ h => h) (Or.inr ⟨by kernel_rfl, rfl⟩) (by assumption) ?_
        (try simp only [Act.put, List.setIfInBounds_toArray, List.set_cons_zero, List.set_cons_succ])
        refine take_named23 (i := 8) (d := 21) (v := undef) rfl (by kernel_rfl) (by kernel_rfl) (by kernel_rfl) (by kernel_rfl) (fun _ _ _ h => h) (Or.inr ⟨by kernel_rfl, rfl⟩) (by assumption) ?_
        (try simp only [Act.put, List.setIfInBounds_toArray, List.set_cons_zero, List.set_cons_succ])
        refine take_named23 (i := 9) (d := 22) (v := undef) rfl (by kernel_rfl) (by kernel_rfl) (by kernel_rfl) (by kernel_rfl) (fun _ _ _ h => h) (Or.inr ⟨by kernel_rfl, rfl⟩) (by assumption) ?_
        (try simp only [Act.put, List.setIfInBounds_toArray, List.set_cons_zero, List.set_cons_succ])
        refine take_named23 (i := 10) (d := 23) (v := undef) rfl (by kernel_rfl) (by kernel_rfl) (by kernel_rfl) (by kernel_rfl) (fun _ _ _ h => h) (Or.inr ⟨by kernel_rfl, rfl⟩) (by assumption) ?_
        (try simp only [Act.put, List.setIfInBounds_toArray, List.set_cons_zero, List.set_cons_succ])
        refine take_named23 (i := 11) (d := 24) (v := undef) rfl (by kernel_rfl) (by kernel_rfl) (by kernel_rfl) (by kernel_rfl) (fun _ _ _ h => h) (Or.inr ⟨by kernel_rfl, rfl⟩) (by assumption) ?_
        (try simp only [Act.put, List.setIfInBounds_toArray, List.set_cons_zero, List.set_cons_succ])
        refine take_named23 (i := 12) (d := 25) (v := ?vC12) rfl (by kernel_rfl) (by kernel_rfl) (by kernel_rfl) (by kernel_rfl) (fun _ _ _ h => h) (Or.inl ⟨by kernel_rfl, ?yC12⟩) (by assumption) ?_
        case yC12 => intro wq hSw; (try dsimp only at hSw); go_simp; (try with_reducible rfl)
        (try simp only [Act.put, List.setIfInBounds_toArray, List.set_cons_zero, List.set_cons_succ])
        refine wpAnyH_done (by kernel_rfl) ?_ _
        clear hHeldC
        go_wp2
        go_roundw
        case rel => exact ⟨k + 1, hlt, by go_num, Hal2, HB5.out.drew⟩
        case measure => simp [intOf]; omega
    · obtain rfl : k = L.length := by omega
      go_wp2
      go_ret
      exact ⟨by rw [Hal.out]; rfl, Hbel.out⟩
end Go.Proofs.YtchklobblkddhaaDoor
