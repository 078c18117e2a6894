/- The walk of finesselaw23.Made: a list of entries in small numbers. -/
import Derived.Test.YtchklobblkddhaaDoorFouAwkW
import Derived.Test.YtchklobblkddhaaDoorAdjMadeW3
import Derived.Test.YtchklobblkddhaaDoorAdjMadeLaw
namespace Go.Proofs.YtchklobblkddhaaDoor
open Go.RowKit Go.Shelf

/-- The cells of small numbers. -/
def smL (S : List SmE) : List Value := S.flatMap fun x => (smA x).toList
theorem smL_len (S : List SmE) : (smL S).length = S.length * 14 := by
  induction S with
  | nil => rfl
  | cons a S ih =>
    have e : smL (a :: S) = (smA a).toList ++ smL S := rfl
    rw [e, List.length_append, ih]
    simp [smA]; omega
theorem smL_get (S : List SmE) : ∀ (k : Nat) (hk : k < S.length) (j : Nat), j < 14 → (smL S)[k * 14 + j]? = (smA S[k])[j]? := by
  induction S with
  | nil => intro k hk; simp at hk
  | cons a S ih =>
    intro k hk j hj
    have e : smL (a :: S) = (smA a).toList ++ smL S := rfl
    have hl : (smA a).toList.length = 14 := rfl
    rw [e]
    cases k with
    | zero => rw [List.getElem?_append_left (by omega)]; simp
    | succ k =>
      have := ih k (by simpa using hk) j hj
      rw [List.getElem?_append_right (by omega)]
      simp only [List.getElem_cons_succ]
      rw [← this, hl]
      congr 1
      omega
theorem rd_sm {w : World} {B : Nat} {A : Option Addr} {S : List SmE} (h : Rd w B 14 A S.length (smL S)) (k : Nat) (hk : k < S.length) :
    ∃ b off, A = some ⟨b, off, none⟩ ∧ b < B ∧ w.rangeAt b (off + k * 14) (smA S[k]).toList := by
  obtain ⟨b, off, e, hb, hc⟩ := h.pos (by omega)
  refine ⟨b, off, e, hb, fun j v hv => ?_⟩
  have hj : j < 14 := by
    obtain ⟨hj, _⟩ := List.getElem?_eq_some_iff.1 hv
    simpa [smA] using hj
  have hlen := smL_len S
  have h1 := hc (k * 14 + j) (by omega)
  rw [smL_get S k hk j hj] at h1
  rw [Nat.add_assoc, h1]
  simpa using hv
/-- An entry that is made. -/
def mkE (x : SmE) : Ent := ⟨madeC x, x.k % 5, x.f % 4, madeO x, madeA0 x, madeA1 x⟩
theorem mkE_ok (x : SmE) (hx : x.Ok) : (mkE x).Ok := by
  refine ⟨enCells_ok _ _ _ _ _, enCells_one _ _ _ _ _, madeO_ok x hx, ?_, ?_⟩
  · show 0 ≤ x.f % 4 ∧ x.f % 4 ≤ 255; omega
  · show 0 ≤ x.k % 5 ∧ x.k % 5 ≤ 255; omega
theorem mkE_right (x : SmE) (hx : x.Ok) : (mkE x).right = true := made_right22 x hx
def madeLE (S : List SmE) : List Ent := (S.take 24).map mkE
theorem madeLE_ok (S : List SmE) (h : ∀ x ∈ S, x.Ok) : ∀ e ∈ madeLE S, e.Ok := fun e he => by
  obtain ⟨x, hx, rfl⟩ := List.mem_map.1 he
  exact mkE_ok x (h x (List.mem_of_mem_take hx))
theorem madeLE_right (S : List SmE) (h : ∀ x ∈ S, x.Ok) : ∀ e ∈ madeLE S, e.right = true := fun e he => by
  obtain ⟨x, hx, rfl⟩ := List.mem_map.1 he
  exact mkE_right x (h x (List.mem_of_mem_take hx))
theorem madeLE_len (S : List SmE) : (madeLE S).length = min 24 S.length := by unfold madeLE; rw [List.length_map, List.length_take]
def madeTo (S : List SmE) (k : Nat) : List Ent := (S.take k).map mkE
theorem madeTo_succ (S : List SmE) (k : Nat) (h : k < S.length) : madeTo S (k + 1) = madeTo S k ++ [mkE S[k]] := by
  unfold madeTo; rw [List.take_succ_eq_append_getElem h, List.map_append]; rfl
theorem madeTo_len (S : List SmE) (k : Nat) (h : k ≤ S.length) : (madeTo S k).length = k := by unfold madeTo; rw [List.length_map, List.length_take]; omega
theorem enL_app (L M : List Ent) : enL (L ++ M) = enL L ++ enL M := List.flatMap_append

def smZ : Array Value := #[.int .u8 0, .int .u8 0, .int .u8 0, .int .u8 0, .int .u8 0, .int .u8 0, .int .u8 0, .int .u8 0, .int .u8 0, .int .u8 0, .int .u8 0, .int .u8 0, .int .u8 0, .int .u8 0]
theorem smZ_zero : (Tryd.prog.info? 61).map (·.zero) = some (some (.agg smZ)) := by kernel_rfl
theorem sm_size (x : SmE) : (Tryd.prog.info? 61).map (·.size) = some (smA x).size := by kernel_rfl
theorem sm_one (x : SmE) : (smA x).all (·.oneCell') = true := by simp [smA, Value.oneCell']
theorem madeC_size (x : SmE) : (madeC x).size = 33 := rfl
theorem madeC_one (x : SmE) : ∀ u ∈ (madeC x).toList, u.oneCell' = true := fun u hu => by
  have h := enCells_one (x.k % 5) (x.f % 4) (madeO x) (madeA0 x) (madeA1 x)
  exact Array.all_eq_true_iff_forall_mem.1 h u (by simpa [madeC] using hu)

set_option maxRecDepth 100000 in
set_option maxHeartbeats 2000000 in
theorem fmade23 (S : List SmE) (A : Option Addr) (c : Nat) (w : World) (hA : Rd w w.heap.size 14 A S.length (smL S)) (hok : ∀ x ∈ S, x.Ok) (hc : S.length ≤ c) (hm : c ≤ 9223372036854775807) :
    Calls Tryd.prog 8 #[.slice A S.length c] w fun e w' => ∃ v, e = .returned v ∧ w'.ownsRow w.heap.size 32 33 v (madeLE S).length (enL (madeLE S)) ∧ Below w.heap.size w w' := by
  obtain ⟨i0, hi, hz0, hz1, hz2⟩ := info_parts info_entry23
  obtain ⟨N, hN⟩ : ∃ N, min 24 S.length = N := ⟨_, rfl⟩
  have hN1 : N ≤ 24 ∧ N ≤ S.length := by omega
  have hT : madeLE S = madeTo S N := by
    unfold madeLE madeTo
    by_cases h : 24 ≤ S.length
    · rw [show N = 24 by omega]
    · rw [List.take_of_length_le (by omega), List.take_of_length_le (by omega)]
  rw [hT, madeTo_len S N hN1.2]
  have hif : min ((S.length : Int)) 24 = (N : Int) := by omega
  have hif2 : (if (24 : Int) < (S.length : Int) then (24 : Int) else (S.length : Int)) = (N : Int) := by split <;> omega
  have hif3 : (if (S.length : Int) < 24 then (S.length : Int) else (24 : Int)) = (N : Int) := by split <;> omega
  have hcN : (N : Int) ≤ (c : Int) := by omega
  have hN0 : (0 : Int) ≤ (N : Int) := by omega
  have HA := Lib.hid hA
  have HOk := Lib.hid hok
  clear hA hok hT hN
  go_enter Tryd.func8, Tryd.ntmps8
  go_wp2
  go_loopw [3, 12] (fun v i wr => ∃ (k : Nat), k ≤ N ∧ i = .int .i64 (k : Int) ∧ wr.ownsRow w.heap.size 32 33 v k (enL (madeTo S k)) ∧ Below w.heap.size w wr) (fun _ i _ => N - (intOf i).toNat)
  case atStart => exact ⟨0, Nat.zero_le _, rfl, own_nil, Below.refl _ _⟩
  case round =>
    obtain ⟨k, hk, rfl, hown, hbel⟩ := hrel
    have Hown := Lib.hid hown
    have Hbel := Lib.hid hbel
    obtain ⟨Av, cv, rfl⟩ := own_form hown
    have hsr := hbel.size
    clear hown hbel
    by_cases hlt : k < N
    · have hlS : k < S.length := by omega
      obtain ⟨b, off, rfl, hbw, hr⟩ := rd_sm HA.out k hlS
      have hr2 := Lib.hid (range_below hr Hbel.out hbw)
      have HSz := Lib.hid (sm_size S[k])
      have HOn := Lib.hid (sm_one S[k])
      have HM := Lib.hid (fun W => made_any22 S[k] (HOk.out _ (List.getElem_mem hlS)) W)
      have HSu := Lib.hid (show enL (madeTo S (k + 1)) = enL (madeTo S k) ++ (madeC S[k]).toList by rw [madeTo_succ S k hlS, enL_app]; congr 1)
      have HFi := Lib.hid (fills_one (size := 33) (Z := enZ) (C := madeC S[k]) (madeC_size _))
      have HCo := Lib.hid (madeC_one S[k])
      have HCl := Lib.hid (show (madeC S[k]).toList.length = 33 by simp [madeC_size])
      have c1 : (0 : Int) ≤ (k : Int) := by omega
      have c2 : (k : Int) < (N : Int) := by omega
      clear hr
      generalize hcm : madeC S[k] = cm at HM HSu HFi HCo HCl
      generalize smA S[k] = sx at hr2 HSz HOn HM
      clear hcm
      have hsx : sx.size = 14 := by
        have h := HSz.out
        have h2 := sm_size ⟨0, 0, 0, fun _ => 0, fun _ => 0, fun _ => 0⟩
        rw [h] at h2
        exact Option.some.inj h2
      have HSx := Lib.hid hsx
      clear hsx
      go_upto_region 5 with (first | (refine wpList_load_ent rfl 61 (.tmp 14) rfl b (off + k * 14) rfl _ _ hr2.out Tryd.underlying61 rfl HSz.out ?_) | (refine plain_alloc_to rfl 61 rfl smZ smZ_zero ?_) | (refine wpList_store_new23 rfl 61 _ _ rfl sx _ _ rfl rfl HSz.out (by rw [HSx.out]; rfl) HOn.out ?_))
      obtain ⟨W5, hW5⟩ : ∃ V, wr.alloc (.cells sx 61) = V := ⟨_, rfl⟩
      obtain ⟨G, hG⟩ : ∃ g, wr.heap.size = g := ⟨_, rfl⟩
      have KG := Lib.hid (show W5.heap[G]? = some (.cells sx 61 (0, 0)) by rw [← hW5]; exact blk_new _ hG.symm)
      have HO5 := Lib.hid (show W5.ownsRow w.heap.size 32 33 (.slice Av k cv) k (enL (madeTo S k)) by rw [← hW5]; exact Hown.out.alloc _)
      have HB5 := Lib.hid (show Below w.heap.size w W5 by rw [← hW5]; exact Hbel.out.alloc hsr _)
      rw [hW5, hG]
      clear hW5 hG hr2 Hown Hbel
      go_wp2_with (refine wpList_load_row rfl 61 (.tmp 5) rfl G rfl 61 sx _ _ KG.out Tryd.underlying61 rfl HSz.out ?_)
      refine (HM.out _).mono ?_
      rintro ee w6 ⟨rfl, hb6⟩
      have HO6 := Lib.hid (own_below HO5.out hb6 (Nat.le_refl _))
      have HB6 := Lib.hid (below_via HB5.out hb6)
      have hs6 : w.heap.size ≤ w6.heap.size := Nat.le_trans HB5.out.size hb6.size
      clear hb6 HO5
      go_wp2_with (first | (refine wpList_buildSlice_to rfl 23 32 1 _ rfl i0 (.agg enZ) 33 cm Tryd.underlying23 hi hz0 hz1 (by decide) (by decide) ?hf ?_) | (at_builtin; refine wpList_append_lies _ (by rfl) (.tmp 16) (.tmp 19) 23 (by rfl) w.heap.size 32 i0 (.agg enZ) 33 152 Tryd.underlying23 hi hz0 hz1 hz2 rfl (by decide) (.slice Av k cv) k (enL (madeTo S k)) (by rfl) ?b1 ⟨w6.heap.size, 0, none⟩ 1 1 cm.toList (by rfl) ?b0 ?b2 HCo.out (by decide) ?b4 ?b5 ?b6 (w6.heap.size + 1) ?b7 ?_))
      case hf => exact HFi.out
      case b0 => rw [HCl.out]
      case b1 => exact HO6.out.alloc _
      case b2 => exact World.news_of_block (blk_new _ rfl)
      case b4 => unfold maxLen; omega
      case b5 => omega
      case b6 => simp; omega
      case b7 => simp
      intro g4 cap4 w7 hown7 hgr7 hat7 hlt7
      have hb7 := below_grown23 (HO6.out.alloc _) hgr7 (by simp; omega)
      have HB7 := Lib.hid ((HB6.out.alloc hs6 _).trans hb7)
      have HO7 := Lib.hid (show w7.ownsRow w.heap.size 32 33 (.slice (some ⟨g4, 0, none⟩) (k + 1) cap4) (k + 1) (enL (madeTo S (k + 1))) by rw [HSu.out]; exact hown7)
      clear hown7 hgr7 hat7 hlt7 hb7
      go_wp2
      go_roundw
      case rel => exact ⟨k + 1, hlt, by go_num, HO7.out, HB7.out⟩
      case measure => simp [intOf]; omega
    · obtain rfl : k = N := by omega
      go_wp2
      go_ret
      exact ⟨_, rfl, Hown.out, Hbel.out⟩

end Go.Proofs.YtchklobblkddhaaDoor
