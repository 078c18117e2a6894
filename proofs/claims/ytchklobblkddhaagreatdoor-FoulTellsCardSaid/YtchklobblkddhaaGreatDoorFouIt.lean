/- The iterator of the entries of a field: its maker, and itself. -/
import Derived.Test.YtchklobblkddhaaGreatDoorFouW
import Derived.Test.YtchklobblkddhaaGreatDoorRoundReg
import Derived.RangeFuncNested
import Derived.RangeFuncBound
import Derived.RangeFuncCalls
import Derived.RangeFuncLeaves
import Derived.Shelf.Abstract
import Derived.Shelf.RegionOpen
import Derived.OwnWalkIn
import Derived.TacticsInMore
import Derived.LoopNIn
import Derived.LoopIn
namespace Go.Proofs.YtchklobblkddhaaGreatDoor
open Go.RowKit Go.Shelf

attribute [local go_sem] Oper.semAt_some

theorem fentries_any (A : Option Addr) (m c : Nat) (f : Int) (w : World) : Calls Tryz.prog 24 #[.slice A m c, .int .u8 f] w fun e w' => e = .returned (.func (.func 35) #[] #[.pointer (some ⟨w.heap.size, 0, none⟩), .pointer (some ⟨w.heap.size + 1, 0, none⟩)]) ∧ (w.alloc (.cells #[.slice A m c] 22)).alloc (.cells #[.int .u8 f] 5) = w' := by
  go_enter Tryz.func24, Tryz.ntmps24
  go_wp2
  go_ret
  exact ⟨rfl, rfl⟩

/-- An entry is yielded for a field. -/
def selE (f : Int) (e : Ent) : Bool := cmpB e && decide (e.f = f)
/-- An index of an entry of a field that is compared. -/
abbrev Sel (L : List Ent) (f : Int) : Type := { x : Fin L.length // selE f (L[x.1]) = true }
/-- The entries of a field, of the first k. -/
def itTo (L : List Ent) (f : Int) : (k : Nat) → k ≤ L.length → List (Sel L f)
  | 0, _ => []
  | k + 1, h => itTo L f k (by omega) ++ (if hs : selE f (L[k]'(by omega)) = true then [⟨⟨k, by omega⟩, hs⟩] else [])
theorem itTo_len (L : List Ent) (f : Int) : ∀ (k : Nat) (h : k ≤ L.length), (itTo L f k h).length ≤ k := by
  intro k
  induction k with
  | zero => intro h; exact Nat.le_refl _
  | succ k ih =>
    intro h
    have := ih (by omega)
    unfold itTo
    rw [List.length_append]
    split <;> simp <;> omega
theorem itTo_yes (L : List Ent) (f : Int) (k : Nat) (h : k + 1 ≤ L.length) (hs : selE f (L[k]'(by omega)) = true) : itTo L f (k + 1) h = itTo L f k (by omega) ++ [⟨⟨k, by omega⟩, hs⟩] := by
  show itTo L f k _ ++ _ = _
  rw [dif_pos hs]
theorem itTo_no (L : List Ent) (f : Int) (k : Nat) (h : k + 1 ≤ L.length) (hs : selE f (L[k]'(by omega)) = false) : itTo L f (k + 1) h = itTo L f k (by omega) := by
  show itTo L f k _ ++ _ = _
  rw [dif_neg (by rw [hs]; decide), List.append_nil]
theorem itTo_mono (L : List Ent) (f : Int) (k : Nat) (hk : k ≤ L.length) : ∀ (m : Nat) (hm : m ≤ L.length), k ≤ m → (itTo L f k hk).length ≤ (itTo L f m hm).length := by
  intro m
  induction m with
  | zero => intro hm h; obtain rfl : k = 0 := by omega
            exact Nat.le_refl _
  | succ m ih =>
    intro hm h
    by_cases e : k = m + 1
    · subst e; exact Nat.le_refl _
    · have h1 := ih (by omega) (by omega)
      refine Nat.le_trans h1 ?_
      show _ ≤ (itTo L f m _ ++ _).length
      rw [List.length_append]
      exact Nat.le_add_right _ _
/-- All that is yielded. -/
def itAll (L : List Ent) (f : Int) : List (Sel L f) := itTo L f L.length (Nat.le_refl _)
theorem itTo_lt (L : List Ent) (f : Int) (k : Nat) (h : k + 1 ≤ L.length) (hs : selE f (L[k]'(by omega)) = true) : (itTo L f k (by omega)).length < (itAll L f).length := by
  have h1 := itTo_mono L f (k + 1) h L.length (Nat.le_refl _) h
  rw [itTo_yes L f k h hs, List.length_append] at h1
  exact h1
/-- The blocks that the iterator reads lie as they lay. -/
def KeepE (Bs Bf : Nat) (A : Option Addr) (X Y : World) : Prop := Y.heap[Bs]? = X.heap[Bs]? ∧ Y.heap[Bf]? = X.heap[Bf]? ∧ ∀ b off, A = some ⟨b, off, none⟩ → Y.heap[b]? = X.heap[b]?
theorem keepE_t {Bs Bf : Nat} {A : Option Addr} {X Y Z : World} (h : KeepE Bs Bf A X Y) (k : KeepE Bs Bf A Y Z) : KeepE Bs Bf A X Z := ⟨k.1.trans h.1, k.2.1.trans h.2.1, fun b off e => (k.2.2 b off e).trans (h.2.2 b off e)⟩
theorem abide_below {β : Type} {B : Nat} {J : β → World → Prop} (h : AbidesFrom B J) {s : β} {W W' : World} (hs : J s W) (hb : Below W.heap.size W W') : J s W' :=
  h s W W' none hs ⟨hb.os, hb.tape, hb.output, hb.size, fun k hk _ => hb.block k hk⟩ (fun r e => by cases e)

theorem wide_load_ent {n : Nat} {P : Program} {ops : Array Oper} {rest : List Oper} {o : Oper} {a : Act} {w : World} {Q : Exit → Act → World → Prop} (hgd : o.guard = none) (ty : TypeId) (x : Operand) (ho : o.op = .load ty x)
    (b off : Nat) (hx : a.eval x = .pointer (some ⟨b, off, none⟩)) (C : Array Value) (d : TypeDesc) (hc : w.rangeAt b off C.toList)
    (hu : P.underlying ty = some d) (hd : d.isRow = true) (hi : (P.info? ty).map (·.size) = some C.size)
    (h : wpListIn Fence.wide n P ops Q rest (a.put o.dst (.agg C)) w) : wpListIn Fence.wide n P ops Q (o :: rest) a w :=
  wpListIn_plain hgd fun _ hK => op_wide (wp_load_mid ty x ho b off hx C.toList d hc hu hd (by simpa using hi) (hK _ _ (by simpa using h)))

theorem wide_store_new {n : Nat} {P : Program} {ops : Array Oper} {rest : List Oper} {o : Oper} {a : Act} {w : World} {Q : Exit → Act → World → Prop} (hgd : o.guard = none) (ty : TypeId) (x y : Operand) (ho : o.op = .store ty x y)
    (cells : Array Value) (t : TypeId) (old : Array Value) (hx : a.eval x = .pointer (some ⟨w.heap.size, 0, none⟩)) (hy : a.eval y = .agg cells)
    (hi : (P.info? ty).map (·.size) = some cells.size) (hold : old.size = cells.size) (h1 : cells.all (·.oneCell') = true)
    (h : wpListIn Fence.wide n P ops Q rest (a.put o.dst undef) (w.alloc (.cells cells t))) : wpListIn Fence.wide n P ops Q (o :: rest) a (w.alloc (.cells old t)) := by
  refine wide_store_row hgd ty x y ho w.heap.size cells hx hy t old (heap_alloc_last w _) hi hold h1 ?_
  rw [World.setRow_alloc_new]; exact h
theorem wide_load_row_g {n : Nat} {P : Program} {ops : Array Oper} {rest : List Oper} {o : Oper} {a : Act} {w : World} {Q : Exit → Act → World → Prop} (hw : Region.wanted o (yielded ops a.tmps) = true) (ty : TypeId) (x : Operand) (ho : o.op = .load ty x)
    (g : Nat) (hx : a.eval x = .pointer (some ⟨g, 0, none⟩)) (t : TypeId) (cs : Array Value) (fr : Nat × Nat) (d : TypeDesc) (hg : w.heap[g]? = some (.cells cs t fr))
    (hu : P.underlying ty = some d) (hd : (match d with | .struct _ | .array _ _ => true | _ => false) = true) (hi : (P.info? ty).map (·.size) = some cs.size)
    (h : wpListIn Fence.wide n P ops Q rest (a.put o.dst (.agg cs)) w) : wpListIn Fence.wide n P ops Q (o :: rest) a w :=
  wpListIn_step fun K hK => by rw [if_pos hw]; exact op_wide (wp_load_row ty x ho g hx t cs fr d hg hu hd hi (hK _ _ h))

set_option maxRecDepth 100000 in
set_option maxHeartbeats 2000000 in
theorem fentries1_in (n : Nat) (hn : 1 ≤ n) (l Bs Bf : Nat) (L : List Ent) (hO : ∀ e ∈ L, e.Ok) (hLn : L.length ≤ 1000000) (A Ak : Option Addr) (hAk : L.length ≠ 0 → Ak = A) (c : Nat) (f : Int) (J Jx : List (Sel L f) → World → Prop) (W : World) (hJ : AbidesFrom W.heap.size J)
    (hY : ∀ (pre : List (Sel L f)) (x : Sel L f) (W1 : World), J pre W1 → pre.length < (itAll L f).length → YieldAt Fence.wide (n - 1) Tryz.prog l #[.int .i64 (x.1.1 : Int), .agg (L[x.1.1]).C] W1 fun e W' =>
      (e = .returned (.bool true) ∧ J (pre ++ [x]) W' ∧ KeepE Bs Bf Ak W1 W') ∨ (e = .returned (.bool false) ∧ Jx (pre ++ [x]) W'))
    (hBs : W.heap[Bs]? = some (.cells #[.slice A L.length c] 22)) (hBf : W.heap[Bf]? = some (.cells #[.int .u8 f] 5)) (hA : Rd W W.heap.size 33 A L.length (enL L)) (h0 : J [] W) :
    CallsIn Fence.wide n Tryz.prog 35 #[.func (.yield l) #[] #[], .pointer (some ⟨Bs, 0, none⟩), .pointer (some ⟨Bf, 0, none⟩)] W fun e W' => (∃ v, e = .returned v) ∧
      ((∃ ys, ys = itAll L f ∧ J ys W') ∨ (∃ pre, (∃ k hk, pre = itTo L f k hk) ∧ Jx pre W')) := by
  refine callsIn_of_wp Tryz.func35 rfl trivial ?_ rfl
  simp only [Tryz.ntmps35, List.size_toArray, List.length_cons, List.length_nil, Nat.reduceAdd, Nat.reduceSub, Array.replicate_succ, Array.replicate_zero, List.push_toArray, List.append_toArray, List.nil_append, List.cons_append]
  have q0 := blk_cell hBs 0
  gi_wp2
  gi_loopw [8] (fun i wr => ∃ (k : Nat) (hk : k ≤ L.length), i = .int .i64 (k : Int) ∧ J (itTo L f k hk) wr ∧ KeepE Bs Bf Ak W wr)
    (fun i _ => L.length - (intOf i).toNat)
  case atStart => exact ⟨0, Nat.zero_le _, rfl, h0, ⟨rfl, rfl, fun _ _ _ => rfl⟩⟩
  case round =>
    obtain ⟨k, hk, rfl, hJs, hkp⟩ := hrel
    have HJ := Lib.hid hJs
    have Hkp := Lib.hid hkp
    clear hJs hkp
    by_cases hlt : k < L.length
    · have hS : ∀ e ∈ L, e.C.size = 33 := fun e he => (hO e he).1.1
      obtain rfl : Ak = A := hAk (by omega)
      obtain ⟨b, off, rfl, hbw, hr⟩ := rd_e hS hA k hlt
      have hr2 : wr.rangeAt b (off + k * 33) (L[k]).C.toList := fun j v hv => (World.cell?_of_block (Hkp.out.2.2 b off rfl)).trans (hr j v hv)
      have HR2 := Lib.hid hr2
      have hok := hO _ (List.getElem_mem hlt)
      have hI := Lib.hid (hok.1.size)
      have h33 := Lib.hid (hok.1.1)
      have hone := Lib.hid (hok.2.1)
      have hc5 := hok.1.2.2.1
      have HC := Lib.hid (fun W => fcompared_any L[k] hok W)
      have HY := Lib.hid (fun (hs : selE f L[k] = true) => hY (itTo L f k hk) ⟨⟨k, hlt⟩, hs⟩)
      have Hyes := Lib.hid (itTo_yes L f k hlt)
      have Hno := Lib.hid (itTo_no L f k hlt)
      have HSel := Lib.hid (show selE f L[k] = (cmpB L[k] && decide (L[k].f = f)) from rfl)
      have c1 : (0 : Int) ≤ (k : Int) := by omega
      have c2 : (k : Int) < (L.length : Int) := by omega
      clear hr hr2 hS hok hY
      gi_wp2_with (first | (refine wide_load_ent rfl 51 (.tmp 11) rfl b (off + k * 33) rfl _ _ HR2.out Tryz.underlying51 rfl hI.out ?_) | (refine wide_alloc_to rfl 51 rfl enZ enZ_zero ?_) | (refine wide_store_new rfl 51 _ _ rfl (L[k]).C _ _ rfl rfl hI.out (by rw [h33.out]; rfl) hone.out ?_) | (refine wide_load_row rfl 51 (.tmp 5) rfl wr.heap.size rfl 51 (L[k]).C _ _ (blk_new _ rfl) Tryz.underlying51 rfl hI.out ?_))
      refine ⟨trivial, (callsIn_wide.2 (HC.out _)).mono ?_⟩
      rintro ee w2 ⟨rfl, hb⟩
      have hb1 : Below wr.heap.size wr w2 := below_via ((Below.refl _ _).alloc (Nat.le_refl _) _) hb
      have hK2 : w2.heap[wr.heap.size]? = some (.cells (L[k]).C 51 (0, 0)) := (hb.block wr.heap.size (by simp)).trans (blk_new _ rfl)
      have hJ2 : J (itTo L f k hk) w2 := abide_below hJ HJ.out hb1
      have ls : Bs < wr.heap.size := blk_lt (Hkp.out.1.trans hBs)
      have lf : Bf < wr.heap.size := blk_lt (Hkp.out.2.1.trans hBf)
      have lb : b < wr.heap.size := (Array.getElem?_eq_some_iff.1 ((Hkp.out.2.2 b off rfl).trans (Array.getElem?_eq_getElem hbw))).1
      have hk2 : KeepE Bs Bf (some ⟨b, off, none⟩) wr w2 := ⟨hb1.block _ ls, hb1.block _ lf, fun b' off' e => by cases e; exact hb1.block _ lb⟩
      have HK2 := Lib.hid (keepE_t Hkp.out hk2)
      have q5 : w2.cell? ⟨wr.heap.size, 5, none⟩ = some (.int .u8 (L[k]).f) := (blk_cell hK2 5).trans hc5
      have qf : w2.cell? ⟨Bf, 0, none⟩ = some (.int .u8 f) := (World.cell?_of_block HK2.out.2.1).trans (blk_cell hBf 0)
      have HKK := Lib.hid hK2
      have HJ2 := Lib.hid hJ2
      clear hb hb1 hK2 hJ2 ls lf lb hk2 HJ Hkp HR2 hBs hBf hA h0 q0 hc5 HC
      generalize wr.heap.size = g at *
      generalize cmpB L[k] = cb at *
      cases cb
      · have hsel : selE f L[k] = false := by rw [HSel.out]; rfl
        have hnx := Lib.hid (Hno.out hsel)
        clear hsel HSel
        gi_wp2
        refine ⟨fun _ h => (by cases h), ?_⟩
        go_at_K
        gi_wp2
        go_roundw
        case rel => exact ⟨k + 1, hlt, by go_num, by rw [hnx.out]; exact HJ2.out, HK2.out⟩
        case measure => simp [intOf]; omega
      · by_cases hf2 : (L[k]).f = f
        · have hsel : selE f L[k] = true := by rw [HSel.out, hf2]; simp
          have HS9 := Lib.hid hsel
          have hnx := Lib.hid (Hyes.out HS9.out)
          have hlt2 := Lib.hid (itTo_lt L f k hlt HS9.out)
          clear hsel HSel
          have t1 : ((L[k]).f == f) = true := by rw [hf2]; simp
          obtain ⟨fn, tmps, assign, body, hy, hR⟩ := HY.out HS9.out w2 HJ2.out hlt2.out
          gi_wp2_with (refine wide_load_row_g (by rfl) 51 (.tmp 5) rfl g rfl 51 (L[k]).C _ _ HKK.out Tryz.underlying51 rfl hI.out ?_)
          refine hR.mono ?_
          rintro e W3 (⟨rfl, hJ3, hk3⟩ | ⟨rfl, hJx3⟩)
          · have Hk3 := Lib.hid (keepE_t HK2.out hk3)
            have HJ3 := Lib.hid hJ3
            clear hk3 hJ3
            gi_wp2
            go_roundw
            case rel => exact ⟨k + 1, hlt, by go_num, by rw [hnx.out]; exact HJ3.out, Hk3.out⟩
            case measure => simp [intOf]; omega
          · gi_wp2
            refine bodyPost_ret (results_none rfl _ _ _) rfl ?_
            exact ⟨⟨_, rfl⟩, .inr ⟨_, ⟨k + 1, hlt, hnx.out.symm⟩, hJx3⟩⟩
        · have hsel : selE f L[k] = false := by rw [HSel.out]; simp [hf2]
          have hnx := Lib.hid (Hno.out hsel)
          clear hsel HSel
          have t1 : ((L[k]).f == f) = false := by simp [hf2]
          gi_wp2
          refine ⟨fun _ h => (by cases h), ?_⟩
          go_at_K
          gi_wp2
          go_roundw
          case rel => exact ⟨k + 1, hlt, by go_num, by rw [hnx.out]; exact HJ2.out, HK2.out⟩
          case measure => simp [intOf]; omega
    · obtain rfl : k = L.length := by omega
      gi_wp2
      go_end0
      exact ⟨⟨_, rfl⟩, .inl ⟨_, rfl, HJ.out⟩⟩

/-- Where the entries lie, if there are any. -/
def keyA (n : Nat) (A : Option Addr) : Option Addr := if n = 0 then none else A
theorem keyA_lt {w : World} {B sz n : Nat} {A : Option Addr} {xs : List Value} (h : Rd w B sz A n xs) (b off : Nat) (e : keyA n A = some ⟨b, off, none⟩) : b < B := by
  unfold keyA at e
  by_cases hz : n = 0
  · rw [if_pos hz] at e; cases e
  · rw [if_neg hz] at e
    obtain ⟨b', off', e', hb', _⟩ := h.pos (by omega)
    rw [e] at e'; cases e'; exact hb'
/-- The entries of a field as a function over which a loop ranges. -/
theorem fentries_stops (n : Nat) (hn : 1 ≤ n) (Bs Bf : Nat) (L : List Ent) (hO : ∀ e ∈ L, e.Ok) (hLn : L.length ≤ 1000000) (A : Option Addr) (c : Nat) (f : Int) (w : World)
    (hBs : w.heap[Bs]? = some (.cells #[.slice A L.length c] 22)) (hBf : w.heap[Bf]? = some (.cells #[.int .u8 f] 5)) (hA : Rd w w.heap.size 33 A L.length (enL L)) :
    SeqStopsK Fence.wide n Tryz.prog 35 #[.pointer (some ⟨Bs, 0, none⟩), .pointer (some ⟨Bf, 0, none⟩)] (fun x : Sel L f => #[.int .i64 (x.1.1 : Int), .agg (L[x.1.1]).C]) (KeepE Bs Bf (keyA L.length A)) (fun ys => ys = itAll L f) (fun pre => ∃ k hk, pre = itTo L f k hk) (itAll L f).length w := fun l J Jx W hW hJ _ hY h0 =>
  fentries1_in n hn l Bs Bf L hO hLn A (keyA L.length A) (fun h => if_neg h) c f J Jx W hJ hY ((hW.block Bs (blk_lt hBs)).trans hBs) ((hW.block Bf (blk_lt hBf)).trans hBf) ((hA.below hW).more hW.size) h0

end Go.Proofs.YtchklobblkddhaaGreatDoor
