/- The walks of foul.check and foul.compared. -/
import Derived.Test.YtchklobblkddhaaGreatDoorFouMath
import Derived.Test.YtchklobblkddhaaGreatDoorRoundReg
import Derived.Deep.WholeRow
namespace Go.Proofs.YtchklobblkddhaaGreatDoor
open Go.RowKit

def zO23 : Oc := ⟨0, 0, 0, 0, 0, 0⟩
/-- The cells of the zero entry. -/
def enZ : Array Value := #[.int .i64 0, .int .i64 0, .int .i64 0, .int .i64 0, .int .u8 0, .int .u8 0, .bool false, .int .u8 0, .int .u8 0, .int .u8 0, .int .u8 0, .int .i64 0, .int .i64 0, .int .u8 0, .int .u8 0, .int .u8 0, .int .u8 0, .int .i64 0, .int .i64 0, .int .u8 0, .int .u8 0, .int .u8 0, .int .u8 0, .int .i64 0, .int .i64 0, .int .u8 0, .int .u8 0, .int .u8 0, .int .u8 0, .int .i64 0, .int .i64 0, .int .i64 0, .int .i64 0]
theorem enZ_zero : (Tryz.prog.info? 51).map (·.zero) = some (some (.agg enZ)) := by kernel_rfl
/-- A value stored whole into the variable that was made last. -/
theorem wpList_store_new23 {P : Program} {ops : Array Oper} {rest : List Oper} {o : Oper} {a : Act} {w : World} {Q : Exit → Act → World → Prop} (hgd : o.guard = none) (ty : TypeId) (x y : Operand) (ho : o.op = .store ty x y)
    (cells : Array Value) (t : TypeId) (old : Array Value) (hx : a.eval x = .pointer (some ⟨w.heap.size, 0, none⟩)) (hy : a.eval y = .agg cells)
    (hi : (P.info? ty).map (·.size) = some cells.size) (hold : old.size = cells.size) (h1 : cells.all (·.oneCell') = true)
    (h : wpList P ops Q rest (a.put o.dst undef) (w.alloc (.cells cells t))) : wpList P ops Q (o :: rest) a (w.alloc (.cells old t)) := by
  refine wpList_store_row hgd ty x y ho w.heap.size cells hx hy t old (heap_alloc_last w _) hi hold h1 ?_
  rw [World.setRow_alloc_new]; exact h
/-- A load of an array value from the middle of a block, as an array. -/
theorem wpList_load_ent {P : Program} {ops : Array Oper} {rest : List Oper} {op : Oper} {a : Act} {w : World} {Q : Exit → Act → World → Prop} (hgd : op.guard = none) (ty : TypeId) (x : Operand) (ho : op.op = .load ty x)
    (b o : Nat) (hx : a.eval x = .pointer (some ⟨b, o, none⟩)) (C : Array Value) (d : TypeDesc) (hc : w.rangeAt b o C.toList)
    (hu : P.underlying ty = some d) (hd : d.isRow = true) (hi : (P.info? ty).map (·.size) = some C.size)
    (h : wpList P ops Q rest (a.put op.dst (.agg C)) w) : wpList P ops Q (op :: rest) a w :=
  wpList_load_mid hgd ty x ho b o hx C.toList d hc hu hd (by simpa using hi) (by simpa using h)

set_option maxRecDepth 100000 in
set_option maxHeartbeats 2000000 in
theorem fcheck_any (L : List Ent) (A : Option Addr) (c : Nat) (w : World) (hO : ∀ e ∈ L, e.Ok) (hA : Rd w w.heap.size 33 A L.length (enL L)) (hn : L.length ≤ 1000000) (hL : LaidS w) :
    Calls Tryz.prog 23 #[.slice A L.length c] w fun e w' => e = .returned (.int .i64 (chkE L)) ∧ Below w.heap.size w w' := by
  obtain ⟨N, hN⟩ : ∃ N, chkE L = N := ⟨_, rfl⟩
  rw [hN]
  have HN := Lib.hid hN
  have HO := Lib.hid hO
  have HA := Lib.hid hA
  have HL := Lib.hid hL
  have HS := Lib.hid (show ∀ e ∈ L, e.C.size = 33 from fun e he => (hO e he).1.1)
  clear hN hO hA hL
  go_enter Tryz.func23, Tryz.ntmps23
  go_wp2
  go_loopw [7] (fun i wr => ∃ j : Nat, j ≤ L.length ∧ i = .int .i64 (j : Int) ∧ Hid (∀ q (hq : q < L.length), q < j → L[q].right = true) ∧ Below w.heap.size w wr) (fun i _ => L.length - (intOf i).toNat)
  case atStart => exact ⟨0, by omega, rfl, (fun q hq h => by omega : ∀ q (hq : q < L.length), q < 0 → L[q].right = true), Below.refl _ _⟩
  case round =>
    obtain ⟨j, hj, rfl, hz, hB⟩ := hrel
    rename World => wx
    by_cases hlt : j < L.length
    · obtain ⟨b, off, rfl, hbw, hr⟩ := rd_e HS.out HA.out j hlt
      have hr2 := Lib.hid (range_below hr hB hbw)
      have hok := HO.out _ (List.getElem_mem hlt)
      have hI := Lib.hid (hok.1.size)
      have h33 := Lib.hid (hok.1.1)
      have hone := Lib.hid (hok.2.1)
      have HR := Lib.hid (fun W hW => eright_any _ _ _ _ _ _ hok.1 hok.2.2.1 hok.2.2.2.1 hok.2.2.2.2 W hW)
      have HE := Lib.hid (show rightE L[j].k L[j].f L[j].o L[j].a0 L[j].a1 = L[j].right from rfl)
      rw [HE.out] at HR
      have HBad := Lib.hid (show L[j].right = false → 2 = N from fun h => by
        rw [← HN.out]; unfold chkE
        rw [if_neg (fun hall => by have := List.all_eq_true.1 hall _ (List.getElem_mem hlt); rw [h] at this; cases this)])
      have HNx := Lib.hid (show L[j].right = true → ∀ q (hq : q < L.length), q < j + 1 → L[q].right = true from fun h q hq hqj => by
        by_cases e : q < j
        · exact hz.out q hq e
        · obtain rfl : q = j := by omega
          exact h)
      have c1 : (0 : Int) ≤ (j : Int) := by omega
      have c2 : (j : Int) < (L.length : Int) := by omega
      generalize L[j].right = R at HR HBad HNx
      generalize L[j].C = C at *
      clear hok hr HE
      go_upto_region 4 with (first | (refine wpList_load_ent rfl 51 (.tmp 9) rfl b (off + j * 33) rfl C _ hr2.out Tryz.underlying51 rfl hI.out ?_) | (refine plain_alloc_to rfl 51 rfl enZ enZ_zero ?_) | (refine wpList_store_new23 rfl 51 _ _ rfl C _ _ rfl rfl hI.out (by rw [h33.out]; rfl) hone.out ?_))
      obtain ⟨W1, hW1⟩ : ∃ V, wx.alloc (.cells C 51) = V := ⟨_, rfl⟩
      obtain ⟨g, hg⟩ : ∃ g, wx.heap.size = g := ⟨_, rfl⟩
      have K := Lib.hid (show W1.heap[g]? = some (.cells C 51 (0, 0)) by rw [← hW1]; exact blk_new _ hg.symm)
      replace hB : Below w.heap.size w W1 := by rw [← hW1]; exact hB.alloc hB.size _
      rw [hW1, hg]
      clear hW1 hg hr2
      go_wp2_with (refine wpList_load_row rfl 51 (.tmp 4) rfl g rfl 51 C _ _ K.out Tryz.underlying51 rfl hI.out ?_)
      refine (HR.out _ (HL.out.go hB)).mono ?_
      rintro ee w2 ⟨rfl, hb⟩
      replace hB := below_via hB hb
      clear hb K HR
      cases R
      · obtain rfl := HBad.out rfl
        go_wp2
        go_ret
        exact ⟨rfl, hB⟩
      · have Hn := Lib.hid (HNx.out rfl)
        clear HBad HNx
        go_wp2
        go_roundw
        case rel => exact ⟨j + 1, by omega, by go_num, Hn.out, hB⟩
        case measure => simp [intOf]; omega
    · obtain rfl : j = L.length := by omega
      have hall : L.all Ent.right = true := List.all_eq_true.2 (fun x hx => by
        obtain ⟨i, hi, rfl⟩ := List.getElem_of_mem hx
        exact hz.out i hi hi)
      have HN2 := Lib.hid (show (if 24 < L.length then 5 else 0) = N by rw [← HN.out]; unfold chkE; rw [if_pos hall])
      clear hall
      by_cases h24 : 24 < L.length
      · have c1 : (24 : Int) < (L.length : Int) := by omega
        obtain rfl : 5 = N := by rw [← HN2.out, if_pos h24]
        go_wp2
        go_ret
        exact ⟨rfl, hB⟩
      · have c1 : ¬ (24 : Int) < (L.length : Int) := by omega
        obtain rfl : 0 = N := by rw [← HN2.out, if_neg h24]
        go_wp2
        go_ret
        exact ⟨rfl, hB⟩

set_option maxRecDepth 100000 in
set_option maxHeartbeats 1000000 in
theorem fcompared_any (e : Ent) (he : e.Ok) (w : World) : Calls Tryz.prog 36 #[.agg e.C] w fun r w' => r = .returned (.bool (cmpB e)) ∧ Below w.heap.size w w' := by
  have c4 := he.1.2.1
  have hc : cmpB e = decide (e.k ≠ 0 ∧ e.k ≠ 4) := rfl
  rw [hc]
  clear hc he
  generalize e.C = C at *
  generalize e.k = k at *
  have hB1 : Below w.heap.size w (w.alloc (.cells C 51)) := (Below.refl _ _).alloc (Nat.le_refl _) _
  have q4 : (w.alloc (.cells C 51)).cell? ⟨w.heap.size, 4, none⟩ = some (.int .u8 k) := (blk_cell (blk_new _ rfl) 4).trans c4
  clear c4
  by_cases h0 : k = 0
  · rw [decide_eq_false (fun h => h.1 h0)]
    subst h0
    go_enter Tryz.func36, Tryz.ntmps36
    go_wp2
    go_ret
    exact ⟨rfl, hB1⟩
  · have t0 : (k == 0) = false := beq_eq_false_iff_ne.2 h0
    have t0' : (k != 0) = true := by rw [bne, t0]; rfl
    by_cases h4 : k = 4
    · rw [decide_eq_false (fun h => h.2 h4)]
      subst h4
      clear h0 t0 t0'
      go_enter Tryz.func36, Tryz.ntmps36
      go_wp2
      go_ret
      exact ⟨rfl, hB1⟩
    · rw [decide_eq_true ⟨h0, h4⟩]
      have t4 : (k == 4) = false := beq_eq_false_iff_ne.2 h4
      have t4' : (k != 4) = true := by rw [bne, t4]; rfl
      go_enter Tryz.func36, Tryz.ntmps36
      go_wp2
      go_ret
      exact ⟨rfl, hB1⟩

end Go.Proofs.YtchklobblkddhaaGreatDoor
