/- Walks: All, and its iterator. -/
import Derived.Test.YtlhfdpeidlbomaaDoorTI
import Derived.RangeFuncNested
import Derived.RangeFuncBound
import Derived.RangeFuncCalls
import Derived.RangeFuncLeaves
import Derived.RangeFuncBox
import Derived.RangeFuncFrom
import Derived.Shelf.Abstract
import Derived.Shelf.RegionOpen
import Derived.OwnWalkIn
import Derived.TacticsInMore
import Derived.LoopNIn
import Derived.LoopIn
namespace Go.Proofs.YtlhfdpeidlbomaaDoor
open Go.RowKit Go.Shelf
attribute [local go_sem] Oper.semAt_some
/-- What a round keeps: the theme, and the box of the iterator's own. -/
structure KeepT (bt Bn : Nat) (A B : World) : Prop where
  size : A.heap.size ≤ B.heap.size
  th : B.heap[bt]? = A.heap[bt]?
  bx : B.heap[Bn]? = A.heap[Bn]?
theorem KeepT.trans {bt Bn : Nat} {A B C : World} (h : KeepT bt Bn A B) (k : KeepT bt Bn B C) : KeepT bt Bn A C := ⟨Nat.le_trans h.size k.size, k.th.trans h.th, k.bx.trans h.bx⟩
theorem keepT_b {bt Bn : Nat} {w : World} (h1 : bt < w.heap.size) (h2 : Bn < w.heap.size) : ∀ (W : World) (l : Nat) (o o' : Obj), w.heap.size ≤ l → W.heap[l]? = some o → o.isCells = false → o.isWalk = false → KeepT bt Bn W (W.putObj l o') := fun W l o o' hl _ _ _ =>
  ⟨by simp, World.putObj_heap_other (by omega), World.putObj_heap_other (by omega)⟩
theorem KeepT.stay {bt Bn b B : Nat} {A C : World} (h : Stay b B A C) (h1 : bt < B ∧ bt ≠ b) (h2 : Bn < B ∧ Bn ≠ b) : KeepT bt Bn A C := ⟨h.size, h.block bt h1.1 h1.2, h.block Bn h2.1 h2.2⟩
theorem wall (w : World) (p : Option Addr) : Calls Tryd.prog 34 #[.pointer p] w fun e w' => e = .returned (.func (.func 46) #[] #[.pointer (some ⟨w.heap.size, 0, none⟩)]) ∧ w' = w.alloc (.cells #[.pointer p] 36) := by
  go_enter Tryd.func34, Tryd.ntmps34
  go_wp2
  go_ret
  exact ⟨rfl, rfl⟩
theorem ThAt.keptT {bt Bn : Nat} {A B : World} {ys : List Sty} (h : ThAt A bt ys) (k : KeepT bt Bn A B) : ThAt B bt ys := ⟨k.th.trans h.blk, h.len⟩
set_option maxRecDepth 100000 in
set_option maxHeartbeats 2000000 in
theorem iter_in (l bt Bn : Nat) (ys : List Sty) (W : World) (hBn : W.cell? ⟨Bn, 0, none⟩ = some (.pointer (some ⟨bt, 0, none⟩))) (hBl : Bn < W.heap.size) (hT : ThAt W bt ys)
    (J Jx : List Nat → World → Prop) (hA : AbidesFrom W.heap.size J)
    (hY : ∀ k W1, J (List.range k) W1 → k < 10 → YieldAt Fence.wide 4 Tryd.prog l #[.string (tx (prt k)), .agg #[.bool (nthY ys k).b, .bool (nthY ys k).u, .bool (nthY ys k).i, .int .i64 (nthY ys k).f, .int .i64 (nthY ys k).g]] W1 fun e W' =>
      (e = .returned (.bool true) ∧ J (List.range (k + 1)) W' ∧ KeepT bt Bn W1 W') ∨ (e = .returned (.bool false) ∧ Jx (List.range (k + 1)) W'))
    (hJ0 : J [] W) :
    CallsIn Fence.wide 5 Tryd.prog 46 #[.func (.yield l) #[] #[], .pointer (some ⟨Bn, 0, none⟩)] W fun e W' => (∃ v, e = .returned v) ∧
      ((∃ xs, xs = List.range 10 ∧ J xs W') ∨ (∃ pre, (∃ k, k ≤ 10 ∧ 0 < k ∧ pre = List.range k) ∧ Jx pre W')) := by
  have HY := Lib.hid hY
  have HA := Lib.hid hA
  have HT := Lib.hid hT
  have HBN := Lib.hid hBn
  have HBL := Lib.hid hBl
  have hc := hBn
  clear hY hA hT hBn hBl
  refine callsIn_of_wp Tryd.func46 rfl trivial ?_ rfl
  simp only [Tryd.ntmps46, List.size_toArray, List.length_cons, List.length_nil, Nat.reduceAdd, Nat.reduceSub, Array.replicate_succ, Array.replicate_zero, List.push_toArray, List.append_toArray, List.nil_append, List.cons_append]
  gi_wp2_with (first | (refine ⟨trivial, ?_⟩; gi_at_call 33; refine (callsIn_wide.2 (wmade bt ys _ HT.out)).mono ?_; rintro e w1 ⟨rfl, rfl⟩) | (refine ⟨trivial, ?_⟩; gi_at_call 45; refine (callsIn_wide.2 (wnames _)).mono ?_; rintro e w1 ⟨rfl, hb⟩; have HB := Lib.hid hb; clear hb))
  have hJ1 := HA.out _ W w1 none hJ0 ⟨HB.out.os, HB.out.tape, HB.out.output, HB.out.size, fun i hi _ => HB.out.block i hi⟩ (fun r e => by cases e)
  have HK0 : Hid (KeepT bt Bn W w1) := Lib.hid ⟨HB.out.size, HB.out.block _ HT.out.lt, HB.out.block _ HBL.out⟩
  clear hc
  gi_loopw [9] (fun i wy => ∃ k : Nat, k ≤ 10 ∧ i = .int .i64 k ∧ J (List.range k) wy ∧ Hid (KeepT bt Bn W wy)) (fun i _ => 10 - (intOf i).toNat)
  case atStart => exact ⟨0, by omega, rfl, hJ1, HK0⟩
  case round =>
    obtain ⟨k, hk, rfl, hJ2, HK⟩ := hrel
    by_cases hlt : k < 10
    · have hidx := idx_names k hlt
      have hbp := (World.cell?_of_block HK.out.bx).trans HBN.out
      obtain ⟨c0, c1, c2, c3, c4⟩ := (HT.out.keptT HK.out).get k hlt
      obtain ⟨fn, tmps, assign, body, hy, hR⟩ := HY.out k wr hJ2 hlt
      have HRR := Lib.hid hR
      have i1 : (0 : Int) ≤ (k : Int) := by omega
      have i2 : (k : Int) < 10 := by omega
      clear hR
      gi_wp2
      refine HRR.out.mono ?_
      rintro e W3 (⟨rfl, hJ3, hk3⟩ | ⟨rfl, hJx3⟩)
      · gi_wp2
        go_roundw
        case rel => exact ⟨k + 1, by omega, by go_num, hJ3, Lib.hid (HK.out.trans hk3)⟩
        case measure => simp [intOf]; omega
      · gi_wp2
        refine bodyPost_ret (results_none rfl _ _ _) rfl ?_
        exact ⟨⟨_, rfl⟩, .inr ⟨_, ⟨k + 1, by omega, by omega, rfl⟩, hJx3⟩⟩
    · obtain rfl : k = 10 := by omega
      gi_wp2
      go_end0
      exact ⟨⟨_, rfl⟩, .inl ⟨_, rfl, hJ2⟩⟩
end Go.Proofs.YtlhfdpeidlbomaaDoor
