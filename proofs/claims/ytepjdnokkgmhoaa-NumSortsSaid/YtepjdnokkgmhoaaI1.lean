/- Walks: the iterator over a ladder's places. -/
import Derived.Test.YtepjdnokkgmhoaaC3
import Derived.RangeFuncNested
import Derived.RangeFuncBound
import Derived.RangeFuncCalls
import Derived.RangeFuncLeaves
import Derived.RangeFuncBox
import Derived.Shelf.Abstract
import Derived.Shelf.RegionOpen
import Derived.OwnWalkIn
import Derived.TacticsInMore
import Derived.LoopNIn
import Derived.LoopIn
namespace Go.Proofs.Ytepjdnokkgmhoaa
open Go.RowKit Go.Shelf
attribute [local go_sem] Oper.semAt_some
/-- What a round must keep: what is older than the loop's owner, and the three boxes that the iterator reads. -/
def KeepB (n₀ b₀ : Nat) (A B : World) : Prop := Below n₀ A B ∧ ∀ j, j < 3 → B.heap[b₀ + j]? = A.heap[b₀ + j]?
theorem KeepB.refl (n₀ b₀ : Nat) (A : World) : KeepB n₀ b₀ A A := ⟨Below.refl _ _, fun _ _ => rfl⟩
theorem KeepB.trans {n₀ b₀ : Nat} {A B C : World} (h : KeepB n₀ b₀ A B) (k : KeepB n₀ b₀ B C) : KeepB n₀ b₀ A C := ⟨h.1.trans k.1, fun j hj => (k.2 j hj).trans (h.2 j hj)⟩
theorem KeepB.cell {n₀ b₀ : Nat} {A B : World} (h : KeepB n₀ b₀ A B) (j : Nat) (hj : j < 3) {v : Value} (hv : A.cell? ⟨b₀ + j, 0, none⟩ = some v) : B.cell? ⟨b₀ + j, 0, none⟩ = some v := (World.cell?_of_block (h.2 j hj)).trans hv
/-- The first k places and their values. -/
def upto (lo step : Nat) (k : Nat) : List (Nat × Nat) := (List.range k).map fun i => (i, valB lo step i)
theorem upto_succ (lo step k : Nat) : upto lo step (k + 1) = upto lo step k ++ [(k, valB lo step k)] := by simp [upto, List.range_succ]
theorem upto_length (lo step k : Nat) : (upto lo step k).length = k := by simp [upto]
theorem steps_fin {lo hi step : Nat} (h : 0 < stepsN lo hi step) : finB lo = true ∧ finB step = true ∧ finB hi = true ∧ stepsN lo hi step ≤ 10001 := by
  unfold stepsN at h ⊢
  cases hb : stepsBad lo hi step
  · simp only [stepsBad, Bool.or_eq_false_iff, Bool.not_eq_false'] at hb
    refine ⟨hb.1, hb.2.2.1, hb.2.1, ?_⟩
    simp only [Bool.false_eq_true, if_false]
    split <;> omega
  · rw [hb] at h; simp at h
set_option maxRecDepth 100000 in
set_option maxHeartbeats 2000000 in
theorem all1_in (l b₀ n₀ lo hi step : Nat) (J Jx : List (Nat × Nat) → World → Prop)
    (hY : ∀ pre x W, J pre W → pre.length < stepsN lo hi step → x = (pre.length, valB lo step pre.length) → YieldAt Fence.wide 4 Try.prog l #[.int .i64 ((x.1 : Nat) : Int), .float .f64 x.2] W fun e W' =>
      (e = .returned (.bool true) ∧ J (pre ++ [x]) W' ∧ KeepB n₀ b₀ W W') ∨ (e = .returned (.bool false) ∧ Jx (pre ++ [x]) W'))
    (W : World) (h0 : W.cell? ⟨b₀, 0, none⟩ = some (.float .f64 lo)) (h1 : W.cell? ⟨b₀ + 1, 0, none⟩ = some (.float .f64 hi)) (h2 : W.cell? ⟨b₀ + 2, 0, none⟩ = some (.float .f64 step)) (hJ0 : J [] W) :
    CallsIn Fence.wide 5 Try.prog 55 #[.func (.yield l) #[] #[], .pointer (some ⟨b₀, 0, none⟩), .pointer (some ⟨b₀ + 1, 0, none⟩), .pointer (some ⟨b₀ + 2, 0, none⟩)] W fun e W' => (∃ v, e = .returned v) ∧
      ((∃ xs, xs = upto lo step (stepsN lo hi step) ∧ J xs W') ∨ (∃ pre, (∃ k, k ≤ stepsN lo hi step ∧ 0 < k ∧ pre = upto lo step k) ∧ Jx pre W')) := by
  have SF := Lib.hid (fun h => steps_fin (lo := lo) (hi := hi) (step := step) h)
  obtain ⟨N, hN⟩ : ∃ N, stepsN lo hi step = N := ⟨_, rfl⟩
  rw [hN] at hY SF ⊢
  have HY := Lib.hid hY
  have HN := Lib.hid hN
  have hle : N ≤ 10001 := by
    rcases Nat.eq_zero_or_pos N with h | h
    · omega
    · exact (SF.out h).2.2.2
  clear hN hY
  refine callsIn_of_wp Try.func55 rfl trivial ?_ rfl
  simp only [Try.ntmps55, List.size_toArray, List.length_cons, List.length_nil, Nat.reduceAdd, Nat.reduceSub, Array.replicate_succ, Array.replicate_zero, List.push_toArray, List.append_toArray, List.nil_append, List.cons_append]
  gi_wp2_with (refine ⟨trivial, ?_⟩; gi_at_call 20; refine (callsIn_wide.2 (tsteps _ _ _ _)).mono ?_; rintro e w' ⟨rfl, rfl⟩; rw [HN.out])
  gi_loopw [7] (fun i wr => ∃ k : Nat, k ≤ N ∧ i = .int .i64 k ∧ J (upto lo step k) wr ∧ KeepB n₀ b₀ W wr) (fun i _ => N - (intOf i).toNat)
  case atStart => exact ⟨0, Nat.zero_le _, rfl, hJ0, KeepB.refl _ _ _⟩
  case round =>
    obtain ⟨k, hk, rfl, hJs, hkp⟩ := hrel
    have c0 := hkp.cell 0 (by omega) h0
    have c1 := hkp.cell 1 (by omega) h1
    have c2 := hkp.cell 2 (by omega) h2
    rw [Nat.add_zero] at c0
    by_cases hlt : k < N
    · obtain ⟨fl, fs, _, _⟩ := SF.out (by omega)
      have FL := Lib.hid fl
      have FS := Lib.hid fs
      obtain ⟨fn, tmps, assign, body, hy, hR⟩ := HY.out _ (k, valB lo step k) wr hJs (by rw [upto_length]; exact hlt) (by rw [upto_length])
      dsimp only at hy
      have HR := Lib.hid hR
      clear fl fs hR
      gi_wp2_with (refine ⟨trivial, ?_⟩; gi_at_call 44; refine (callsIn_wide.2 (tvalue lo step k FL.out FS.out (by omega) _)).mono ?_; rintro e w' ⟨rfl, rfl⟩)
      refine HR.out.mono ?_
      rintro e W3 (⟨rfl, hJ3, hk3⟩ | ⟨rfl, hJx3⟩)
      · gi_wp2
        go_roundw
        case rel => exact ⟨k + 1, by omega, by go_num, by rw [upto_succ]; exact hJ3, hkp.trans hk3⟩
        case measure => simp [intOf]; omega
      · gi_wp2
        refine bodyPost_ret (results_none rfl _ _ _) rfl ?_
        exact ⟨⟨_, rfl⟩, .inr ⟨_, ⟨k + 1, by omega, by omega, (upto_succ _ _ _).symm⟩, hJx3⟩⟩
    · obtain rfl : k = N := by omega
      gi_wp2
      go_end0
      exact ⟨⟨_, rfl⟩, .inl ⟨_, rfl, hJs⟩⟩
/-- Three boxes of one cell each, one behind the other. -/
def ThreeBoxes (W : World) (b₀ lo hi step : Nat) : Prop := W.cell? ⟨b₀, 0, none⟩ = some (.float .f64 lo) ∧ W.cell? ⟨b₀ + 1, 0, none⟩ = some (.float .f64 hi) ∧ W.cell? ⟨b₀ + 2, 0, none⟩ = some (.float .f64 step)
def place (lo step : Nat) {N : Nat} (x : Fin N) : Nat × Nat := (x.1, valB lo step x.1)
theorem all_stops (n₀ b₀ lo hi step : Nat) (w : World) (hb : b₀ + 3 ≤ w.heap.size) (hc : ThreeBoxes w b₀ lo hi step) :
    SeqStopsK Fence.wide 5 Try.prog 55 #[.pointer (some ⟨b₀, 0, none⟩), .pointer (some ⟨b₀ + 1, 0, none⟩), .pointer (some ⟨b₀ + 2, 0, none⟩)] (fun x : Fin (stepsN lo hi step) => #[Value.int .i64 ((x.1 : Nat) : Int), Value.float .f64 (valB lo step x.1)]) (KeepB n₀ b₀)
      (fun xs => xs.map (place lo step) = upto lo step (stepsN lo hi step)) (fun pre => ∃ k, k ≤ stepsN lo hi step ∧ 0 < k ∧ pre.map (place lo step) = upto lo step k) (stepsN lo hi step) w := fun l J Jx W hW _ _ hY h0 => by
  refine (all1_in l b₀ n₀ lo hi step (fun q W => ∃ fs : List (Fin (stepsN lo hi step)), q = fs.map (place lo step) ∧ J fs W) (fun q W => ∃ fs : List (Fin (stepsN lo hi step)), q = fs.map (place lo step) ∧ Jx fs W) ?_ W
    ((hW.cell (p := ⟨b₀, 0, none⟩) (by show b₀ < _; omega)).trans hc.1) ((hW.cell (p := ⟨b₀ + 1, 0, none⟩) (by show b₀ + 1 < _; omega)).trans hc.2.1) ((hW.cell (p := ⟨b₀ + 2, 0, none⟩) (by show b₀ + 2 < _; omega)).trans hc.2.2) ⟨[], rfl, h0⟩).mono ?_
  · rintro pre x W ⟨fs, rfl, hJ⟩ hlt rfl
    simp only [List.length_map] at hlt ⊢
    refine (hY fs ⟨fs.length, hlt⟩ W hJ hlt).mono ?_
    rintro e W' (⟨he, h1, h2⟩ | ⟨he, h1⟩)
    · exact .inl ⟨he, ⟨_, by simp [place], h1⟩, h2⟩
    · exact .inr ⟨he, _, by simp [place], h1⟩
  · rintro e W' ⟨he, ⟨xs, hx, fs, hf, hJ⟩ | ⟨pre, ⟨k, h1, h2, h3⟩, fs, hf, hJ⟩⟩
    · exact ⟨he, .inl ⟨fs, hf.symm.trans hx, hJ⟩⟩
    · exact ⟨he, .inr ⟨fs, ⟨k, h1, h2, hf.symm.trans h3⟩, hJ⟩⟩
theorem tall (lo hi step : Nat) (w : World) : Calls Try.prog 46 #[.float .f64 lo, .float .f64 hi, .float .f64 step] w fun e w' => e = .returned (.func (.func 55) #[] #[.pointer (some ⟨w.heap.size, 0, none⟩), .pointer (some ⟨w.heap.size + 1, 0, none⟩), .pointer (some ⟨w.heap.size + 1 + 1, 0, none⟩)]) ∧
    w' = ((w.alloc (.cells #[.float .f64 lo] 22)).alloc (.cells #[.float .f64 hi] 22)).alloc (.cells #[.float .f64 step] 22) := by
  go_enter Try.func46, Try.ntmps46
  go_wp2
  go_ret
  exact ⟨rfl, rfl⟩
theorem keepB_b {n₀ b₀ : Nat} {w : World} (hn : n₀ ≤ w.heap.size) (hb : b₀ + 3 ≤ w.heap.size) : ∀ (W : World) (l : Nat) (o o' : Obj), w.heap.size ≤ l → W.heap[l]? = some o → o.isCells = false → o.isWalk = false → KeepB n₀ b₀ W (W.putObj l o') := fun W l o o' hl ho h1 h2 =>
  ⟨belowK_b hn W l o o' hl ho h1 h2, fun j hj => World.putObj_heap_other (by omega)⟩
theorem u64_clear (x : Nat) (h : x < 2 ^ 64) : bits .andNot .u64 (x : Int) 9223372036854775808 = ((rung x : Nat) : Int) := by
  have e : ~~~(BitVec.ofInt 64 ((2 ^ 63 : Nat) : Int)) = BitVec.ofNat 64 (2 ^ 63 - 1) := by decide
  have e2 : (BitVec.ofNat 64 (2 ^ 63 - 1)).toNat = 2 ^ 63 - 1 := by decide
  rw [top_cast, bits_andNot_def, e, BitVec.toNat_and, ofInt_nat x h, e2, Nat.and_two_pow_sub_one_eq_mod, IntKind.wrap_u64]
  unfold rung
  omega
theorem tabs (x : Nat) (h : x < 2 ^ 64) (w : World) : Calls Try.prog 47 #[.float .f64 x] w fun e w' => e = .returned (.float .f64 (rung x)) ∧ w = w' := by
  have hb := call_bits
  have hc := call_float
  have ha := u64_clear x h
  have hsg : IntKind.u64.signed = false := rfl
  clear h
  go_enter Try.func47, Try.ntmps47
  go_wp2
  go_ret
  exact ⟨rfl, rfl⟩
theorem call_inf (w : World) : (callFunc 51 #[.int .u64 9218868437227405312]).run Try.prog w = .ok (.value (.float .f64 9218868437227405312)) w := call_float 9218868437227405312 w
theorem tinf (w : World) : Calls Try.prog 45 #[.int .i64 1] w fun e w' => e = .returned (.float .f64 9218868437227405312) ∧ w = w' := by
  have h1 := call_inf
  go_enter Try.func45, Try.ntmps45
  go_wp2
  go_ret
  exact ⟨rfl, rfl⟩
end Go.Proofs.Ytepjdnokkgmhoaa
