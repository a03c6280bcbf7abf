/- Whole numbers' texts: Print. -/
import Derived.Test.YtepjdnokkgmhoaaR3
import Derived.Laws.BytesArg
import Derived.Deep.OwnRows
namespace Go.Proofs.Ytepjdnokkgmhoaa
open Go.RowKit Go.Shelf
def digL (U K : Nat) : List Int := (List.range K).map fun i => 48 + ((U / 10 ^ (K - 1 - i) % 10 : Nat) : Int)
theorem digL_length (U K : Nat) : (digL U K).length = K := by simp [digL]
theorem digL_getD (U K i : Nat) (h : i < K) : (digL U K).getD i 0 = 48 + ((U / 10 ^ (K - 1 - i) % 10 : Nat) : Int) := by simp [digL, h]
theorem digL_succ (U K : Nat) : digL U (K + 1) = (48 + ((U / 10 ^ K % 10 : Nat) : Int)) :: digL U K := by
  simp only [digL, List.range_succ_eq_map, List.map_cons, List.map_map, Nat.add_sub_cancel, Nat.sub_zero]
  congr 1
  apply List.map_congr_left
  intro i _
  simp only [Function.comp]
  rw [show K - Nat.succ i = K - 1 - i by omega]
def cntD (U : Nat) : Nat := firstNot (fun j => decide (0 < U / 10 ^ (j + 1))) 20 + 1
theorem cntD_pos (U : Nat) : 1 ≤ cntD U := by unfold cntD; omega
theorem cntD_le (U : Nat) : cntD U ≤ 21 := by unfold cntD; have := firstNot_le (fun j => decide (0 < U / 10 ^ (j + 1))) 20; omega
theorem cntD_eq (U k : Nat) (hU : U < 10 ^ 20) (h1 : U / 10 ^ (k + 1) = 0) (h2 : ∀ j, j < k → 0 < U / 10 ^ (j + 1)) : cntD U = k + 1 := by
  unfold cntD
  rw [firstNot_eq _ 20 k _ (fun i hi => by simpa using h2 i hi) (.inr (by simp [h1]))]
  rcases Nat.lt_or_ge k 20 with h | h
  · omega
  · rcases Nat.lt_or_ge 19 k with h' | h'
    · have := h2 19 h'
      rw [Nat.div_eq_of_lt hU] at this; omega
    · omega
def printS (n : Int) : ByteArray := strOfNums ((if n < 0 then [45] else []) ++ digL n.natAbs (cntD n.natAbs))
/-- The bytes behind k digits. -/
def rowD (U k : Nat) (j : Nat) : Value := .int .u8 (if j < 24 - k then 0 else 48 + ((U / 10 ^ (23 - j) % 10 : Nat) : Int))
theorem rowD_set {W : World} {b T U k : Nat} (hk : k < 24) (h : W.rowIs b T 24 (rowD U k)) : (W.setCell ⟨b, 23 - k, none⟩ (.int .u8 (48 + ((U / 10 ^ k % 10 : Nat) : Int)))).rowIs b T 24 (rowD U (k + 1)) :=
  (h.set (23 - k) _).congr fun i hi => by
    by_cases e : i = 23 - k
    · subst e
      simp only [if_true, rowD]
      rw [if_neg (by omega), show 23 - (23 - k) = k by omega]
    · simp only [if_neg e, rowD]
      by_cases z : i < 24 - k
      · rw [if_pos z, if_pos (by omega)]
      · rw [if_neg z, if_neg (by omega)]
theorem slice57 (w : World) (b m : Nat) (h : m < 24) : (Instr.sliceAt 57 (.pointer (some ⟨b, 0, none⟩)) (some (.int .i64 (m : Int))) none none).run Try.prog w = .ok (.slice (some ⟨b, m, none⟩) (24 - m) (24 - m)) w := by
  have hl : Try.prog.arrayLen 57 = 24 := by kernel_rfl
  rw [run_sliceAt_array_l w 57 ⟨b, 0, none⟩ (by kernel_rfl) .i64 m (by omega) (by rw [hl]; omega)]
  have e : (sizeOf (Try.prog.elem 57)).run Try.prog w = .ok 1 w := by kernel_rfl
  rw [e, hl]
  simp [go_sem]
  intro h; omega
theorem conv58 (W : World) (b U k : Nat) (hk2 : k ≤ 22) (h : W.rowIs b 57 24 (rowD U (k + 1))) : (convert 58 9 (.slice (some ⟨b, 23 - k, none⟩) (k + 1) (k + 1))).run Try.prog W = .ok (.string (strOfNums (digL U (k + 1)))) W :=
  run_convert_bytes_arg W 58 5 Try.underlying58 Try.underlying5 b (23 - k) (k + 1) (k + 1) (digL U (k + 1)) (digL_length U (k + 1)) (fun i hi => by
    rw [h.cell (by omega), digL_getD U (k + 1) i hi, rowD, if_neg (by omega), show 23 - (23 - k + i) = k + 1 - 1 - i by omega]) 9 Try.underlying9
theorem conv58n (W : World) (b U k : Nat) (hk2 : k ≤ 21) (h : W.rowIs b 57 24 (fun j => if j = 22 - k then .int .u8 45 else rowD U (k + 1) j)) : (convert 58 9 (.slice (some ⟨b, 22 - k, none⟩) (k + 2) (k + 2))).run Try.prog W = .ok (.string (strOfNums (45 :: digL U (k + 1)))) W :=
  run_convert_bytes_arg W 58 5 Try.underlying58 Try.underlying5 b (22 - k) (k + 2) (k + 2) (45 :: digL U (k + 1)) (by simp [digL_length]) (fun i hi => by
    rw [h.cell (by omega)]
    cases i with
    | zero => simp
    | succ i => rw [if_neg (by omega), List.getD_cons_succ, digL_getD U (k + 1) i (by omega), rowD, if_neg (by omega), show 23 - (22 - k + (i + 1)) = k + 1 - 1 - i by omega]) 9 Try.underlying9
theorem quo10 (V : Nat) : (V : Int).tdiv 10 = ((V / 10 : Nat) : Int) := rfl
theorem rem10 (V : Nat) : (V : Int).tmod 10 = ((V % 10 : Nat) : Int) := rfl
theorem row0 (w : World) (U : Nat) (c : Array Value) (hc : c = Array.replicate 24 (.int .u8 0)) : (w.alloc (.cells c 57)).rowIs w.heap.size 57 24 (rowD U 0) := by
  subst hc
  refine World.rowIs_alloc w _ 57 _ (fun i hi => ?_)
  have hi' : i < 24 := by simpa using hi
  rw [rowD, if_pos (by omega)]
  simp [hi']
end Go.Proofs.Ytepjdnokkgmhoaa
