/- A number from 1 to 12 in decimal. -/
import Derived.Test.YthkcfdnenbboaaaK2
import Derived.Laws.BytesArg
namespace Go.Proofs.Ythkcfdnenbboaaa
open Go.RowKit Go.Shelf
theorem conv1 (W : World) (x : Int) : (convert 25 9 (.slice (some ⟨W.heap.size, 0, none⟩) 1 1)).run Try.prog (W.alloc (.cells #[.int .u8 x] 5)) = .ok (.string (strOfNums [x])) (W.alloc (.cells #[.int .u8 x] 5)) :=
  run_convert_bytes_arg _ 25 5 Try.underlying25 Try.underlying5 W.heap.size 0 1 1 [x] rfl (fun i hi => by
    obtain rfl : i = 0 := by omega
    simp [go_sem]) 9 Try.underlying9
theorem conv2 (W : World) (x y : Int) : (convert 25 9 (.slice (some ⟨W.heap.size, 0, none⟩) 2 2)).run Try.prog (W.alloc (.cells #[.int .u8 x, .int .u8 y] 5)) = .ok (.string (strOfNums [x, y])) (W.alloc (.cells #[.int .u8 x, .int .u8 y] 5)) :=
  run_convert_bytes_arg _ 25 5 Try.underlying25 Try.underlying5 W.heap.size 0 2 2 [x, y] rfl (fun i hi => by
    obtain rfl | rfl : i = 0 ∨ i = 1 := by omega
    all_goals simp [go_sem]) 9 Try.underlying9
/-- A number from 1 to 12 in decimal. -/
def numN (n : Int) : List Int := if 10 ≤ n then [49, n + 38] else [48 + n]
def numS (n : Int) : ByteArray := strOfNums (numN n)
set_option maxRecDepth 100000 in
set_option maxHeartbeats 2000000 in
theorem wtwelve (n : Int) (hn : 1 ≤ n ∧ n ≤ 12) (w : World) : Calls Try.prog 45 #[.int .i64 n] w fun e w' => e = .returned (.string (numS n)) ∧ Below w.heap.size w w' := by
  have hc := fun W => conv1 W (48 + n - 10)
  have hd := fun W => conv1 W (48 + n)
  have e1 : 48 + n - 10 = n + 38 := by omega
  by_cases h : 10 ≤ n
  · have e : numS n = ⟨#[49]⟩ ++ strOfNums [48 + n - 10] := by simp only [numS, numN, h, if_true]; apply ByteArray.ext; simp [strOfNums, e1]
    rw [e]
    clear e e1
    go_enter Try.func45, Try.ntmps45
    go_wp2
    go_ret
    exact ⟨rfl, (Below.refl _ _).alloc (Nat.le_refl _) _⟩
  · have e : numS n = strOfNums [48 + n] := by simp only [numS, numN, h, if_false]
    rw [e]
    clear e e1
    go_enter Try.func45, Try.ntmps45
    go_wp2
    go_ret
    exact ⟨rfl, (Below.refl _ _).alloc (Nat.le_refl _) _⟩
set_option maxRecDepth 100000 in
set_option maxHeartbeats 2000000 in
theorem wdigits (n : Int) (hn : 1 ≤ n ∧ n ≤ 12) (w : World) : Calls Try.prog 48 #[.int .i64 n] w fun e w' => e = .returned (.string (numS n)) ∧ Below w.heap.size w w' := by
  have hc := fun W => conv2 W 49 (48 + n - 10)
  have hd := fun W => conv1 W (48 + n)
  have e1 : 48 + n - 10 = n + 38 := by omega
  by_cases h : 10 ≤ n
  · have e : numS n = strOfNums [49, 48 + n - 10] := by simp only [numS, numN, h, if_true, e1]
    rw [e]
    clear e e1
    go_enter Try.func48, Try.ntmps48
    go_wp2
    go_ret
    exact ⟨rfl, (Below.refl _ _).alloc (Nat.le_refl _) _⟩
  · have e : numS n = strOfNums [48 + n] := by simp only [numS, numN, h, if_false]
    rw [e]
    clear e e1
    go_enter Try.func48, Try.ntmps48
    go_wp2
    go_ret
    exact ⟨rfl, (Below.refl _ _).alloc (Nat.le_refl _) _⟩
end Go.Proofs.Ythkcfdnenbboaaa
