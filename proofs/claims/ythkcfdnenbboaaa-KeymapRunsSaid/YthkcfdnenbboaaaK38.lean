/- Walk: the reference's usual bindings, as a row (written by gen_k38.py). -/
import Derived.Test.YthkcfdnenbboaaaK37
namespace Go.Proofs.Ythkcfdnenbboaaa
open Go.RowKit Go.Shelf Go.Maps Go.Sort Go.ChangeMaps
def refU : List Bd := [(mkS [108, 101, 102, 116], 1), (mkS [99, 116, 114, 108, 45, 98], 1), (mkS [114, 105, 103, 104, 116], 2), (mkS [99, 116, 114, 108, 45, 102], 2), (mkS [97, 108, 116, 45, 108, 101, 102, 116], 3), (mkS [97, 108, 116, 45, 116, 101, 120, 116, 46, 98], 3), (mkS [99, 116, 108, 45, 108, 101, 102, 116], 3), (mkS [97, 108, 116, 45, 114, 105, 103, 104, 116], 4), (mkS [97, 108, 116, 45, 116, 101, 120, 116, 46, 102], 4), (mkS [99, 116, 108, 45, 114, 105, 103, 104, 116], 4), (mkS [104, 111, 109, 101], 5), (mkS [99, 116, 114, 108, 45, 97], 5), (mkS [101, 110, 100], 6), (mkS [99, 116, 114, 108, 45, 101], 6), (mkS [98, 97, 99, 107, 115, 112, 97, 99, 101], 7), (mkS [99, 116, 114, 108, 45, 104], 7), (mkS [100, 101, 108, 101, 116, 101], 8), (mkS [99, 116, 114, 108, 45, 100], 8), (mkS [99, 116, 114, 108, 45, 107], 9), (mkS [99, 116, 114, 108, 45, 117], 10), (mkS [97, 108, 116, 45, 116, 101, 120, 116, 46, 100], 11), (mkS [99, 116, 114, 108, 45, 119], 12), (mkS [97, 108, 116, 45, 98, 97, 99, 107, 115, 112, 97, 99, 101], 12), (mkS [99, 116, 114, 108, 45, 121], 13), (mkS [97, 108, 116, 45, 116, 101, 120, 116, 46, 121], 14), (mkS [99, 116, 114, 108, 45, 95], 15), (mkS [99, 116, 114, 108, 45, 116], 16), (mkS [99, 116, 114, 108, 45, 108], 17), (mkS [117, 112], 18), (mkS [99, 116, 114, 108, 45, 112], 18), (mkS [100, 111, 119, 110], 19), (mkS [99, 116, 114, 108, 45, 110], 19)]
theorem un0 (W : World) : Calls Try.prog 18 #[.agg #[.int .i64 10, .string ⟨#[]⟩, .int .i64 0, .bool false, .bool false, .bool false]] W fun e w' => e = .returned (.string (mkS [108, 101, 102, 116])) ∧ Below W.heap.size W w' := by
  have h := wnameRS (Ky.mk 10 ⟨#[]⟩ 0 false false false) (ky_in _ _ _ _ _ _ (by omega) (by omega) (by decide)) W
  have hk : (Ky.mk 10 ⟨#[]⟩ 0 false false false).ok = true := by simp [Ky.ok, okN, okS_empty]
  rw [show (Ky.mk 10 ⟨#[]⟩ 0 false false false).name = [108, 101, 102, 116] by rw [Ky.name, hk]; rfl] at h
  exact h
theorem un1 (W : World) : Calls Try.prog 18 #[.agg #[.int .i64 17, .string ⟨#[98]⟩, .int .i64 0, .bool false, .bool false, .bool false]] W fun e w' => e = .returned (.string (mkS [99, 116, 114, 108, 45, 98])) ∧ Below W.heap.size W w' := by
  have h := wnameRS (Ky.mk 17 ⟨#[98]⟩ 0 false false false) (ky_in _ _ _ _ _ _ (by omega) (by omega) (by decide)) W
  rw [show (Ky.mk 17 ⟨#[98]⟩ 0 false false false).name = [99, 116, 114, 108, 45, 98] from rfl] at h
  exact h
theorem un2 (W : World) : Calls Try.prog 18 #[.agg #[.int .i64 11, .string ⟨#[]⟩, .int .i64 0, .bool false, .bool false, .bool false]] W fun e w' => e = .returned (.string (mkS [114, 105, 103, 104, 116])) ∧ Below W.heap.size W w' := by
  have h := wnameRS (Ky.mk 11 ⟨#[]⟩ 0 false false false) (ky_in _ _ _ _ _ _ (by omega) (by omega) (by decide)) W
  have hk : (Ky.mk 11 ⟨#[]⟩ 0 false false false).ok = true := by simp [Ky.ok, okN, okS_empty]
  rw [show (Ky.mk 11 ⟨#[]⟩ 0 false false false).name = [114, 105, 103, 104, 116] by rw [Ky.name, hk]; rfl] at h
  exact h
theorem un3 (W : World) : Calls Try.prog 18 #[.agg #[.int .i64 17, .string ⟨#[102]⟩, .int .i64 0, .bool false, .bool false, .bool false]] W fun e w' => e = .returned (.string (mkS [99, 116, 114, 108, 45, 102])) ∧ Below W.heap.size W w' := by
  have h := wnameRS (Ky.mk 17 ⟨#[102]⟩ 0 false false false) (ky_in _ _ _ _ _ _ (by omega) (by omega) (by decide)) W
  rw [show (Ky.mk 17 ⟨#[102]⟩ 0 false false false).name = [99, 116, 114, 108, 45, 102] from rfl] at h
  exact h
theorem un4 (W : World) : Calls Try.prog 18 #[.agg #[.int .i64 10, .string ⟨#[]⟩, .int .i64 0, .bool true, .bool false, .bool false]] W fun e w' => e = .returned (.string (mkS [97, 108, 116, 45, 108, 101, 102, 116])) ∧ Below W.heap.size W w' := by
  have h := wnameRS (Ky.mk 10 ⟨#[]⟩ 0 true false false) (ky_in _ _ _ _ _ _ (by omega) (by omega) (by decide)) W
  have hk : (Ky.mk 10 ⟨#[]⟩ 0 true false false).ok = true := by simp [Ky.ok, okN, okS_empty]
  rw [show (Ky.mk 10 ⟨#[]⟩ 0 true false false).name = [97, 108, 116, 45, 108, 101, 102, 116] by rw [Ky.name, hk]; rfl] at h
  exact h
theorem un5 (W : World) : Calls Try.prog 18 #[.agg #[.int .i64 1, .string ⟨#[98]⟩, .int .i64 0, .bool true, .bool false, .bool false]] W fun e w' => e = .returned (.string (mkS [97, 108, 116, 45, 116, 101, 120, 116, 46, 98])) ∧ Below W.heap.size W w' := by
  have h := wnameRS (Ky.mk 1 ⟨#[98]⟩ 0 true false false) (ky_in _ _ _ _ _ _ (by omega) (by omega) (by decide)) W
  rw [show (Ky.mk 1 ⟨#[98]⟩ 0 true false false).name = [97, 108, 116, 45, 116, 101, 120, 116, 46, 98] from rfl] at h
  exact h
theorem un6 (W : World) : Calls Try.prog 18 #[.agg #[.int .i64 10, .string ⟨#[]⟩, .int .i64 0, .bool false, .bool false, .bool true]] W fun e w' => e = .returned (.string (mkS [99, 116, 108, 45, 108, 101, 102, 116])) ∧ Below W.heap.size W w' := by
  have h := wnameRS (Ky.mk 10 ⟨#[]⟩ 0 false false true) (ky_in _ _ _ _ _ _ (by omega) (by omega) (by decide)) W
  have hk : (Ky.mk 10 ⟨#[]⟩ 0 false false true).ok = true := by simp [Ky.ok, okN, okS_empty]
  rw [show (Ky.mk 10 ⟨#[]⟩ 0 false false true).name = [99, 116, 108, 45, 108, 101, 102, 116] by rw [Ky.name, hk]; rfl] at h
  exact h
theorem un7 (W : World) : Calls Try.prog 18 #[.agg #[.int .i64 11, .string ⟨#[]⟩, .int .i64 0, .bool true, .bool false, .bool false]] W fun e w' => e = .returned (.string (mkS [97, 108, 116, 45, 114, 105, 103, 104, 116])) ∧ Below W.heap.size W w' := by
  have h := wnameRS (Ky.mk 11 ⟨#[]⟩ 0 true false false) (ky_in _ _ _ _ _ _ (by omega) (by omega) (by decide)) W
  have hk : (Ky.mk 11 ⟨#[]⟩ 0 true false false).ok = true := by simp [Ky.ok, okN, okS_empty]
  rw [show (Ky.mk 11 ⟨#[]⟩ 0 true false false).name = [97, 108, 116, 45, 114, 105, 103, 104, 116] by rw [Ky.name, hk]; rfl] at h
  exact h
theorem un8 (W : World) : Calls Try.prog 18 #[.agg #[.int .i64 1, .string ⟨#[102]⟩, .int .i64 0, .bool true, .bool false, .bool false]] W fun e w' => e = .returned (.string (mkS [97, 108, 116, 45, 116, 101, 120, 116, 46, 102])) ∧ Below W.heap.size W w' := by
  have h := wnameRS (Ky.mk 1 ⟨#[102]⟩ 0 true false false) (ky_in _ _ _ _ _ _ (by omega) (by omega) (by decide)) W
  rw [show (Ky.mk 1 ⟨#[102]⟩ 0 true false false).name = [97, 108, 116, 45, 116, 101, 120, 116, 46, 102] from rfl] at h
  exact h
theorem un9 (W : World) : Calls Try.prog 18 #[.agg #[.int .i64 11, .string ⟨#[]⟩, .int .i64 0, .bool false, .bool false, .bool true]] W fun e w' => e = .returned (.string (mkS [99, 116, 108, 45, 114, 105, 103, 104, 116])) ∧ Below W.heap.size W w' := by
  have h := wnameRS (Ky.mk 11 ⟨#[]⟩ 0 false false true) (ky_in _ _ _ _ _ _ (by omega) (by omega) (by decide)) W
  have hk : (Ky.mk 11 ⟨#[]⟩ 0 false false true).ok = true := by simp [Ky.ok, okN, okS_empty]
  rw [show (Ky.mk 11 ⟨#[]⟩ 0 false false true).name = [99, 116, 108, 45, 114, 105, 103, 104, 116] by rw [Ky.name, hk]; rfl] at h
  exact h
theorem un10 (W : World) : Calls Try.prog 18 #[.agg #[.int .i64 12, .string ⟨#[]⟩, .int .i64 0, .bool false, .bool false, .bool false]] W fun e w' => e = .returned (.string (mkS [104, 111, 109, 101])) ∧ Below W.heap.size W w' := by
  have h := wnameRS (Ky.mk 12 ⟨#[]⟩ 0 false false false) (ky_in _ _ _ _ _ _ (by omega) (by omega) (by decide)) W
  have hk : (Ky.mk 12 ⟨#[]⟩ 0 false false false).ok = true := by simp [Ky.ok, okN, okS_empty]
  rw [show (Ky.mk 12 ⟨#[]⟩ 0 false false false).name = [104, 111, 109, 101] by rw [Ky.name, hk]; rfl] at h
  exact h
theorem un11 (W : World) : Calls Try.prog 18 #[.agg #[.int .i64 17, .string ⟨#[97]⟩, .int .i64 0, .bool false, .bool false, .bool false]] W fun e w' => e = .returned (.string (mkS [99, 116, 114, 108, 45, 97])) ∧ Below W.heap.size W w' := by
  have h := wnameRS (Ky.mk 17 ⟨#[97]⟩ 0 false false false) (ky_in _ _ _ _ _ _ (by omega) (by omega) (by decide)) W
  rw [show (Ky.mk 17 ⟨#[97]⟩ 0 false false false).name = [99, 116, 114, 108, 45, 97] from rfl] at h
  exact h
theorem un12 (W : World) : Calls Try.prog 18 #[.agg #[.int .i64 13, .string ⟨#[]⟩, .int .i64 0, .bool false, .bool false, .bool false]] W fun e w' => e = .returned (.string (mkS [101, 110, 100])) ∧ Below W.heap.size W w' := by
  have h := wnameRS (Ky.mk 13 ⟨#[]⟩ 0 false false false) (ky_in _ _ _ _ _ _ (by omega) (by omega) (by decide)) W
  have hk : (Ky.mk 13 ⟨#[]⟩ 0 false false false).ok = true := by simp [Ky.ok, okN, okS_empty]
  rw [show (Ky.mk 13 ⟨#[]⟩ 0 false false false).name = [101, 110, 100] by rw [Ky.name, hk]; rfl] at h
  exact h
theorem un13 (W : World) : Calls Try.prog 18 #[.agg #[.int .i64 17, .string ⟨#[101]⟩, .int .i64 0, .bool false, .bool false, .bool false]] W fun e w' => e = .returned (.string (mkS [99, 116, 114, 108, 45, 101])) ∧ Below W.heap.size W w' := by
  have h := wnameRS (Ky.mk 17 ⟨#[101]⟩ 0 false false false) (ky_in _ _ _ _ _ _ (by omega) (by omega) (by decide)) W
  rw [show (Ky.mk 17 ⟨#[101]⟩ 0 false false false).name = [99, 116, 114, 108, 45, 101] from rfl] at h
  exact h
theorem un14 (W : World) : Calls Try.prog 18 #[.agg #[.int .i64 6, .string ⟨#[]⟩, .int .i64 0, .bool false, .bool false, .bool false]] W fun e w' => e = .returned (.string (mkS [98, 97, 99, 107, 115, 112, 97, 99, 101])) ∧ Below W.heap.size W w' := by
  have h := wnameRS (Ky.mk 6 ⟨#[]⟩ 0 false false false) (ky_in _ _ _ _ _ _ (by omega) (by omega) (by decide)) W
  have hk : (Ky.mk 6 ⟨#[]⟩ 0 false false false).ok = true := by simp [Ky.ok, okN, okS_empty]
  rw [show (Ky.mk 6 ⟨#[]⟩ 0 false false false).name = [98, 97, 99, 107, 115, 112, 97, 99, 101] by rw [Ky.name, hk]; rfl] at h
  exact h
theorem un15 (W : World) : Calls Try.prog 18 #[.agg #[.int .i64 17, .string ⟨#[104]⟩, .int .i64 0, .bool false, .bool false, .bool false]] W fun e w' => e = .returned (.string (mkS [99, 116, 114, 108, 45, 104])) ∧ Below W.heap.size W w' := by
  have h := wnameRS (Ky.mk 17 ⟨#[104]⟩ 0 false false false) (ky_in _ _ _ _ _ _ (by omega) (by omega) (by decide)) W
  rw [show (Ky.mk 17 ⟨#[104]⟩ 0 false false false).name = [99, 116, 114, 108, 45, 104] from rfl] at h
  exact h
theorem un16 (W : World) : Calls Try.prog 18 #[.agg #[.int .i64 7, .string ⟨#[]⟩, .int .i64 0, .bool false, .bool false, .bool false]] W fun e w' => e = .returned (.string (mkS [100, 101, 108, 101, 116, 101])) ∧ Below W.heap.size W w' := by
  have h := wnameRS (Ky.mk 7 ⟨#[]⟩ 0 false false false) (ky_in _ _ _ _ _ _ (by omega) (by omega) (by decide)) W
  have hk : (Ky.mk 7 ⟨#[]⟩ 0 false false false).ok = true := by simp [Ky.ok, okN, okS_empty]
  rw [show (Ky.mk 7 ⟨#[]⟩ 0 false false false).name = [100, 101, 108, 101, 116, 101] by rw [Ky.name, hk]; rfl] at h
  exact h
theorem un17 (W : World) : Calls Try.prog 18 #[.agg #[.int .i64 17, .string ⟨#[100]⟩, .int .i64 0, .bool false, .bool false, .bool false]] W fun e w' => e = .returned (.string (mkS [99, 116, 114, 108, 45, 100])) ∧ Below W.heap.size W w' := by
  have h := wnameRS (Ky.mk 17 ⟨#[100]⟩ 0 false false false) (ky_in _ _ _ _ _ _ (by omega) (by omega) (by decide)) W
  rw [show (Ky.mk 17 ⟨#[100]⟩ 0 false false false).name = [99, 116, 114, 108, 45, 100] from rfl] at h
  exact h
theorem un18 (W : World) : Calls Try.prog 18 #[.agg #[.int .i64 17, .string ⟨#[107]⟩, .int .i64 0, .bool false, .bool false, .bool false]] W fun e w' => e = .returned (.string (mkS [99, 116, 114, 108, 45, 107])) ∧ Below W.heap.size W w' := by
  have h := wnameRS (Ky.mk 17 ⟨#[107]⟩ 0 false false false) (ky_in _ _ _ _ _ _ (by omega) (by omega) (by decide)) W
  rw [show (Ky.mk 17 ⟨#[107]⟩ 0 false false false).name = [99, 116, 114, 108, 45, 107] from rfl] at h
  exact h
theorem un19 (W : World) : Calls Try.prog 18 #[.agg #[.int .i64 17, .string ⟨#[117]⟩, .int .i64 0, .bool false, .bool false, .bool false]] W fun e w' => e = .returned (.string (mkS [99, 116, 114, 108, 45, 117])) ∧ Below W.heap.size W w' := by
  have h := wnameRS (Ky.mk 17 ⟨#[117]⟩ 0 false false false) (ky_in _ _ _ _ _ _ (by omega) (by omega) (by decide)) W
  rw [show (Ky.mk 17 ⟨#[117]⟩ 0 false false false).name = [99, 116, 114, 108, 45, 117] from rfl] at h
  exact h
theorem un20 (W : World) : Calls Try.prog 18 #[.agg #[.int .i64 1, .string ⟨#[100]⟩, .int .i64 0, .bool true, .bool false, .bool false]] W fun e w' => e = .returned (.string (mkS [97, 108, 116, 45, 116, 101, 120, 116, 46, 100])) ∧ Below W.heap.size W w' := by
  have h := wnameRS (Ky.mk 1 ⟨#[100]⟩ 0 true false false) (ky_in _ _ _ _ _ _ (by omega) (by omega) (by decide)) W
  rw [show (Ky.mk 1 ⟨#[100]⟩ 0 true false false).name = [97, 108, 116, 45, 116, 101, 120, 116, 46, 100] from rfl] at h
  exact h
theorem un21 (W : World) : Calls Try.prog 18 #[.agg #[.int .i64 17, .string ⟨#[119]⟩, .int .i64 0, .bool false, .bool false, .bool false]] W fun e w' => e = .returned (.string (mkS [99, 116, 114, 108, 45, 119])) ∧ Below W.heap.size W w' := by
  have h := wnameRS (Ky.mk 17 ⟨#[119]⟩ 0 false false false) (ky_in _ _ _ _ _ _ (by omega) (by omega) (by decide)) W
  rw [show (Ky.mk 17 ⟨#[119]⟩ 0 false false false).name = [99, 116, 114, 108, 45, 119] from rfl] at h
  exact h
theorem un22 (W : World) : Calls Try.prog 18 #[.agg #[.int .i64 6, .string ⟨#[]⟩, .int .i64 0, .bool true, .bool false, .bool false]] W fun e w' => e = .returned (.string (mkS [97, 108, 116, 45, 98, 97, 99, 107, 115, 112, 97, 99, 101])) ∧ Below W.heap.size W w' := by
  have h := wnameRS (Ky.mk 6 ⟨#[]⟩ 0 true false false) (ky_in _ _ _ _ _ _ (by omega) (by omega) (by decide)) W
  have hk : (Ky.mk 6 ⟨#[]⟩ 0 true false false).ok = true := by simp [Ky.ok, okN, okS_empty]
  rw [show (Ky.mk 6 ⟨#[]⟩ 0 true false false).name = [97, 108, 116, 45, 98, 97, 99, 107, 115, 112, 97, 99, 101] by rw [Ky.name, hk]; rfl] at h
  exact h
theorem un23 (W : World) : Calls Try.prog 18 #[.agg #[.int .i64 17, .string ⟨#[121]⟩, .int .i64 0, .bool false, .bool false, .bool false]] W fun e w' => e = .returned (.string (mkS [99, 116, 114, 108, 45, 121])) ∧ Below W.heap.size W w' := by
  have h := wnameRS (Ky.mk 17 ⟨#[121]⟩ 0 false false false) (ky_in _ _ _ _ _ _ (by omega) (by omega) (by decide)) W
  rw [show (Ky.mk 17 ⟨#[121]⟩ 0 false false false).name = [99, 116, 114, 108, 45, 121] from rfl] at h
  exact h
theorem un24 (W : World) : Calls Try.prog 18 #[.agg #[.int .i64 1, .string ⟨#[121]⟩, .int .i64 0, .bool true, .bool false, .bool false]] W fun e w' => e = .returned (.string (mkS [97, 108, 116, 45, 116, 101, 120, 116, 46, 121])) ∧ Below W.heap.size W w' := by
  have h := wnameRS (Ky.mk 1 ⟨#[121]⟩ 0 true false false) (ky_in _ _ _ _ _ _ (by omega) (by omega) (by decide)) W
  rw [show (Ky.mk 1 ⟨#[121]⟩ 0 true false false).name = [97, 108, 116, 45, 116, 101, 120, 116, 46, 121] from rfl] at h
  exact h
theorem un25 (W : World) : Calls Try.prog 18 #[.agg #[.int .i64 17, .string ⟨#[95]⟩, .int .i64 0, .bool false, .bool false, .bool false]] W fun e w' => e = .returned (.string (mkS [99, 116, 114, 108, 45, 95])) ∧ Below W.heap.size W w' := by
  have h := wnameRS (Ky.mk 17 ⟨#[95]⟩ 0 false false false) (ky_in _ _ _ _ _ _ (by omega) (by omega) (by decide)) W
  rw [show (Ky.mk 17 ⟨#[95]⟩ 0 false false false).name = [99, 116, 114, 108, 45, 95] from rfl] at h
  exact h
theorem un26 (W : World) : Calls Try.prog 18 #[.agg #[.int .i64 17, .string ⟨#[116]⟩, .int .i64 0, .bool false, .bool false, .bool false]] W fun e w' => e = .returned (.string (mkS [99, 116, 114, 108, 45, 116])) ∧ Below W.heap.size W w' := by
  have h := wnameRS (Ky.mk 17 ⟨#[116]⟩ 0 false false false) (ky_in _ _ _ _ _ _ (by omega) (by omega) (by decide)) W
  rw [show (Ky.mk 17 ⟨#[116]⟩ 0 false false false).name = [99, 116, 114, 108, 45, 116] from rfl] at h
  exact h
theorem un27 (W : World) : Calls Try.prog 18 #[.agg #[.int .i64 17, .string ⟨#[108]⟩, .int .i64 0, .bool false, .bool false, .bool false]] W fun e w' => e = .returned (.string (mkS [99, 116, 114, 108, 45, 108])) ∧ Below W.heap.size W w' := by
  have h := wnameRS (Ky.mk 17 ⟨#[108]⟩ 0 false false false) (ky_in _ _ _ _ _ _ (by omega) (by omega) (by decide)) W
  rw [show (Ky.mk 17 ⟨#[108]⟩ 0 false false false).name = [99, 116, 114, 108, 45, 108] from rfl] at h
  exact h
theorem un28 (W : World) : Calls Try.prog 18 #[.agg #[.int .i64 8, .string ⟨#[]⟩, .int .i64 0, .bool false, .bool false, .bool false]] W fun e w' => e = .returned (.string (mkS [117, 112])) ∧ Below W.heap.size W w' := by
  have h := wnameRS (Ky.mk 8 ⟨#[]⟩ 0 false false false) (ky_in _ _ _ _ _ _ (by omega) (by omega) (by decide)) W
  have hk : (Ky.mk 8 ⟨#[]⟩ 0 false false false).ok = true := by simp [Ky.ok, okN, okS_empty]
  rw [show (Ky.mk 8 ⟨#[]⟩ 0 false false false).name = [117, 112] by rw [Ky.name, hk]; rfl] at h
  exact h
theorem un29 (W : World) : Calls Try.prog 18 #[.agg #[.int .i64 17, .string ⟨#[112]⟩, .int .i64 0, .bool false, .bool false, .bool false]] W fun e w' => e = .returned (.string (mkS [99, 116, 114, 108, 45, 112])) ∧ Below W.heap.size W w' := by
  have h := wnameRS (Ky.mk 17 ⟨#[112]⟩ 0 false false false) (ky_in _ _ _ _ _ _ (by omega) (by omega) (by decide)) W
  rw [show (Ky.mk 17 ⟨#[112]⟩ 0 false false false).name = [99, 116, 114, 108, 45, 112] from rfl] at h
  exact h
theorem un30 (W : World) : Calls Try.prog 18 #[.agg #[.int .i64 9, .string ⟨#[]⟩, .int .i64 0, .bool false, .bool false, .bool false]] W fun e w' => e = .returned (.string (mkS [100, 111, 119, 110])) ∧ Below W.heap.size W w' := by
  have h := wnameRS (Ky.mk 9 ⟨#[]⟩ 0 false false false) (ky_in _ _ _ _ _ _ (by omega) (by omega) (by decide)) W
  have hk : (Ky.mk 9 ⟨#[]⟩ 0 false false false).ok = true := by simp [Ky.ok, okN, okS_empty]
  rw [show (Ky.mk 9 ⟨#[]⟩ 0 false false false).name = [100, 111, 119, 110] by rw [Ky.name, hk]; rfl] at h
  exact h
theorem un31 (W : World) : Calls Try.prog 18 #[.agg #[.int .i64 17, .string ⟨#[110]⟩, .int .i64 0, .bool false, .bool false, .bool false]] W fun e w' => e = .returned (.string (mkS [99, 116, 114, 108, 45, 110])) ∧ Below W.heap.size W w' := by
  have h := wnameRS (Ky.mk 17 ⟨#[110]⟩ 0 false false false) (ky_in _ _ _ _ _ _ (by omega) (by omega) (by decide)) W
  rw [show (Ky.mk 17 ⟨#[110]⟩ 0 false false false).name = [99, 116, 114, 108, 45, 110] from rfl] at h
  exact h
def UsualEnd (w : World) (e : Ending) (w' : World) : Prop := ∃ g, e = .returned (.slice (some ⟨g, 0, none⟩) 32 32) ∧ RowB w' (some ⟨g, 0, none⟩) 32 32 refU ∧ Below w.heap.size w w' ∧ w.heap.size ≤ g
theorem usual_row (w w1 : World) (hB : Below w.heap.size w w1) : RowB (w1.alloc (.cells (flat refU).toArray 91)) (some ⟨w1.heap.size, 0, none⟩) 32 32 refU ∧ Below w.heap.size w (w1.alloc (.cells (flat refU).toArray 91)) := by
  refine ⟨rowB_of (base := 0) ⟨rfl, .inr ⟨w1.heap.size, 32, (flat refU).toArray, rfl, Nat.zero_le _, heap_alloc_new _ _, Nat.le_refl _, by decide, rfl, rfl⟩⟩ rfl, hB.alloc hB.size _⟩
set_option maxRecDepth 100000 in
set_option maxHeartbeats 16000000 in
theorem wusualR (w : World) : Calls Try.prog 50 #[] w (UsualEnd w) := by
  go_enter Try.func50, Try.ntmps50
  have HB0 := Lib.hid (Below.refl w.heap.size w)
  go_wp2_with (first | (go_at_call 18; fail))
  go_at_call 18
  refine (un0 _).mono ?_
  rintro e w1 ⟨rfl, hb⟩
  have HB1 := Lib.hid (HB0.out.trans (below_le hb HB0.out.size))
  clear hb HB0
  go_wp2_with (first | (go_at_call 18; fail))
  go_at_call 18
  refine (un1 _).mono ?_
  rintro e w2 ⟨rfl, hb⟩
  have HB2 := Lib.hid (HB1.out.trans (below_le hb HB1.out.size))
  clear hb HB1
  go_wp2_with (first | (go_at_call 18; fail))
  go_at_call 18
  refine (un2 _).mono ?_
  rintro e w3 ⟨rfl, hb⟩
  have HB3 := Lib.hid (HB2.out.trans (below_le hb HB2.out.size))
  clear hb HB2
  go_wp2_with (first | (go_at_call 18; fail))
  go_at_call 18
  refine (un3 _).mono ?_
  rintro e w4 ⟨rfl, hb⟩
  have HB4 := Lib.hid (HB3.out.trans (below_le hb HB3.out.size))
  clear hb HB3
  go_wp2_with (first | (go_at_call 18; fail))
  go_at_call 18
  refine (un4 _).mono ?_
  rintro e w5 ⟨rfl, hb⟩
  have HB5 := Lib.hid (HB4.out.trans (below_le hb HB4.out.size))
  clear hb HB4
  go_wp2_with (first | (go_at_call 18; fail))
  go_at_call 18
  refine (un5 _).mono ?_
  rintro e w6 ⟨rfl, hb⟩
  have HB6 := Lib.hid (HB5.out.trans (below_le hb HB5.out.size))
  clear hb HB5
  go_wp2_with (first | (go_at_call 18; fail))
  go_at_call 18
  refine (un6 _).mono ?_
  rintro e w7 ⟨rfl, hb⟩
  have HB7 := Lib.hid (HB6.out.trans (below_le hb HB6.out.size))
  clear hb HB6
  go_wp2_with (first | (go_at_call 18; fail))
  go_at_call 18
  refine (un7 _).mono ?_
  rintro e w8 ⟨rfl, hb⟩
  have HB8 := Lib.hid (HB7.out.trans (below_le hb HB7.out.size))
  clear hb HB7
  go_wp2_with (first | (go_at_call 18; fail))
  go_at_call 18
  refine (un8 _).mono ?_
  rintro e w9 ⟨rfl, hb⟩
  have HB9 := Lib.hid (HB8.out.trans (below_le hb HB8.out.size))
  clear hb HB8
  go_wp2_with (first | (go_at_call 18; fail))
  go_at_call 18
  refine (un9 _).mono ?_
  rintro e w10 ⟨rfl, hb⟩
  have HB10 := Lib.hid (HB9.out.trans (below_le hb HB9.out.size))
  clear hb HB9
  go_wp2_with (first | (go_at_call 18; fail))
  go_at_call 18
  refine (un10 _).mono ?_
  rintro e w11 ⟨rfl, hb⟩
  have HB11 := Lib.hid (HB10.out.trans (below_le hb HB10.out.size))
  clear hb HB10
  go_wp2_with (first | (go_at_call 18; fail))
  go_at_call 18
  refine (un11 _).mono ?_
  rintro e w12 ⟨rfl, hb⟩
  have HB12 := Lib.hid (HB11.out.trans (below_le hb HB11.out.size))
  clear hb HB11
  go_wp2_with (first | (go_at_call 18; fail))
  go_at_call 18
  refine (un12 _).mono ?_
  rintro e w13 ⟨rfl, hb⟩
  have HB13 := Lib.hid (HB12.out.trans (below_le hb HB12.out.size))
  clear hb HB12
  go_wp2_with (first | (go_at_call 18; fail))
  go_at_call 18
  refine (un13 _).mono ?_
  rintro e w14 ⟨rfl, hb⟩
  have HB14 := Lib.hid (HB13.out.trans (below_le hb HB13.out.size))
  clear hb HB13
  go_wp2_with (first | (go_at_call 18; fail))
  go_at_call 18
  refine (un14 _).mono ?_
  rintro e w15 ⟨rfl, hb⟩
  have HB15 := Lib.hid (HB14.out.trans (below_le hb HB14.out.size))
  clear hb HB14
  go_wp2_with (first | (go_at_call 18; fail))
  go_at_call 18
  refine (un15 _).mono ?_
  rintro e w16 ⟨rfl, hb⟩
  have HB16 := Lib.hid (HB15.out.trans (below_le hb HB15.out.size))
  clear hb HB15
  go_wp2_with (first | (go_at_call 18; fail))
  go_at_call 18
  refine (un16 _).mono ?_
  rintro e w17 ⟨rfl, hb⟩
  have HB17 := Lib.hid (HB16.out.trans (below_le hb HB16.out.size))
  clear hb HB16
  go_wp2_with (first | (go_at_call 18; fail))
  go_at_call 18
  refine (un17 _).mono ?_
  rintro e w18 ⟨rfl, hb⟩
  have HB18 := Lib.hid (HB17.out.trans (below_le hb HB17.out.size))
  clear hb HB17
  go_wp2_with (first | (go_at_call 18; fail))
  go_at_call 18
  refine (un18 _).mono ?_
  rintro e w19 ⟨rfl, hb⟩
  have HB19 := Lib.hid (HB18.out.trans (below_le hb HB18.out.size))
  clear hb HB18
  go_wp2_with (first | (go_at_call 18; fail))
  go_at_call 18
  refine (un19 _).mono ?_
  rintro e w20 ⟨rfl, hb⟩
  have HB20 := Lib.hid (HB19.out.trans (below_le hb HB19.out.size))
  clear hb HB19
  go_wp2_with (first | (go_at_call 18; fail))
  go_at_call 18
  refine (un20 _).mono ?_
  rintro e w21 ⟨rfl, hb⟩
  have HB21 := Lib.hid (HB20.out.trans (below_le hb HB20.out.size))
  clear hb HB20
  go_wp2_with (first | (go_at_call 18; fail))
  go_at_call 18
  refine (un21 _).mono ?_
  rintro e w22 ⟨rfl, hb⟩
  have HB22 := Lib.hid (HB21.out.trans (below_le hb HB21.out.size))
  clear hb HB21
  go_wp2_with (first | (go_at_call 18; fail))
  go_at_call 18
  refine (un22 _).mono ?_
  rintro e w23 ⟨rfl, hb⟩
  have HB23 := Lib.hid (HB22.out.trans (below_le hb HB22.out.size))
  clear hb HB22
  go_wp2_with (first | (go_at_call 18; fail))
  go_at_call 18
  refine (un23 _).mono ?_
  rintro e w24 ⟨rfl, hb⟩
  have HB24 := Lib.hid (HB23.out.trans (below_le hb HB23.out.size))
  clear hb HB23
  go_wp2_with (first | (go_at_call 18; fail))
  go_at_call 18
  refine (un24 _).mono ?_
  rintro e w25 ⟨rfl, hb⟩
  have HB25 := Lib.hid (HB24.out.trans (below_le hb HB24.out.size))
  clear hb HB24
  go_wp2_with (first | (go_at_call 18; fail))
  go_at_call 18
  refine (un25 _).mono ?_
  rintro e w26 ⟨rfl, hb⟩
  have HB26 := Lib.hid (HB25.out.trans (below_le hb HB25.out.size))
  clear hb HB25
  go_wp2_with (first | (go_at_call 18; fail))
  go_at_call 18
  refine (un26 _).mono ?_
  rintro e w27 ⟨rfl, hb⟩
  have HB27 := Lib.hid (HB26.out.trans (below_le hb HB26.out.size))
  clear hb HB26
  go_wp2_with (first | (go_at_call 18; fail))
  go_at_call 18
  refine (un27 _).mono ?_
  rintro e w28 ⟨rfl, hb⟩
  have HB28 := Lib.hid (HB27.out.trans (below_le hb HB27.out.size))
  clear hb HB27
  go_wp2_with (first | (go_at_call 18; fail))
  go_at_call 18
  refine (un28 _).mono ?_
  rintro e w29 ⟨rfl, hb⟩
  have HB29 := Lib.hid (HB28.out.trans (below_le hb HB28.out.size))
  clear hb HB28
  go_wp2_with (first | (go_at_call 18; fail))
  go_at_call 18
  refine (un29 _).mono ?_
  rintro e w30 ⟨rfl, hb⟩
  have HB30 := Lib.hid (HB29.out.trans (below_le hb HB29.out.size))
  clear hb HB29
  go_wp2_with (first | (go_at_call 18; fail))
  go_at_call 18
  refine (un30 _).mono ?_
  rintro e w31 ⟨rfl, hb⟩
  have HB31 := Lib.hid (HB30.out.trans (below_le hb HB30.out.size))
  clear hb HB30
  go_wp2_with (first | (go_at_call 18; fail))
  go_at_call 18
  refine (un31 _).mono ?_
  rintro e w32 ⟨rfl, hb⟩
  have HB32 := Lib.hid (HB31.out.trans (below_le hb HB31.out.size))
  clear hb HB31
  go_wp2
  go_ret
  have h := usual_row w w32 HB32.out
  exact ⟨w32.heap.size, rfl, h.1, h.2, HB32.out.size⟩
end Go.Proofs.Ythkcfdnenbboaaa
