/- Walk: Load. -/
import Derived.Test.YtbaljpamhmbcjaaGreatL2
namespace Go.Proofs.YtbaljpamhmbcjaaGreat
open Go.RowKit Go.Shelf Go.Lib
def LoadEnd (m : Int) (s : Bs) (w : World) (e : Ending) (w' : World) : Prop := Below w.heap.size w w' ∧ ((loadE m s ≠ 0 ∧ e = .returned (.tuple #[.pointer none, .int .i64 (loadE m s)])) ∨ (loadE m s = 0 ∧ ∃ x c, e = .returned (.tuple #[.pointer (some ⟨w.heap.size, 0, none⟩), .int .i64 0]) ∧ His w' w.heap.size m (splitL s).1.reverse Wk.no x c))
theorem LoadEnd.bad {m : Int} {s : Bs} {w w' : World} {k : Int} (h : loadE m s = k) (hk : k ≠ 0) (hb : Below w.heap.size w w') : LoadEnd m s w (.returned (.tuple #[.pointer none, .int .i64 k])) w' := ⟨hb, .inl ⟨by rw [h]; exact hk, by rw [h]⟩⟩
theorem wLoad_no (m : Int) (h : m < 1 ∨ 256 < m) (s : Bs) (w : World) : Calls Tryz.prog 4 #[.int .i64 m, .string (tx s)] w (LoadEnd m s w) := by
  have HN := Lib.hid (wnewH_no m h w)
  have HE : Hid (loadE m s = 140) := Lib.hid (by unfold loadE; rw [if_pos h])
  clear h
  go_enter Tryz.func4, Tryz.ntmps4
  go_wp2_with (first | (go_at_call 11; (with_reducible refine HN.out.mono ?_); rintro e w' ⟨rfl, rfl⟩))
  go_ret2
  exact LoadEnd.bad HE.out (by decide) (Below.refl _ _)
theorem wcutnl (R l r : Bs) (hR : R.length ≤ 800000) (h : Lib.cut R [10] = (l, r, true)) (W : World) (hM : MaxLn W) : Calls Tryz.prog 13 #[.string (tx R), .string ⟨#[10]⟩] W fun e w' => e = .returned (.tuple #[.string (tx l), .string (tx r), .bool true]) ∧ Below W.heap.size W w' := by
  obtain ⟨k, hk⟩ := hM
  refine (Tryz.strings_Cut (tx R) ⟨#[10]⟩ k W (by rw [tx_size]; omega) hk).mono ?_
  rintro e w' ⟨rfl, n, rfl⟩
  have e1 : (tx R).data.toList = R := by simp [tx]
  rw [e1]
  have e2 : (⟨#[10]⟩ : ByteArray).data.toList = [10] := rfl
  rw [e2, h]
  exact ⟨rfl, below_drewN (Below.refl _ _) n⟩
def strLen : Value → Nat
  | .string t => t.size
  | _ => 0
theorem loadE_may {m : Int} {s : Bs} (h1 : 1 ≤ m) (h2 : m ≤ 256) {l : Bs} (hl : l ∈ (splitL s).1) (h : mayS l = false) : loadE m s = 7 := by
  have hc : (splitL s).2 ≠ [] ∨ (splitL s).1.all mayS = false := .inr (List.all_eq_false.2 ⟨l, hl, by rw [h]; simp⟩)
  unfold loadE
  rw [if_neg (by omega), if_pos hc]
theorem loadE_tail {m : Int} {s : Bs} (h1 : 1 ≤ m) (h2 : m ≤ 256) (h : (splitL s).2 ≠ []) : loadE m s = 7 := by
  unfold loadE
  rw [if_neg (by omega), if_pos (.inl h)]
theorem loadE_rest {m : Int} {s : Bs} (h1 : 1 ≤ m) (h2 : m ≤ 256) (h : (splitL s).2 = []) (ha : ∀ l ∈ (splitL s).1, mayS l = true) : loadE m s = if ¬ (splitL s).1.Nodup then 1 else if m < ((splitL s).1.length : Int) then 3 else 0 := by
  unfold loadE
  rw [if_neg (by omega), if_neg (fun q => ?_)]
  rcases q with q | q
  · exact q h
  · rw [List.all_eq_true.2 ha] at q; cases q
theorem wsuf (s : Bs) (hs : s.length ≤ 800000) (h0 : s ≠ []) (w : World) : Calls Tryz.prog 12 #[.string (tx s), .string ⟨#[10]⟩] w fun e w' => e = .returned (.bool (decide ((splitL s).2 = []))) ∧ w = w' := by
  refine (Tryz.strings_HasSuffix (tx s) ⟨#[10]⟩ w (by rw [tx_size]; omega)).mono ?_
  rintro e w' ⟨rfl, rfl⟩
  have e1 : (tx s).data.toList = s := by simp [tx]
  have e2 : (⟨#[10]⟩ : ByteArray).data.toList = [10] := rfl
  rw [e1, e2]
  have := suffix_nl s h0
  refine ⟨?_, rfl⟩
  by_cases h : (splitL s).2 = []
  · rw [decide_eq_true h, this.2 h]
  · rw [decide_eq_false h]
    cases h2 : hasSuffix s [10]
    · rfl
    · exact absurd (this.1 h2) h
/-- What the first loop keeps. -/
def Ld1 (w : World) (m : Int) (s R : Bs) (D : List Bs) (x : Option Addr) (c : Nat) (W : World) : Prop := LdI w W m D x c ∧ splitL s = (D ++ (splitL R).1, (splitL R).2) ∧ (∀ l ∈ D, mayS l = true) ∧ R.length ≤ s.length
theorem Ld1.len {w : World} {m : Int} {s R : Bs} {D : List Bs} {x : Option Addr} {c : Nat} {W : World} (h : Ld1 w m s R D x c W) : D.length + (splitL R).1.length = (splitL s).1.length := by rw [h.2.1]; simp
theorem tx_empty {l : Bs} (h : l ≠ []) : (tx l).toList.isEmpty = false ∧ ¬ (tx l).toList = [] := by
  have h1 : (tx l).toList.isEmpty = false := by rw [ByteArray.toList_eq]; simpa [tx] using h
  exact ⟨h1, fun q => by rw [q] at h1; cases h1⟩
end Go.Proofs.YtbaljpamhmbcjaaGreat
