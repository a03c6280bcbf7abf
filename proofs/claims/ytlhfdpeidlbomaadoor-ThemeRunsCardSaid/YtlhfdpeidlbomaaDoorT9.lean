/- Walks: the parts' names and their places (written by gen_t9.py). -/
import Derived.Test.YtlhfdpeidlbomaaDoorT8
namespace Go.Proofs.YtlhfdpeidlbomaaDoor
open Go.RowKit Go.Shelf
def partsL : List Bs := [[116, 105, 116, 108, 101], [108, 97, 98, 101, 108], [102, 111, 99, 117, 115], [118, 97, 108, 117, 101], [111, 112, 116, 105, 111, 110], [99, 104, 111, 115, 101, 110], [99, 117, 114, 114, 101, 110, 116], [104, 105, 110, 116], [101, 114, 114, 111, 114], [98, 97, 114]]
def namesA : Array Value := #[.string ⟨#[116, 105, 116, 108, 101]⟩, .string ⟨#[108, 97, 98, 101, 108]⟩, .string ⟨#[102, 111, 99, 117, 115]⟩, .string ⟨#[118, 97, 108, 117, 101]⟩, .string ⟨#[111, 112, 116, 105, 111, 110]⟩, .string ⟨#[99, 104, 111, 115, 101, 110]⟩, .string ⟨#[99, 117, 114, 114, 101, 110, 116]⟩, .string ⟨#[104, 105, 110, 116]⟩, .string ⟨#[101, 114, 114, 111, 114]⟩, .string ⟨#[98, 97, 114]⟩]
theorem namesA_eq : namesA = #[.string ⟨#[116, 105, 116, 108, 101]⟩, .string ⟨#[108, 97, 98, 101, 108]⟩, .string ⟨#[102, 111, 99, 117, 115]⟩, .string ⟨#[118, 97, 108, 117, 101]⟩, .string ⟨#[111, 112, 116, 105, 111, 110]⟩, .string ⟨#[99, 104, 111, 115, 101, 110]⟩, .string ⟨#[99, 117, 114, 114, 101, 110, 116]⟩, .string ⟨#[104, 105, 110, 116]⟩, .string ⟨#[101, 114, 114, 111, 114]⟩, .string ⟨#[98, 97, 114]⟩] := rfl
theorem namesA_str : namesA = (strVs partsL).toArray := rfl
def plI (s : Bs) : Int := if s ∈ partsL then (partsL.idxOf s : Int) else 0
def plB (s : Bs) : Bool := decide (s ∈ partsL)
def prt (k : Nat) : Bs := partsL.getD k []
theorem k10 {k : Nat} (h : k < 10) : k = 0 ∨ k = 1 ∨ k = 2 ∨ k = 3 ∨ k = 4 ∨ k = 5 ∨ k = 6 ∨ k = 7 ∨ k = 8 ∨ k = 9 := by omega
theorem pl_at (k : Nat) (h : k < 10) : plI (prt k) = k ∧ plB (prt k) = true := by
  rcases k10 h with e | e | e | e | e | e | e | e | e | e <;> subst e <;> decide
theorem pl_none (s : Bs) (h : ∀ j, j < 10 → prt j ≠ s) : plI s = 0 ∧ plB s = false := by
  have hm : ¬ s ∈ partsL := by
    intro hm
    obtain ⟨j, hj, e⟩ := List.getElem_of_mem hm
    refine h j hj ?_
    rw [prt, List.getD_eq_getElem?_getD, List.getElem?_eq_getElem hj, e]
    rfl
  exact ⟨by rw [plI, if_neg hm], decide_eq_false hm⟩
theorem pl_in (s : Bs) : 0 ≤ plI s ∧ plI s < 10 := by
  unfold plI
  split
  · have h := List.idxOf_lt_length_of_mem (by assumption)
    have : partsL.length = 10 := rfl
    omega
  · omega
theorem prt_len (k : Nat) : (prt k).length ≤ 10 := by
  by_cases h : k < 10
  · rcases k10 h with e | e | e | e | e | e | e | e | e | e <;> subst e <;> decide
  · have hl : partsL.length ≤ k := by have : partsL.length = 10 := rfl; omega
    rw [prt, List.getD_eq_getElem?_getD, List.getElem?_eq_none hl]; decide
theorem idx_names (k : Nat) (hk : k < 10) (w : World) : (Instr.index 93 (.agg namesA) (.int .i64 (k : Int))).run Tryd.prog w = .ok (.string (tx (prt k))) w := by
  rcases k10 hk with e | e | e | e | e | e | e | e | e | e <;> subst e <;> kernel_rfl
set_option maxRecDepth 100000 in
set_option maxHeartbeats 2000000 in
theorem wnames (w : World) : Calls Tryd.prog 45 #[] w fun e w' => e = .returned (.agg namesA) ∧ Below w.heap.size w w' := by
  go_enter Tryd.func45, Tryd.ntmps45
  go_wp2
  exact bodyPost_ret (results_cell rfl _ _ w.heap.size 93 namesA (0, 0) _ rfl (heap_alloc_new _ _) Tryd.underlying93 rfl (by kernel_rfl)) rfl ⟨rfl, (Below.refl _ _).alloc (Nat.le_refl _) _⟩
set_option maxRecDepth 100000 in
set_option maxHeartbeats 2000000 in
theorem wplace (s : Bs) (w : World) : Calls Tryd.prog 30 #[.string (tx s)] w fun e w' => e = .returned (.tuple #[.int .i64 (plI s), .bool (plB s)]) ∧ Below w.heap.size w w' := by
  go_enter Tryd.func30, Tryd.ntmps30
  go_wp2_with (go_at_call 45; refine (wnames _).mono ?_; rintro e w1 ⟨rfl, hb1⟩)
  have HB := Lib.hid hb1
  clear hb1
  go_loop [7] (fun i => ∃ k : Nat, k ≤ 10 ∧ i = .int .i64 k ∧ Hid (∀ j, j < k → prt j ≠ s)) (fun i => 10 - (intOf i).toNat)
  case atStart => exact ⟨0, by omega, rfl, Lib.hid (fun j hj => absurd hj (Nat.not_lt_zero _))⟩
  case round =>
    obtain ⟨k, h10, rfl, HN⟩ := hrel
    by_cases hlt : k < 10
    · have hidx := idx_names k hlt
      by_cases e : prt k = s
      · have HR : Hid (plI s = k ∧ plB s = true) := by
          have hr := pl_at k hlt
          rw [e] at hr
          exact Lib.hid hr
        have he : ((tx (prt k)).toList == (tx s).toList) = true := by rw [beq_bytes, e]; simp
        clear e
        generalize tx (prt k) = c at he hidx
        go_wp2
        go_ret2
        exact ⟨by rw [HR.out.1, HR.out.2]; rfl, HB.out⟩
      · have he : ((tx (prt k)).toList == (tx s).toList) = false := by rw [beq_bytes]; exact decide_eq_false (fun q => e (tx_inj q))
        have HE := Lib.hid e
        clear e
        generalize tx (prt k) = c at he hidx
        go_wp2
        go_round
        case rel => exact ⟨k + 1, by omega, by go_num, Lib.hid (fun j hj => by
            by_cases hjk : j = k
            · rw [hjk]; exact HE.out
            · exact HN.out j (by omega))⟩
        case measure => simp [intOf]; omega
    · have HR := Lib.hid (pl_none s (fun j hj => HN.out j (by omega)))
      go_wp2
      go_ret2
      exact ⟨by rw [HR.out.1, HR.out.2]; rfl, HB.out⟩
theorem wparts (w : World) : Calls Tryd.prog 37 #[] w fun e w' => e = .returned (.slice (some ⟨w.heap.size, 0, none⟩) 10 10) ∧ w' = w.alloc (.cells namesA 9) := by
  go_enter Tryd.func37, Tryd.ntmps37
  go_wp2
  go_ret
  exact ⟨rfl, rfl⟩
theorem names_cell (w : World) (b : Nat) (h : w.heap[b]? = some (.cells namesA 9 (0, 0))) (k : Nat) (hk : k < 10) : w.cell? ⟨b, k, none⟩ = some (.string (tx (prt k))) := by
  have e : namesA[k]? = some (.string (tx (prt k))) := by
    rcases k10 hk with e | e | e | e | e | e | e | e | e | e <;> subst e <;> rfl
  simpa [World.cell?, h] using e
set_option maxRecDepth 100000 in
set_option maxHeartbeats 2000000 in
theorem wplaceR (s : Bs) (w : World) : Calls Tryd.prog 18 #[.string (tx s)] w fun e w' => e = .returned (.tuple #[.int .i64 (plI s), .bool (plB s)]) ∧ Below w.heap.size w w' := by
  have HB := Lib.hid ((Below.refl w.heap.size w).alloc (Nat.le_refl _) (.cells namesA 9))
  have HC := Lib.hid (names_cell (w.alloc (.cells namesA 9)) w.heap.size (heap_alloc_new _ _))
  go_enter Tryd.func18, Tryd.ntmps18
  go_wp2_with (go_at_call 37; refine (wparts _).mono ?_; rintro e w1 ⟨rfl, rfl⟩)
  generalize w.alloc (.cells namesA 9) = w1 at HB HC ⊢
  go_loop [5] (fun i => ∃ k : Nat, k ≤ 10 ∧ i = .int .i64 k ∧ Hid (∀ j, j < k → prt j ≠ s)) (fun i => 10 - (intOf i).toNat)
  case atStart => exact ⟨0, by omega, rfl, Lib.hid (fun j hj => absurd hj (Nat.not_lt_zero _))⟩
  case round =>
    obtain ⟨k, h10, rfl, HN⟩ := hrel
    by_cases hlt : k < 10
    · have hc := HC.out k hlt
      by_cases e : prt k = s
      · have HR : Hid (plI s = k ∧ plB s = true) := by
          have hr := pl_at k hlt
          rw [e] at hr
          exact Lib.hid hr
        have he : ((tx (prt k)).toList == (tx s).toList) = true := by rw [beq_bytes, e]; simp
        clear e
        generalize tx (prt k) = c at he hc
        go_wp2
        go_ret2
        exact ⟨by rw [HR.out.1, HR.out.2]; rfl, HB.out⟩
      · have he : ((tx (prt k)).toList == (tx s).toList) = false := by rw [beq_bytes]; exact decide_eq_false (fun q => e (tx_inj q))
        have HE := Lib.hid e
        clear e
        generalize tx (prt k) = c at he hc
        go_wp2
        go_round
        case rel => exact ⟨k + 1, by omega, by go_num, Lib.hid (fun j hj => by
            by_cases hjk : j = k
            · rw [hjk]; exact HE.out
            · exact HN.out j (by omega))⟩
        case measure => simp [intOf]; omega
    · have HR := Lib.hid (pl_none s (fun j hj => HN.out j (by omega)))
      go_wp2
      go_ret2
      exact ⟨by rw [HR.out.1, HR.out.2]; rfl, HB.out⟩
end Go.Proofs.YtlhfdpeidlbomaaDoor
