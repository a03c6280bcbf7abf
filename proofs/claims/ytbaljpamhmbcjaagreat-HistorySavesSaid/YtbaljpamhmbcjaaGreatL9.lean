/- Plain words: a saved history is loaded as the same. -/
import Derived.Test.YtbaljpamhmbcjaaGreatL8
namespace Go.Proofs.YtbaljpamhmbcjaaGreat
open Go.RowKit Go.Shelf Go.Lib
theorem by8_ne {x : Int} (h : 11 ≤ x) (h2 : x < 256) : by8 x ≠ 10 := fun e => by
  have h3 : (by8 x).toNat = 10 := by rw [e]; rfl
  unfold by8 at h3
  rw [UInt8.toNat_ofNat'] at h3
  omega
theorem rb_no10 {r : Int} (h1 : isR r = true) (h2 : ctl r = false) : ∀ c ∈ rb r, c ≠ 10 := by
  unfold rb
  rw [if_pos h1]
  unfold isR at h1
  unfold ctl at h2
  rw [decide_eq_true_eq] at h1
  rw [decide_eq_false_iff_not] at h2
  unfold rb0
  intro c hc
  split at hc
  · rw [List.mem_singleton] at hc
    rw [hc]
    exact by8_ne (by omega) (by omega)
  · split at hc
    · simp only [List.mem_cons, List.not_mem_nil, or_false] at hc
      rcases hc with rfl | rfl <;> exact by8_ne (by omega) (by omega)
    · split at hc
      · simp only [List.mem_cons, List.not_mem_nil, or_false] at hc
        rcases hc with rfl | rfl | rfl <;> exact by8_ne (by omega) (by omega)
      · simp only [List.mem_cons, List.not_mem_nil, or_false] at hc
        rcases hc with rfl | rfl | rfl | rfl <;> exact by8_ne (by omega) (by omega)
theorem ofW_no {r : Int} (h : 0 < ofW r) : isR r = true ∧ ctl r = false := by
  unfold ofW at h
  split at h
  · omega
  · rename_i h2
    simp only [not_or, Bool.not_eq_false, Bool.not_eq_true] at h2
    exact ⟨h2.1, h2.2.1⟩
theorem isMk_no {r : Int} (h : isMk r = true) : isR r = true ∧ ctl r = false := by
  unfold isMk at h
  simp only [Bool.and_eq_true, Bool.not_eq_true'] at h
  exact ⟨h.2, h.1.2⟩
def No10 (s : List Bs × Bs × Bool) : Prop := (∀ l ∈ s.1, ∀ c ∈ l, c ≠ 10) ∧ ∀ c ∈ s.2.1, c ≠ 10
theorem No10.add {s : List Bs × Bs × Bool} (h : No10 s) (r : Int) : No10 (addS s r) := by
  unfold addS
  split
  · rename_i h1
    refine ⟨?_, rb_no10 (ofW_no h1).1 (ofW_no h1).2⟩
    intro l hl
    simp only at hl
    split at hl
    · rcases List.mem_append.1 hl with h2 | h2
      · exact h.1 l h2
      · rw [List.mem_singleton.1 h2]; exact h.2
    · exact h.1 l hl
  · split
    · rename_i h1
      refine ⟨h.1, fun c hc => ?_⟩
      rcases List.mem_append.1 hc with h2 | h2
      · exact h.2 c h2
      · exact rb_no10 (isMk_no h1.2.1).1 (isMk_no h1.2.1).2 c h2
    · exact h
theorem No10.cut {s : List Bs × Bs × Bool} (h : No10 s) (r : Int) : No10 (cutR s r) := by
  unfold cutR
  first
    | exact h.add r
    | (split <;> first | exact h.add r | exact h)
theorem No10.fold : ∀ (rs : List Int) {s : List Bs × Bs × Bool}, No10 s → No10 (rs.foldl cutR s)
  | [], _, h => h
  | r :: rs, _, h => No10.fold rs (h.cut r)
theorem cleanS_no10 (l : Bs) : ∀ c ∈ cleanS l, c ≠ 10 := by
  have h : No10 (cutF ((itm l).map (·.2))) := No10.fold _ ⟨by simp, by simp⟩
  intro c hc
  unfold cleanS at hc
  obtain ⟨x, hx, hcx⟩ := List.mem_flatten.1 hc
  unfold cutS endS at hx
  split at hx
  · rcases List.mem_append.1 hx with h2 | h2
    · exact h.1 x h2 c hcx
    · rw [List.mem_singleton.1 h2] at hcx; exact h.2 c hcx
  · exact h.1 x hx c hcx
theorem may_no10 {l : Bs} (h : mayS l = true) : ∀ c ∈ l, c ≠ 10 := by
  unfold mayS at h
  simp only [Bool.and_eq_true, decide_eq_true_eq] at h
  rw [← h.1.2]
  exact cleanS_no10 _
theorem addL_may {m : Nat} {L : List Bs} (h : ∀ l ∈ L, mayS l = true) (s : Bs) : ∀ l ∈ (addL m L s).2, mayS l = true := by
  unfold addL
  split
  · rename_i h1
    intro l hl
    rcases List.mem_cons.1 (List.mem_of_mem_take hl) with rfl | h2
    · exact h1.1
    · exact h l (List.mem_filter.1 h2).1
  · exact h
theorem fillN_may (m : Nat) (ss : List Bs) : ∀ k, k ≤ ss.length → ∀ l ∈ fillN m ss k, mayS l = true
  | 0, _ => by rw [fillN_zero]; simp
  | k + 1, hk => by rw [fillN_succ m ss k (by omega)]; exact addL_may (fillN_may m ss k (by omega)) _
theorem save_split {L : List Bs} (h : ∀ l ∈ L, mayS l = true) : splitL (saveS L) = (L.reverse, []) := by
  rw [saveS_eq]
  exact splitL_lines _ (fun l hl => may_no10 (h l (List.mem_reverse.1 hl)))
theorem loadE_save {L : List Bs} {m : Nat} (hm1 : 1 ≤ m) (hm2 : m ≤ 256) (h : ∀ l ∈ L, mayS l = true) (hg : GoodL m L) : loadE m (saveS L) = 0 := by
  rw [loadE_rest (by omega) (by omega) (by rw [save_split h]) (by rw [save_split h]; exact fun l hl => h l (List.mem_reverse.1 hl)), save_split h]
  rw [if_neg (not_not_intro ((List.reverse_perm L).nodup_iff.2 hg.2.2)), if_neg (by have := hg.1; simp; omega)]
theorem load_back {m : Int} {s : Bs} (h : loadE m s = 0) : (splitL s).2 = [] ∧ ((splitL s).1.length : Int) ≤ m ∧ 1 ≤ m ∧ m ≤ 256 ∧ saveS (splitL s).1.reverse = s := by
  unfold loadE at h
  split at h
  · cases h
  · split at h
    · cases h
    · split at h
      · cases h
      · split at h
        · cases h
        · rename_i h1 h2 h3 h4
          have h5 : (splitL s).2 = [] := by
            apply Classical.byContradiction
            intro q
            exact h2 (.inl q)
          refine ⟨h5, by omega, by omega, by omega, ?_⟩
          have := lines_splitL s
          rw [h5, List.append_nil] at this
          rw [saveS_eq, List.reverse_reverse]
          exact this
end Go.Proofs.YtbaljpamhmbcjaaGreat
