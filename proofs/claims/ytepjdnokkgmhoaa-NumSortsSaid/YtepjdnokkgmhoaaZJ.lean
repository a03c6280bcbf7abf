/- Rows of numbers in order: the plain law. -/
import Derived.Test.YtepjdnokkgmhoaaZI
namespace Go.Proofs.Ytepjdnokkgmhoaa
open Go.RowKit Go.Sort Go.Shelf
theorem sortN_sorted (K : List Nat) : (sortN K).Pairwise (fun a b => a ≤ b) := by
  have h := List.pairwise_mergeSort (le := fun a b : Nat => decide (a ≤ b)) (fun a b c h1 h2 => by simp only [decide_eq_true_eq] at *; omega) (fun a b => by simp only [Bool.or_eq_true, decide_eq_true_eq]; omega) K
  exact h.imp (by simp)
theorem sortN_perm (K : List Nat) : (sortN K).Perm K := List.mergeSort_perm K _
theorem sortN_eq {K K' : List Nat} (hp : K'.Perm K) (hs : K'.Pairwise (fun a b => a ≤ b)) : K' = sortN K :=
  List.Perm.eq_of_pairwise (le := fun a b : Nat => a ≤ b) (fun a b _ _ h1 h2 => by omega) hs (sortN_sorted K) (hp.trans (sortN_perm K).symm)
theorem keys_sortF (L : List Nat) (hl : ∀ a ∈ L, a < 18446744073709551616) : (sortF L).map keyN = sortN (keysF L) := by
  unfold sortF
  rw [List.map_map]
  refine (List.map_congr_left (g := id) fun k hk => ?_).trans (List.map_id _)
  rw [mem_sortN] at hk
  obtain ⟨a, ha, rfl⟩ := List.mem_map.1 hk
  show keyN (ofX (keyN a)) = keyN a
  rw [(ofX_key (hl a ha)).1, key_of_key a (hl a ha)]
theorem sortF_lt (L : List Nat) (hl : ∀ a ∈ L, a < 18446744073709551616) : ∀ a ∈ sortF L, a < 18446744073709551616 := fun a ha => by
  obtain ⟨k, hk, rfl⟩ := List.mem_map.1 ha
  rw [mem_sortN] at hk
  obtain ⟨b, hb, rfl⟩ := List.mem_map.1 hk
  exact ofX_lt (keyN_lt b (hl b hb))
theorem posF_spec (O : List Nat) (x : Nat) : ∀ k, (0 < posF O x k → keyN (O.getD (posF O x k - 1) 0) ≤ keyN x) ∧ ∀ t, posF O x k ≤ t → t < k → keyN x < keyN (O.getD t 0)
  | 0 => ⟨fun h => absurd h (by simp [posF]), fun t _ h => absurd h (Nat.not_lt_zero _)⟩
  | k + 1 => by
    unfold posF
    split
    next h =>
      refine ⟨(posF_spec O x k).1, fun t h1 h2 => ?_⟩
      rcases Nat.lt_or_ge t k with q | q
      · exact (posF_spec O x k).2 t h1 q
      · rw [show t = k by omega]; exact h
    next h =>
      refine ⟨fun _ => ?_, fun t h1 h2 => absurd h2 (by omega)⟩
      rw [Nat.add_sub_cancel]; omega
theorem insF_perm (O : List Nat) (x : Nat) : (insF O x).Perm (x :: O) := by
  unfold insF
  refine List.perm_middle.trans ?_
  rw [List.take_append_drop]
theorem insF_sorted {O : List Nat} {x : Nat} (h : O.Pairwise (fun a b => keyN a ≤ keyN b)) : (insF O x).Pairwise (fun a b => keyN a ≤ keyN b) := by
  obtain ⟨h1, h2⟩ := posF_spec O x O.length
  have hle := posF_le O x O.length
  unfold insF
  generalize posF O x O.length = p at *
  have ht : ∀ a ∈ O.take p, keyN a ≤ keyN x := fun a ha => by
    obtain ⟨j, hj, rfl⟩ := List.mem_iff_getElem.1 ha
    have hjp : j < p := by simp at hj; omega
    have hq := h1 (by omega)
    rw [List.getElem_take]
    have hg : O.getD (p - 1) 0 = O[p - 1]'(by omega) := by simp [show p - 1 < O.length by omega]
    rw [hg] at hq
    rcases Nat.lt_or_ge j (p - 1) with q | q
    · exact Nat.le_trans (List.pairwise_iff_getElem.1 h j (p - 1) (by omega) (by omega) q) hq
    · have : j = p - 1 := by omega
      subst this; exact hq
  have hd : ∀ a ∈ O.drop p, keyN x < keyN a := fun a ha => by
    obtain ⟨j, hj, rfl⟩ := List.mem_iff_getElem.1 ha
    have hj2 : p + j < O.length := by simp at hj; omega
    have := h2 (p + j) (by omega) hj2
    rw [List.getElem_drop]
    simpa [hj2] using this
  rw [List.pairwise_append]
  refine ⟨h.sublist (List.take_sublist _ _), List.pairwise_cons.2 ⟨fun a ha => Nat.le_of_lt (hd a ha), h.sublist (List.drop_sublist _ _)⟩, fun a ha b hb => ?_⟩
  rcases List.mem_cons.1 hb with rfl | hb
  · exact ht a ha
  · exact Nat.le_trans (ht a ha) (Nat.le_of_lt (hd b hb))
theorem refF_ok (L : List Nat) : ∀ i, i ≤ L.length → (refF L i).Perm (L.take i) ∧ (refF L i).Pairwise (fun a b => keyN a ≤ keyN b)
  | 0, _ => ⟨by simp [refF], by simp [refF]⟩
  | i + 1, h => by
    obtain ⟨h1, h2⟩ := refF_ok L i (by omega)
    rw [refF_succ L i (by omega), take_snoc L i (by omega)]
    exact ⟨(insF_perm _ _).trans ((h1.cons _).trans (List.perm_append_singleton _ _).symm), insF_sorted h2⟩
theorem keys_refF (L : List Nat) : (refF L L.length).map keyN = sortN (keysF L) := by
  obtain ⟨h1, h2⟩ := refF_ok L L.length (Nat.le_refl _)
  rw [List.take_length] at h1
  exact sortN_eq (h1.map keyN) (List.pairwise_map.2 h2)
/-- Both rows have the same keys, place by place. -/
theorem same_keys {A B : List Nat} (h : A.map keyN = B.map keyN) : ∀ i, i < A.length → keyN (A.getD i 0) = keyN (B.getD i 0) := fun i hi => by
  have hl : A.length = B.length := by have := congrArg List.length h; simpa using this
  have h1 : (A.map keyN)[i]? = (B.map keyN)[i]? := by rw [h]
  simpa [hi, show i < B.length by omega] using h1
theorem again_keys (L : List Nat) (hl : ∀ a ∈ L, a < 18446744073709551616) : (sortF (sortF L)).map keyN = (sortF L).map keyN := by
  rw [keys_sortF _ (sortF_lt L hl)]
  exact (sortN_eq (K := keysF (sortF L)) (List.Perm.refl _) (by unfold keysF; rw [keys_sortF L hl]; exact sortN_sorted _)).symm
theorem ord_sorted (L : List Nat) (hl : ∀ a ∈ L, a < 18446744073709551616) (i : Nat) (h0 : 0 < i) (hi : i < (sortF L).length) : ¬ ordN ((sortF L).getD (i - 1) 0) ((sortF L).getD i 0) = 1 := by
  have h := sortN_sorted (keysF L)
  rw [← keys_sortF L hl] at h
  have := List.pairwise_iff_getElem.1 h (i - 1) i (by simp; omega) (by simpa using hi) (by omega)
  simp only [List.getElem_map] at this
  have e1 : (sortF L).getD (i - 1) 0 = (sortF L)[i - 1]'(by omega) := by simp [show i - 1 < (sortF L).length by omega]
  have e2 : (sortF L).getD i 0 = (sortF L)[i]'hi := by simp [hi]
  rw [e1, e2]
  unfold ordN
  split
  · omega
  · split
    · omega
    · omega
end Go.Proofs.Ytepjdnokkgmhoaa
