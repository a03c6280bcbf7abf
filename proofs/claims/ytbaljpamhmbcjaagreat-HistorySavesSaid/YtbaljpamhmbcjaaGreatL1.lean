/- Plain words: the lines of a saved history. -/
import Derived.Test.YtbaljpamhmbcjaaGreatKI
namespace Go.Proofs.YtbaljpamhmbcjaaGreat
open Go.RowKit Go.Shelf
/-- The lines that newlines end, and what stands behind the last one. -/
def splitL : Bs → List Bs × Bs
  | [] => ([], [])
  | c :: t => if c = 10 then ([] :: (splitL t).1, (splitL t).2) else
    match (splitL t).1 with
    | [] => ([], c :: (splitL t).2)
    | l :: ls => ((c :: l) :: ls, (splitL t).2)
theorem splitL_nl (t : Bs) : splitL (10 :: t) = ([] :: (splitL t).1, (splitL t).2) := by rw [splitL, if_pos rfl]
theorem splitL_none {c : UInt8} {t : Bs} (h : c ≠ 10) (e : (splitL t).1 = []) : splitL (c :: t) = ([], c :: (splitL t).2) := by rw [splitL, if_neg h, e]
theorem splitL_some {c : UInt8} {t l : Bs} {ls : List Bs} (h : c ≠ 10) (e : (splitL t).1 = l :: ls) : splitL (c :: t) = ((c :: l) :: ls, (splitL t).2) := by rw [splitL, if_neg h, e]
theorem splitL_cons : ∀ (l r : Bs), (∀ c ∈ l, c ≠ 10) → splitL (l ++ 10 :: r) = (l :: (splitL r).1, (splitL r).2)
  | [], r, _ => splitL_nl r
  | c :: l, r, h => by
    have h1 := splitL_cons l r (fun d hd => h d (List.mem_cons_of_mem _ hd))
    have h2 : (splitL (l ++ 10 :: r)).1 = l :: (splitL r).1 := by rw [h1]
    rw [List.cons_append, splitL_some (h c (List.mem_cons_self ..)) h2, h1]
theorem splitL_snoc : ∀ (p : Bs) (c : UInt8), splitL (p ++ [c]) = if c = 10 then ((splitL p).1 ++ [(splitL p).2], []) else ((splitL p).1, (splitL p).2 ++ [c])
  | [], c => by
    by_cases h : c = 10
    · subst h; rfl
    · rw [List.nil_append, if_neg h, splitL_none h rfl]; rfl
  | d :: p, c => by
    have hi := splitL_snoc p c
    rw [List.cons_append]
    by_cases hd : d = 10
    · subst hd
      rw [splitL_nl, splitL_nl, hi]
      by_cases h : c = 10
      · rw [if_pos h, if_pos h]; rfl
      · rw [if_neg h, if_neg h]
    · by_cases h : c = 10
      · rw [if_pos h] at hi ⊢
        cases e : (splitL p).1 with
        | nil =>
          rw [e] at hi
          rw [splitL_none hd e, splitL_some hd (l := (splitL p).2) (ls := []) (by rw [hi]; rfl), hi]
          rfl
        | cons l ls =>
          rw [e] at hi
          rw [splitL_some hd e, splitL_some hd (l := l) (ls := ls ++ [(splitL p).2]) (by rw [hi]; rfl), hi]
          rfl
      · rw [if_neg h] at hi ⊢
        cases e : (splitL p).1 with
        | nil =>
          rw [e] at hi
          rw [splitL_none hd e, splitL_none hd (by rw [hi]), hi]
          rfl
        | cons l ls =>
          rw [e] at hi
          rw [splitL_some hd e, splitL_some hd (l := l) (ls := ls) (by rw [hi]), hi]
theorem splitL_len : ∀ p : Bs, (splitL p).2.length ≤ p.length ∧ (splitL p).1.length ≤ p.length ∧ p.drop (p.length - (splitL p).2.length) = (splitL p).2 ∧ ∀ l ∈ (splitL p).1, l.length ≤ p.length
  | [] => by simp [splitL]
  | c :: t => by
    obtain ⟨h1, h2, h3, h4⟩ := splitL_len t
    by_cases hc : c = 10
    · subst hc
      rw [splitL_nl]
      refine ⟨by simp; omega, by simp; omega, ?_, fun l hl => ?_⟩
      · have e : (10 :: t : Bs).length - (splitL t).2.length = (t.length - (splitL t).2.length) + 1 := by simp; omega
        simp only [e, List.drop_succ_cons]
        exact h3
      · rcases List.mem_cons.1 hl with rfl | hl
        · simp
        · have := h4 l hl; simp; omega
    · cases e : (splitL t).1 with
      | nil =>
        rw [splitL_none hc e]
        have ht : (splitL t).2 = t := by
          clear h1 h2 h3 h4 hc
          revert e
          induction t with
          | nil => intro _; rfl
          | cons d t ih =>
            intro e
            by_cases hd : d = 10
            · subst hd; rw [splitL_nl] at e; cases e
            · cases e2 : (splitL t).1 with
              | nil => rw [splitL_none hd e2, ih e2]
              | cons l ls => rw [splitL_some hd e2] at e; cases e
        rw [ht]
        refine ⟨by simp, by simp, by simp, by simp⟩
      | cons l ls =>
        rw [splitL_some hc e]
        have hl0 := h4 l (by rw [e]; simp)
        rw [e] at h2 h4
        refine ⟨by simp; omega, by simp at h2 ⊢; omega, ?_, fun x hx => ?_⟩
        · have e2 : (c :: t : Bs).length - (splitL t).2.length = (t.length - (splitL t).2.length) + 1 := by simp; omega
          simp only [e2, List.drop_succ_cons]
          exact h3
        · rcases List.mem_cons.1 hx with rfl | hx
          · simp; omega
          · have := h4 x (List.mem_cons_of_mem _ hx); simp; omega
/-- A newline that stands first is found. -/
theorem cut_nl : ∀ s : Bs, 10 ∈ s → ∃ l r, s = l ++ 10 :: r ∧ (∀ c ∈ l, c ≠ 10) ∧ Lib.cut s [10] = (l, r, true) := by
  intro s hs
  have key : ∀ s : Bs, 10 ∈ s → ∃ l r, s = l ++ 10 :: r ∧ (∀ c ∈ l, c ≠ 10) ∧ Lib.index s [10] = (l.length : Nat) := by
    intro s
    induction s with
    | nil => intro h; cases h
    | cons c t ih =>
      intro h
      by_cases hc : c = 10
      · subst hc
        refine ⟨[], t, rfl, by simp, ?_⟩
        rw [Lib.index_one]
        rfl
      · have ht : 10 ∈ t := by
          rcases List.mem_cons.1 h with e | e
          · exact absurd e.symm hc
          · exact e
        obtain ⟨l, r, rfl, hl, hi⟩ := ih ht
        refine ⟨c :: l, r, rfl, fun d hd => ?_, ?_⟩
        · rcases List.mem_cons.1 hd with rfl | hd
          · exact hc
          · exact hl d hd
        · have hp : ([10] : Bs).isPrefixOf (c :: (l ++ 10 :: r)) = false := by
            simp [List.isPrefixOf, Ne.symm hc]
          unfold Lib.index
          rw [hp, hi]
          have : (((l.length : Nat) : Int) == -1) = false := by rw [beq_eq_false_iff_ne]; omega
          simp [this]
  obtain ⟨l, r, rfl, hl, hi⟩ := key s hs
  refine ⟨l, r, rfl, hl, ?_⟩
  unfold Lib.cut
  rw [hi, if_pos (by omega)]
  simp
theorem suffix_nl (s : Bs) (hs : s ≠ []) : Lib.hasSuffix s [10] = true ↔ (splitL s).2 = [] := by
  have e : s = s.dropLast ++ [s.getLast hs] := (List.dropLast_concat_getLast hs).symm
  have h1 := splitL_snoc s.dropLast (s.getLast hs)
  rw [← e] at h1
  unfold Lib.hasSuffix
  rw [List.isSuffixOf_iff_suffix]
  by_cases h : s.getLast hs = 10
  · rw [if_pos h] at h1
    rw [h1]
    refine ⟨fun _ => rfl, fun _ => ⟨s.dropLast, by rw [← h]; exact e.symm⟩⟩
  · rw [if_neg h] at h1
    rw [h1]
    refine ⟨fun ⟨t, ht⟩ => ?_, fun q => by simp at q⟩
    exfalso
    apply h
    subst ht
    simp
/-- Two that stand side by side are alike just where one stands twice. -/
theorem adj_nodup (L : List Bs) : (∀ i, 1 ≤ i → i < L.length → (L.mergeSort fun x y => decide (x ≤ y)).getD i [] ≠ (L.mergeSort fun x y => decide (x ≤ y)).getD (i - 1) []) ↔ L.Nodup := by
  have tr : ∀ a b c : Bs, decide (a ≤ b) = true → decide (b ≤ c) = true → decide (a ≤ c) = true := fun a b c h1 h2 => by
    simp only [decide_eq_true_eq] at h1 h2 ⊢
    exact List.le_trans h1 h2
  have tot : ∀ a b : Bs, (decide (a ≤ b) || decide (b ≤ a)) = true := fun a b => by
    simp only [Bool.or_eq_true, decide_eq_true_eq]
    exact List.le_total a b
  have hs := List.pairwise_mergeSort tr tot L
  have hp := List.mergeSort_perm L (fun x y => decide (x ≤ y))
  have hlen := hp.length_eq
  generalize (L.mergeSort fun x y => decide (x ≤ y)) = T at hs hp hlen ⊢
  rw [← hlen, ← hp.nodup_iff]
  have hget : ∀ i (h : i < T.length), T.getD i [] = T[i] := fun i h => by rw [List.getD_eq_getElem?_getD, List.getElem?_eq_getElem h]; rfl
  constructor
  · intro h
    unfold List.Nodup
    rw [List.pairwise_iff_getElem]
    intro i j hi hj hij e
    have h1 : T[i] ≤ T[i + 1] := by
      have := (List.pairwise_iff_getElem.1 hs) i (i + 1) hi (by omega) (by omega)
      simpa using this
    have h2 : T[i + 1] ≤ T[i] := by
      rcases Nat.lt_or_eq_of_le (show i + 1 ≤ j by omega) with hlt | heq
      · have := (List.pairwise_iff_getElem.1 hs) (i + 1) j (by omega) hj hlt
        rw [e]
        simpa using this
      · subst heq
        rw [e]
        exact List.le_refl _
    refine h (i + 1) (by omega) (by omega) ?_
    rw [hget _ (by omega), Nat.add_sub_cancel, hget _ hi]
    exact List.le_antisymm h2 h1
  · intro h i h1 h2 e
    rw [hget _ h2, hget _ (by omega)] at e
    unfold List.Nodup at h
    exact (List.pairwise_iff_getElem.1 h) (i - 1) i (by omega) h2 (by omega) e.symm
/-- What Load answers. -/
def loadE (m : Int) (s : Bs) : Int :=
  if m < 1 ∨ 256 < m then 140
  else if (splitL s).2 ≠ [] ∨ (splitL s).1.all mayS = false then 7
  else if ¬ (splitL s).1.Nodup then 1
  else if m < ((splitL s).1.length : Int) then 3 else 0
theorem saveS_eq (L : List Bs) : saveS L = L.reverse.flatMap (fun l => l ++ [10]) := by
  have key : ∀ (ks : List Nat), saveN L ks = (ks.reverse).flatMap (fun k => L.getD k [] ++ [10]) := by
    intro ks
    rw [← List.reverse_reverse ks]
    generalize ks.reverse = us
    rw [List.reverse_reverse]
    induction us with
    | nil => rfl
    | cons k us ih => rw [List.reverse_cons, saveN_snoc, ih]; simp [List.flatMap_cons]
  unfold saveS
  rw [key]
  have h1 : L = (List.range L.length).map (fun k => L.getD k []) := by
    apply List.ext_getElem
    · simp
    · intro i h1 h2
      simp [List.getElem?_eq_getElem h1]
  conv => rhs; rw [h1]
  rw [← List.map_reverse, List.flatMap_map]
theorem splitL_lines : ∀ R : List Bs, (∀ l ∈ R, ∀ c ∈ l, c ≠ 10) → splitL (R.flatMap (fun l => l ++ [10])) = (R, [])
  | [], _ => rfl
  | l :: R, h => by
    have h1 := splitL_lines R (fun x hx => h x (List.mem_cons_of_mem _ hx))
    rw [List.flatMap_cons, List.append_assoc, List.singleton_append, splitL_cons l _ (h l (List.mem_cons_self ..)), h1]
theorem lines_splitL : ∀ s : Bs, (splitL s).1.flatMap (fun l => l ++ [10]) ++ (splitL s).2 = s
  | [] => rfl
  | c :: t => by
    have hi := lines_splitL t
    by_cases hc : c = 10
    · subst hc
      rw [splitL_nl, List.flatMap_cons, List.append_assoc, hi]
      rfl
    · cases e : (splitL t).1 with
      | nil =>
        rw [e] at hi
        rw [splitL_none hc e]
        simpa using hi
      | cons l ls =>
        rw [e] at hi
        rw [splitL_some hc e, List.flatMap_cons, List.cons_append, List.cons_append, List.cons_append]
        rw [List.flatMap_cons] at hi
        rw [hi]
end Go.Proofs.YtbaljpamhmbcjaaGreat
