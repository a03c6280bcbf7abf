/- Own texts, merged: FN. -/
import Derived.Test.YtdehjofmangmbaaGreatMS42
/- Plain words: options kept, in order. -/
namespace Go.Proofs.YtdehjofmangmbaaGreat
/-- Does one price stand behind another one? -/
def drr (a p : Plc) : Bool := decide (a.1 > p.1 ∨ a.1 = p.1 ∧ a.2.1 > p.2.1)
/-- The place behind all that are not dearer, from behind. -/
def kAt (l : List Plc) (p : Plc) : Nat → Nat
  | 0 => 0
  | k + 1 => if drr (l.getD k (0, 0, 0)) p = true then kAt l p k else k + 1
def insQ (l : List Plc) (p : Plc) : List Plc := l.take (kAt l p l.length) ++ p :: l.drop (kAt l p l.length)
def sieQ (ws : List (List Bs)) (opts : List Bs) : List Plc := (plcs ws opts).foldl insQ []
/-- Which options are kept, in order. -/
def sieT (q : Bs) (opts : List Bs) : List Nat := (sieQ (wds q) opts).map (·.2.2)
theorem kAt_le (l : List Plc) (p : Plc) : ∀ k, kAt l p k ≤ k
  | 0 => Nat.le_refl _
  | k + 1 => by
    unfold kAt
    split
    · exact Nat.le_succ_of_le (kAt_le l p k)
    · exact Nat.le_refl _
theorem kAt_hi (l : List Plc) (p : Plc) : ∀ k j, kAt l p k ≤ j → j < k → drr (l.getD j (0, 0, 0)) p = true
  | 0, j, _, h => by omega
  | k + 1, j, h1, h2 => by
    unfold kAt at h1
    split at h1
    · rename_i h
      rcases Nat.lt_or_ge j k with q | q
      · exact kAt_hi l p k j h1 q
      · have : j = k := by omega
        subst this
        exact h
    · omega
theorem kAt_lo (l : List Plc) (p : Plc) : ∀ k, 0 < kAt l p k → drr (l.getD (kAt l p k - 1) (0, 0, 0)) p = false
  | 0, h => by simp [kAt] at h
  | k + 1, h => by
    unfold kAt at h ⊢
    split
    · rename_i h2
      rw [if_pos h2] at h
      exact kAt_lo l p k h
    · rename_i h2
      simpa using h2
/-- Not ahead. -/
def nahd (a b : Plc) : Prop := ahd b a = false
theorem ahd_iff (a b : Plc) : ahd a b = true ↔ (a.1 < b.1 ∨ a.1 = b.1 ∧ (a.2.1 < b.2.1 ∨ a.2.1 = b.2.1 ∧ a.2.2 < b.2.2)) := by unfold ahd; exact decide_eq_true_iff
theorem nahd_iff (a b : Plc) : nahd a b ↔ ¬ (b.1 < a.1 ∨ b.1 = a.1 ∧ (b.2.1 < a.2.1 ∨ b.2.1 = a.2.1 ∧ b.2.2 < a.2.2)) := by
  unfold nahd
  rw [← ahd_iff]
  simp
theorem drr_iff (a p : Plc) : drr a p = true ↔ (a.1 > p.1 ∨ a.1 = p.1 ∧ a.2.1 > p.2.1) := by unfold drr; exact decide_eq_true_iff
theorem ins_perm (l : List Plc) (p : Plc) : (insQ l p).Perm (p :: l) := by
  unfold insQ
  have h := List.perm_middle (a := p) (l₁ := l.take (kAt l p l.length)) (l₂ := l.drop (kAt l p l.length))
  rw [List.take_append_drop] at h
  exact h
theorem ins_sorted {l : List Plc} {p : Plc} (h : l.Pairwise nahd) (hi : ∀ x ∈ l, x.2.2 < p.2.2) : (insQ l p).Pairwise nahd := by
  have hg : ∀ j, (hj : j < l.length) → l.getD j (0, 0, 0) = l[j] := fun j hj => by rw [List.getD_eq_getElem?_getD, List.getElem?_eq_getElem hj]; rfl
  have hk := kAt_le l p l.length
  have hlow : ∀ x ∈ l.take (kAt l p l.length), nahd x p := by
    intro x hx
    obtain ⟨j, hj, rfl⟩ := List.getElem_of_mem hx
    rw [List.length_take] at hj
    rw [List.getElem_take]
    have hlo := kAt_lo l p l.length (by omega)
    rw [hg _ (by omega)] at hlo
    have hs : nahd l[j] l[kAt l p l.length - 1] := by
      rcases Nat.lt_or_ge j (kAt l p l.length - 1) with q | q
      · exact List.pairwise_iff_getElem.1 h j _ (by omega) (by omega) q
      · have : j = kAt l p l.length - 1 := by omega
        simp only [this]
        rw [nahd_iff]
        omega
    have hid := hi l[j] (List.getElem_mem _)
    rw [nahd_iff] at hs ⊢
    have hn : ¬ (l[kAt l p l.length - 1].1 > p.1 ∨ l[kAt l p l.length - 1].1 = p.1 ∧ l[kAt l p l.length - 1].2.1 > p.2.1) := by
      rw [← drr_iff, hlo]; simp
    omega
  have hhigh : ∀ x ∈ l.drop (kAt l p l.length), nahd p x := by
    intro x hx
    obtain ⟨j, hj, rfl⟩ := List.getElem_of_mem hx
    rw [List.length_drop] at hj
    rw [List.getElem_drop]
    have := kAt_hi l p l.length (kAt l p l.length + j) (by omega) (by omega)
    rw [hg _ (by omega), drr_iff] at this
    rw [nahd_iff]
    omega
  unfold insQ
  rw [List.pairwise_append]
  refine ⟨h.take, List.pairwise_cons.2 ⟨hhigh, h.drop⟩, fun a ha b hb => ?_⟩
  rcases List.mem_cons.1 hb with rfl | q
  · exact hlow a ha
  · have h2 := List.take_append_drop (kAt l p l.length) l
    have h3 : (l.take (kAt l p l.length) ++ l.drop (kAt l p l.length)).Pairwise nahd := by rw [h2]; exact h
    exact (List.pairwise_append.1 h3).2.2 a ha b q
theorem fold_sorted : ∀ (L acc : List Plc), acc.Pairwise nahd → (∀ x ∈ acc, ∀ y ∈ L, x.2.2 < y.2.2) → L.Pairwise (fun a b => a.2.2 < b.2.2) → (L.foldl insQ acc).Pairwise nahd ∧ (L.foldl insQ acc).Perm (acc ++ L)
  | [], acc, h, _, _ => ⟨h, by simp⟩
  | p :: L, acc, h, hx, hL => by
    obtain ⟨l1, l2⟩ := List.pairwise_cons.1 hL
    have hp := ins_perm acc p
    have := fold_sorted L (insQ acc p) (ins_sorted h (fun x hxa => hx x hxa p (by simp))) (fun x hxm y hy => by
      rcases List.mem_cons.1 (hp.mem_iff.1 hxm) with rfl | q
      · exact l1 y hy
      · exact hx x q y (by simp [hy])) l2
    refine ⟨this.1, this.2.trans ?_⟩
    exact (hp.append_right L).trans (by simpa using List.perm_middle.symm)
theorem nahd_anti {a b : Plc} (h1 : nahd a b) (h2 : nahd b a) : a = b := by
  rw [nahd_iff] at h1 h2
  obtain ⟨a1, a2, a3⟩ := a
  obtain ⟨b1, b2, b3⟩ := b
  simp only at h1 h2
  have e1 : a1 = b1 := by omega
  have e2 : a2 = b2 := by omega
  have e3 : a3 = b3 := by omega
  rw [e1, e2, e3]
theorem sorted_one : ∀ {A B : List Plc}, A.Perm B → A.Pairwise nahd → B.Pairwise nahd → A = B
  | [], B, h, _, _ => (List.Perm.nil_eq h)
  | a :: A, [], h, _, _ => absurd h.length_eq (by simp)
  | a :: A, b :: B, h, hA, hB => by
    obtain ⟨a1, a2⟩ := List.pairwise_cons.1 hA
    obtain ⟨b1, b2⟩ := List.pairwise_cons.1 hB
    have e : a = b := by
      rcases List.mem_cons.1 (h.mem_iff.1 (show a ∈ a :: A by simp)) with q | q
      · exact q
      · rcases List.mem_cons.1 (h.mem_iff.2 (show b ∈ b :: B by simp)) with q2 | q2
        · exact q2.symm
        · exact nahd_anti (a1 b q2) (b1 a q)
    subst e
    rw [sorted_one (List.Perm.cons_inv h) a2 b2]
theorem plcs_rise (ws : List (List Bs)) (opts : List Bs) : (plcs ws opts).Pairwise (fun a b => a.2.2 < b.2.2) := by
  unfold plcs
  rw [List.pairwise_filterMap]
  refine List.pairwise_lt_range.imp (fun {i j} hij b hb c hc => ?_)
  split at hb
  · cases hb
  · split at hc
    · cases hc
    · cases hb; cases hc
      exact hij
/-- Whatever row is in order and holds the same is the row. -/
theorem sie_is {ws : List (List Bs)} {opts : List Bs} {A : List Plc} (h : A.Perm (plcs ws opts)) (hs : A.Pairwise nahd) : A = sieQ ws opts := by
  have := fold_sorted (plcs ws opts) [] List.Pairwise.nil (by simp) (plcs_rise ws opts)
  rw [List.nil_append] at this
  exact sorted_one (h.trans this.2.symm) hs this.1
theorem sie_perm (ws : List (List Bs)) (opts : List Bs) : (sieQ ws opts).Perm (plcs ws opts) := by
  have := (fold_sorted (plcs ws opts) [] List.Pairwise.nil (by simp) (plcs_rise ws opts)).2
  rwa [List.nil_append] at this
/-- What the options ahead of a place give. -/
def plcN (ws : List (List Bs)) (opts : List Bs) (n : Nat) : List Plc := (List.range n).filterMap fun i => match kepS (clS (opts.getD i [])) ws with
  | none => none
  | some f => some (f.rank, f.gaps, i)
theorem plcN_all (ws : List (List Bs)) (opts : List Bs) : plcN ws opts opts.length = plcs ws opts := rfl
theorem plcN_succ (ws : List (List Bs)) (opts : List Bs) (n : Nat) : plcN ws opts (n + 1) = plcN ws opts n ++ (match kepS (clS (opts.getD n [])) ws with
  | none => []
  | some f => [(f.rank, f.gaps, n)]) := by
  unfold plcN
  rw [List.range_succ, List.filterMap_append]
  congr 1
  cases h : kepS (clS (opts.getD n [])) ws <;> simp only [List.filterMap_cons, List.filterMap_nil, h]
theorem plcN_len (ws : List (List Bs)) (opts : List Bs) (n : Nat) : (plcN ws opts n).length ≤ n := by
  have := List.length_filterMap_le (fun i => match kepS (clS (opts.getD i [])) ws with
    | none => none
    | some f => some (f.rank, f.gaps, i)) (List.range n)
  rw [List.length_range] at this
  exact this
theorem plcN_mem {ws : List (List Bs)} {opts : List Bs} {n : Nat} {x : Plc} (h : x ∈ plcN ws opts n) : x.2.2 < n ∧ ∃ f, kepS (clS (opts.getD x.2.2 [])) ws = some f ∧ x = (f.rank, f.gaps, x.2.2) := by
  unfold plcN at h
  obtain ⟨i, hi, e⟩ := List.mem_filterMap.1 h
  split at e
  · cases e
  · rename_i f hf
    cases e
    exact ⟨List.mem_range.1 hi, f, hf, rfl⟩
end Go.Proofs.YtdehjofmangmbaaGreat
