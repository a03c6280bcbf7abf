/- The names in a tree and its text: plain. No program in sight. -/
import Derived.Test.YtfalcmbjjlgoaaaGreatDoorS1
import Derived.Lib.SlicesCompact
import Derived.Lib.RowBridge
import Derived.Lib.ItoaNum
namespace Go.Proofs.YtfalcmbjjlgoaaaGreatDoor
open Go.Lib
mutual

def namT : Tree → List Bs
  | .mk op _ s c => (if op = wname then [s] else []) ++ namL c
def namL : List Tree → List Bs
  | [] => []
  | t :: r => namT t ++ namL r
end
/-- A name put in its place, once. -/
def insU (x : Bs) : List Bs → List Bs
  | [] => [x]
  | y :: r => if y < x then y :: insU x r else if y = x then y :: r else x :: y :: r
def insA (o l : List Bs) : List Bs := l.foldl (fun o x => insU x o) o
mutual
def refN : Tree → List Bs
  | .mk op _ s c => refL (if op = wname then [s] else []) c
def refL : List Bs → List Tree → List Bs
  | o, [] => o
  | o, t :: r => refL (insA o (refN t)) r
end
/-- Names in order, each once. -/
def nmP (t : Tree) : List Bs := compact ((namT t).mergeSort (fun x y => decide (x ≤ y)))
abbrev SS (l : List Bs) : Prop := l.Pairwise (· < ·)
theorem bs_tri (x y : Bs) : x < y ∨ x = y ∨ y < x := by
  rcases Decidable.em (x < y) with h | h
  · exact Or.inl h
  · rcases Decidable.em (y < x) with h2 | h2
    · exact Or.inr (Or.inr h2)
    · exact Or.inr (Or.inl (List.le_antisymm (List.not_lt.1 h2) (List.not_lt.1 h)))
theorem insU_mem {x y : Bs} : ∀ {l : List Bs}, y ∈ insU x l ↔ y = x ∨ y ∈ l
  | [] => by simp [insU]
  | z :: r => by
    unfold insU
    split
    · rw [List.mem_cons, insU_mem (l := r), List.mem_cons]
      constructor
      · rintro (h | h | h)
        · exact Or.inr (Or.inl h)
        · exact Or.inl h
        · exact Or.inr (Or.inr h)
      · rintro (h | h | h)
        · exact Or.inr (Or.inl h)
        · exact Or.inl h
        · exact Or.inr (Or.inr h)
    · split
      · rename_i h; subst h; simp
      · simp
theorem insU_ss {x : Bs} : ∀ {l : List Bs}, SS l → SS (insU x l)
  | [], _ => by simp [insU, SS]
  | z :: r, h => by
    have h' := List.pairwise_cons.1 h
    unfold insU
    split
    · rename_i q
      refine List.pairwise_cons.2 ⟨fun y hy => ?_, insU_ss h'.2⟩
      rcases insU_mem.1 hy with rfl | hy
      · exact q
      · exact h'.1 y hy
    · split
      · exact h
      · rename_i q1 q2
        have hx : x < z := by
          rcases bs_tri x z with a | a | a
          · exact a
          · exact absurd a.symm q2
          · exact absurd a q1
        refine List.pairwise_cons.2 ⟨fun y hy => ?_, h⟩
        rcases List.mem_cons.1 hy with rfl | hy
        · exact hx
        · exact List.lt_trans hx (h'.1 y hy)
theorem insA_mem {y : Bs} : ∀ {l o : List Bs}, y ∈ insA o l ↔ y ∈ o ∨ y ∈ l
  | [], o => by simp [insA]
  | x :: r, o => by
    have := insA_mem (y := y) (l := r) (o := insU x o)
    unfold insA at this ⊢
    rw [List.foldl_cons, this, insU_mem, List.mem_cons]
    constructor
    · rintro ((h | h) | h)
      · exact Or.inr (Or.inl h)
      · exact Or.inl h
      · exact Or.inr (Or.inr h)
    · rintro (h | h | h)
      · exact Or.inl (Or.inr h)
      · exact Or.inl (Or.inl h)
      · exact Or.inr h
theorem insA_ss : ∀ {l o : List Bs}, SS o → SS (insA o l)
  | [], _, h => h
  | x :: r, o, h => by
    have := insA_ss (l := r) (insU_ss (x := x) h)
    unfold insA at this ⊢
    rw [List.foldl_cons]
    exact this
mutual
theorem refN_ss : ∀ t : Tree, SS (refN t)
  | .mk op _ s c => by
    rw [refN]
    refine refL_ss c _ ?_
    split
    · simp [SS]
    · simp [SS]
theorem refL_ss : ∀ (c : List Tree) (o : List Bs), SS o → SS (refL o c)
  | [], o, h => by rw [refL]; exact h
  | t :: r, o, h => by rw [refL]; exact refL_ss r _ (insA_ss h)
end
mutual
theorem refN_mem (y : Bs) : ∀ t : Tree, y ∈ refN t ↔ y ∈ namT t
  | .mk op _ s c => by rw [refN, namT, refL_mem y c, List.mem_append]
theorem refL_mem (y : Bs) : ∀ (c : List Tree) (o : List Bs), y ∈ refL o c ↔ y ∈ o ∨ y ∈ namL c
  | [], o => by simp [refL, namL]
  | t :: r, o => by rw [refL, refL_mem y r, insA_mem, refN_mem y t, namL, List.mem_append, or_assoc]
end
/-- Two rows in order with the same members are one. -/
theorem ss_ext : ∀ {l m : List Bs}, SS l → SS m → (∀ x, x ∈ l ↔ x ∈ m) → l = m
  | [], [], _, _, _ => rfl
  | [], b :: m, _, _, h => by have := (h b).2 (by simp); cases this
  | a :: l, [], _, _, h => by have := (h a).1 (by simp); cases this
  | a :: l, b :: m, hl, hm, h => by
    have hl' := List.pairwise_cons.1 hl
    have hm' := List.pairwise_cons.1 hm
    have e : a = b := by
      rcases List.mem_cons.1 ((h a).1 (by simp)) with e | ha
      · exact e
      · rcases List.mem_cons.1 ((h b).2 (by simp)) with e | hb
        · exact e.symm
        · exact absurd (List.lt_trans (hl'.1 b hb) (hm'.1 a ha)) (List.lt_irrefl a)
    subst e
    congr 1
    refine ss_ext hl'.2 hm'.2 fun x => ⟨fun hx => ?_, fun hx => ?_⟩
    · rcases List.mem_cons.1 ((h x).1 (by simp [hx])) with e | q
      · subst e; exact absurd (hl'.1 x hx) (List.lt_irrefl x)
      · exact q
    · rcases List.mem_cons.1 ((h x).2 (by simp [hx])) with e | q
      · subst e; exact absurd (hm'.1 x hx) (List.lt_irrefl x)
      · exact q
theorem keeps_eq (d : Array Bs) (j : Nat) : keeps d j = true ↔ j = 0 ∨ d[j]! ≠ d[j - 1]! := by unfold keeps; exact decide_eq_true_iff
theorem le_step {d : Array Bs} (h : ∀ i j, i < j → j < d.size → d[i]! ≤ d[j]!) {i j : Nat} (hij : i < j) (hj : j < d.size) (hk : keeps d j = true) : d[i]! < d[j]! := by
  rcases (keeps_eq d j).1 hk with e | e
  · omega
  · have h1 : d[i]! ≤ d[j - 1]! := by
      by_cases q : i = j - 1
      · rw [q]; exact List.le_refl _
      · exact h i (j - 1) (by omega) (by omega)
    have h2 : d[j - 1]! ≤ d[j]! := h (j - 1) j (by omega) hj
    have h3 : d[j - 1]! < d[j]! := by
      rcases bs_tri d[j - 1]! d[j]! with a | a | a
      · exact a
      · exact absurd a.symm e
      · exact absurd a (List.not_lt.2 h2)
    exact List.lt_of_le_of_lt h1 h3
theorem compact_ss {zs : List Bs} (h : zs.Pairwise (· ≤ ·)) : SS (compact zs) := by
  have hd : ∀ i j, i < j → j < zs.toArray.size → zs.toArray[i]! ≤ zs.toArray[j]! := fun i j hij hj => by
    have hj' : j < zs.length := by simpa using hj
    rw [getElem!_pos zs.toArray i (by simpa using Nat.lt_trans hij hj'), getElem!_pos zs.toArray j hj]
    exact List.pairwise_iff_getElem.1 h i j _ _ hij
  unfold compact compactUpTo SS
  rw [List.pairwise_map]
  refine List.Pairwise.imp_of_mem ?_ (List.Pairwise.filter _ (List.pairwise_lt_range (n := zs.length)))
  intro a b ha hb hab
  have hb' := List.mem_filter.1 hb
  exact le_step hd hab (by simpa using List.mem_range.1 hb'.1) hb'.2
theorem compact_mem {zs : List Bs} {x : Bs} : x ∈ compact zs ↔ x ∈ zs := by
  unfold compact compactUpTo
  rw [List.mem_map]
  constructor
  · rintro ⟨j, hj, rfl⟩
    have hj' := List.mem_range.1 (List.mem_filter.1 hj).1
    rw [getElem!_pos zs.toArray j (by simpa using hj')]
    simp
  · intro hx
    obtain ⟨i, hi, rfl⟩ := List.getElem_of_mem hx
    have key : ∀ i (hi : i < zs.length), ∃ j, j ∈ (List.range zs.length).filter (keeps zs.toArray) ∧ zs.toArray[j]! = zs[i] := by
      intro i
      induction i with
      | zero => intro hi; exact ⟨0, List.mem_filter.2 ⟨List.mem_range.2 hi, (keeps_eq _ _).2 (Or.inl rfl)⟩, by rw [getElem!_pos zs.toArray 0 (by simpa using hi)]; simp⟩
      | succ i ih =>
        intro hi
        by_cases q : keeps zs.toArray (i + 1) = true
        · exact ⟨i + 1, List.mem_filter.2 ⟨List.mem_range.2 hi, q⟩, by rw [getElem!_pos zs.toArray (i + 1) (by simpa using hi)]; simp⟩
        · obtain ⟨j, h1, h2⟩ := ih (by omega)
          refine ⟨j, h1, ?_⟩
          have e : zs.toArray[i + 1]! = zs.toArray[i]! := by
            rcases Decidable.em (zs.toArray[i + 1]! = zs.toArray[i]!) with e | e
            · exact e
            · exact absurd ((keeps_eq zs.toArray (i + 1)).2 (Or.inr e)) q
          rw [getElem!_pos zs.toArray (i + 1) (by simpa using hi), getElem!_pos zs.toArray i (by simpa using Nat.lt_of_succ_lt hi)] at e
          rw [h2]
          simpa using e.symm
    exact key i hi
theorem nmP_ref (t : Tree) : nmP t = refN t := by
  refine ss_ext (compact_ss ?_) (refN_ss t) fun x => ?_
  · have h := List.pairwise_mergeSort (le := fun x y : Bs => decide (x ≤ y)) (by intro a b c h1 h2; simp only [decide_eq_true_eq] at *; exact List.le_trans h1 h2) (by intro a b; simp only [Bool.or_eq_true, decide_eq_true_eq]; exact List.le_total a b) (namT t)
    exact h.imp (by intro a b h; simpa using h)
  · unfold nmP
    rw [compact_mem, List.mem_mergeSort, refN_mem]
def aloneB (op : Bs) : Bool := decide (op = wnum ∨ op = wtext ∨ op = wname ∨ op = wlen ∨ op = wabs ∨ op = whas)
def parS (op x : Bs) : Bs := if aloneB op = true then x else [40] ++ x ++ [41]
/-- The text of a node, of its parts' texts. -/
def prtO (N : Nat → Bs) (op : Bs) (n : Nat) (s : Bs) (l : List (Bs × Bs)) : Bs :=
  if takesT op ≠ some l.length then [48] else if op = wnum then N n else if op = wtext then [39] ++ s ++ [39] else if op = wname then s
  else match l with
  | [a] => if op = wnot then [110, 111, 116, 32] ++ a.2 else if op = wneg then [45] ++ a.2 else op ++ [40] ++ a.1 ++ [41]
  | [a, b] => if op = whas then [104, 97, 115, 40] ++ a.1 ++ [44, 32] ++ b.1 ++ [41] else a.2 ++ [32] ++ op ++ [32] ++ b.2
  | _ => []
mutual
def prtT (N : Nat → Bs) : Tree → Bs
  | .mk op n s c => prtO N op n s (prtL N c)
def prtL (N : Nat → Bs) : List Tree → List (Bs × Bs)
  | [] => []
  | t :: r => (prtT N t, parS t.op (prtT N t)) :: prtL N r
end
theorem prtL_len (N : Nat → Bs) : ∀ c : List Tree, (prtL N c).length = c.length
  | [] => rfl
  | t :: r => by rw [prtL, List.length_cons, prtL_len N r, List.length_cons]

mutual
def lenT : Tree → Nat
  | .mk _ _ s c => 24 + s.length + lenL c
def lenL : List Tree → Nat
  | [] => 0
  | t :: r => lenT t + 2 + lenL r
end
theorem takes_len {op : Bs} {k : Nat} (h : takesT op = some k) : op.length ≤ 4 := by
  unfold takesT at h
  split at h
  · rename_i q; rcases q with rfl | rfl | rfl <;> decide
  · split at h
    · rename_i q; rcases q with rfl | rfl | rfl | rfl <;> decide
    · split at h
      · rename_i q
        rcases q with rfl | rfl | rfl | q | rfl | rfl | rfl | rfl
        · decide
        · decide
        · decide
        · unfold isCmp at q
          rw [decide_eq_true_eq] at q
          rcases q with rfl | rfl | rfl | rfl | rfl | rfl <;> decide
        all_goals decide
      · cases h
theorem parS_len (op x : Bs) : (parS op x).length ≤ x.length + 2 := by
  unfold parS
  split
  · omega
  · simp only [List.length_append, List.length_cons, List.length_nil]; omega
mutual
theorem prt_len {N : Nat → Bs} (hN : ∀ n, (N n).length ≤ 20) : ∀ t : Tree, (prtT N t).length ≤ lenT t
  | .mk op n s c => by
    have hl := prtL_le hN c
    have hlen := prtL_len N c
    rw [prtT, lenT]
    unfold prtO
    split
    · simp; omega
    · rename_i q
      have q := Decidable.not_not.1 q
      have ho := takes_len q
      split
      · have := hN n; omega
      · split
        · simp only [List.length_append, List.length_cons, List.length_nil]; omega
        · split
          · omega
          · split
            · rename_i a e
              rw [e] at hl
              have h1 := hl.1
              have h2 := hl.2
              simp only [List.map_cons, List.map_nil, List.sum_cons, List.sum_nil] at h1 h2
              split
              · simp only [List.length_append, List.length_cons, List.length_nil]; omega
              · split
                · simp only [List.length_append, List.length_cons, List.length_nil]; omega
                · simp only [List.length_append, List.length_cons, List.length_nil]; omega
            · rename_i a b e
              rw [e] at hl
              have h1 := hl.1
              have h2 := hl.2
              simp only [List.map_cons, List.map_nil, List.sum_cons, List.sum_nil] at h1 h2
              split
              · simp only [List.length_append, List.length_cons, List.length_nil]; omega
              · simp only [List.length_append, List.length_cons, List.length_nil]; omega
            · simp
theorem prtL_le {N : Nat → Bs} (hN : ∀ n, (N n).length ≤ 20) : ∀ c : List Tree, ((prtL N c).map (fun x => x.1.length)).sum ≤ lenL c ∧ ((prtL N c).map (fun x => x.2.length)).sum ≤ lenL c
  | [] => ⟨Nat.le_refl _, Nat.le_refl _⟩
  | t :: r => by
    have h1 := prt_len hN t
    have h2 := prtL_le hN r
    have h3 := parS_len t.op (prtT N t)
    rw [prtL, lenL]
    simp only [List.map_cons, List.sum_cons]
    omega
end
end Go.Proofs.YtfalcmbjjlgoaaaGreatDoor
