/- Plain words: lines, and the theme of a text. No walk. -/
import Derived.Test.YtlhfdpeidlbomaaDoorTC
namespace Go.Proofs.YtlhfdpeidlbomaaDoor
/-- Cut at the first byte of that kind. -/
def cut1 (c : UInt8) : Bs → Option (Bs × Bs)
  | [] => none
  | x :: l => if x = c then some ([], l) else (cut1 c l).map fun p => (x :: p.1, p.2)
theorem cut1_none {c : UInt8} {s : Bs} (h : cut1 c s = none) : c ∉ s := by
  induction s with
  | nil => simp
  | cons x l ih =>
    unfold cut1 at h
    split at h
    · cases h
    · rename_i hx
      simp only [Option.map_eq_none_iff] at h
      intro hm
      rcases List.mem_cons.1 hm with e | e
      · exact hx e.symm
      · exact ih h e
theorem cut1_some {c : UInt8} {s a b : Bs} (h : cut1 c s = some (a, b)) : s = a ++ c :: b ∧ c ∉ a := by
  induction s generalizing a with
  | nil => cases h
  | cons x l ih =>
    unfold cut1 at h
    split at h
    · rename_i hx
      cases h
      exact ⟨by rw [hx]; rfl, by simp⟩
    · rename_i hx
      obtain ⟨⟨p, q⟩, hp, e⟩ := Option.map_eq_some_iff.1 h
      cases e
      obtain ⟨h1, h2⟩ := ih hp
      refine ⟨by rw [h1]; rfl, fun hm => ?_⟩
      rcases List.mem_cons.1 hm with e | e
      · exact hx e.symm
      · exact h2 e
theorem cut1_app (c : UInt8) (a b : Bs) (h : c ∉ a) : cut1 c (a ++ c :: b) = some (a, b) := by
  induction a with
  | nil => simp [cut1]
  | cons x l ih =>
    have hx : x ≠ c := fun e => h (by simp [e])
    rw [List.cons_append, cut1, if_neg hx, ih (fun m => h (by simp [m]))]
    rfl
theorem cut1_not (c : UInt8) (a : Bs) (h : c ∉ a) : cut1 c a = none := by
  cases hc : cut1 c a with
  | none => rfl
  | some p => obtain ⟨h1, _⟩ := cut1_some (a := p.1) (b := p.2) hc; rw [h1] at h; simp at h
theorem occ_c (s : Bs) (c : UInt8) (i : Nat) : Lib.occAt s [c] i = true ↔ s[i]? = some c := by
  unfold Lib.occAt
  rw [← List.head?_drop]
  cases hd : s.drop i with
  | nil => simp
  | cons x t =>
    simp only [List.isPrefixOf, List.head?_cons, Bool.and_true, beq_iff_eq, Option.some.injEq]
    exact eq_comm
/-- strings.Cut at one byte. -/
theorem lib_cut (c : UInt8) (s : Bs) : Lib.cut s [c] = match cut1 c s with
  | some p => (p.1, p.2, true)
  | none => (s, [], false) := by
  unfold Lib.cut
  cases h : cut1 c s with
  | none =>
    have hn := cut1_none h
    rcases Lib.index_spec s [c] with ⟨h1, _⟩ | ⟨i, h1, h2, h3, _⟩
    · rw [if_neg (by omega)]
    · exact absurd (List.mem_of_getElem? ((occ_c s c i).1 h3)) hn
  | some p =>
    obtain ⟨a, b⟩ := p
    obtain ⟨hs, hn⟩ := cut1_some h
    have hi : Lib.index s [c] = (a.length : Nat) := Lib.index_first (by rw [hs]; simp) ((occ_c s c _).2 (by rw [hs]; simp)) (fun j hj => by
      cases ho : Lib.occAt s [c] j with
      | false => rfl
      | true =>
        have := (occ_c s c j).1 ho
        rw [hs, List.getElem?_append_left hj] at this
        exact absurd (List.mem_of_getElem? this) hn)
    rw [hi, if_pos (by omega), Int.toNat_natCast, hs]
    simp
/-- The lines of a text: what newlines part. -/
def nl : Bs → List Bs
  | [] => [[]]
  | c :: l => if c = 10 then [] :: nl l else match nl l with
    | [] => [[c]]
    | h :: t => (c :: h) :: t
theorem nl_ne (l : Bs) : nl l ≠ [] := by
  induction l with
  | nil => simp [nl]
  | cons c l ih =>
    unfold nl
    split
    · simp
    · split <;> simp
theorem nl_one (a : Bs) (h : (10 : UInt8) ∉ a) : nl a = [a] := by
  induction a with
  | nil => rfl
  | cons c l ih =>
    have hc : c ≠ 10 := fun e => h (by simp [e])
    rw [nl, if_neg hc, ih (fun m => h (by simp [m]))]
theorem nl_app (a r : Bs) (h : (10 : UInt8) ∉ a) : nl (a ++ 10 :: r) = a :: nl r := by
  induction a with
  | nil => simp [nl]
  | cons c l ih =>
    have hc : c ≠ 10 := fun e => h (by simp [e])
    rw [List.cons_append, nl, if_neg hc, ih (fun m => h (by simp [m]))]
/-! ### a line -/
def lnPart (l : Bs) : Bs := match cut1 32 l with
  | some p => p.1
  | none => l
def lnWords (l : Bs) : Bs := match cut1 32 l with
  | some p => p.2
  | none => []
def lnK (l : Bs) : Nat := (plI (lnPart l)).toNat
def lnB (l : Bs) : Bool := plB (lnPart l) && okS (lnWords l)
def lnY (l : Bs) : Sty := styS (lnWords l)
theorem lnK_lt (l : Bs) : lnK l < 10 := by have := pl_in (lnPart l); unfold lnK; omega
/-- The theme of lines, from a line's number on: the styles, or the first line that is wrong. -/
def runL : List Bs → Nat → List Sty → List Bool → Option (List Sty) × Nat
  | [], _, ys, _ => (some ys, 0)
  | [l], n, ys, _ => if l = [] then (some ys, 0) else (none, n)
  | l :: l2 :: ls, n, ys, nm => if lnB l = true ∧ nm.getD (lnK l) false = false then runL (l2 :: ls) (n + 1) (ys.set (lnK l) (lnY l)) (nm.set (lnK l) true) else (none, n)
theorem runL_cons (l : Bs) (ls : List Bs) (hl : ls ≠ []) (n : Nat) (ys : List Sty) (nm : List Bool) :
    runL (l :: ls) n ys nm = if lnB l = true ∧ nm.getD (lnK l) false = false then runL ls (n + 1) (ys.set (lnK l) (lnY l)) (nm.set (lnK l) true) else (none, n) := by
  cases ls with
  | nil => exact absurd rfl hl
  | cons a t => rfl
theorem runL_ok : ∀ (ls : List Bs) (n : Nat) (ys : List Sty) (nm : List Bool) (zs : List Sty) (m : Nat), runL ls n ys nm = (some zs, m) → m = 0 ∧ (zs.length = ys.length) ∧ ((∀ y ∈ ys, y.may) → ∀ z ∈ zs, z.may)
  | [], n, ys, nm, zs, m, h => by cases h; exact ⟨rfl, rfl, fun h => h⟩
  | [l], n, ys, nm, zs, m, h => by
    unfold runL at h
    split at h
    · cases h; exact ⟨rfl, rfl, fun h => h⟩
    · cases h
  | l :: l2 :: ls, n, ys, nm, zs, m, h => by
    rw [runL_cons _ _ (by simp)] at h
    split at h
    · obtain ⟨h1, h2, h3⟩ := runL_ok (l2 :: ls) _ _ _ _ _ h
      refine ⟨h1, by rw [h2, List.length_set], fun hy => h3 (fun y hm => ?_)⟩
      rcases List.mem_or_eq_of_mem_set hm with q | q
      · exact hy y q
      · rw [q]; exact styS_may _
    · cases h
def falses : List Bool := List.replicate 10 false
def parseT (s : Bs) : Option (List Sty) × Nat := runL (nl s) 1 usualL falses
theorem okS_nil : okS [] = false := by decide
end Go.Proofs.YtlhfdpeidlbomaaDoor
