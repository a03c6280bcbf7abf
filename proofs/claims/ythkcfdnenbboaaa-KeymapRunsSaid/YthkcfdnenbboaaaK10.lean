/- The key of a name, in plain terms: what the program's Key finds, and what the reference's Key finds, are the same; no program in sight. -/
import Derived.Test.YthkcfdnenbboaaaK9
namespace Go.Proofs.Ythkcfdnenbboaaa
open Go.RowKit Go.Shelf
abbrev pAlt : List UInt8 := [97, 108, 116, 45]
abbrev pCtl : List UInt8 := [99, 116, 108, 45]
abbrev pShift : List UInt8 := [115, 104, 105, 102, 116, 45]
abbrev pText : List UInt8 := [116, 101, 120, 116, 46]
abbrev pCtrl : List UInt8 := [99, 116, 114, 108, 45]
def fnL (n : Nat) : List UInt8 := 102 :: (numS n).data.toList
def codeN (s : List UInt8) : Int × Int := match (List.range 12).find? (fun i : Nat => s == fnL (i + 1)) with
  | some i => (18, (i : Int) + 1)
  | none => (Lib.idxOfS codesL (mkS s) + 1, 0)
theorem codeN_hit {s : List UInt8} {n : Nat} (hn : 1 ≤ n ∧ n ≤ 12) (hs : s = fnL n) (h : ∀ i, 1 ≤ i → i < n → s ≠ fnL i) : codeN s = (18, (n : Int)) := by
  have e : (List.range 12).find? (fun i : Nat => s == fnL (i + 1)) = some (n - 1) := by
    rw [List.find?_range_eq_some]
    refine ⟨?_, by simp; omega, fun j hj => ?_⟩
    · simp [show n - 1 + 1 = n by omega, hs]
    · simpa using h (j + 1) (by omega) (by omega)
  simp only [codeN, e]
  congr 1; omega
theorem codeN_miss {s : List UInt8} (h : ∀ i, 1 ≤ i → i ≤ 12 → s ≠ fnL i) : codeN s = (Lib.idxOfS codesL (mkS s) + 1, 0) := by
  have e : (List.range 12).find? (fun i : Nat => s == fnL (i + 1)) = none := by
    rw [List.find?_range_eq_none]
    intro i hi
    simpa using h (i + 1) (by omega) (by omega)
  simp only [codeN, e]
/-- What the program takes a name to be, behind its modifiers. -/
def candP (al ct sh : Bool) (s : List UInt8) : Ky :=
  if Lib.hasPrefix s pText && al then ⟨1, mkS (Lib.trimPrefix s pText), 0, al, sh, ct⟩
  else if Lib.hasPrefix s pCtrl then ⟨17, mkS (Lib.trimPrefix s pCtrl), 0, al, sh, ct⟩
  else ⟨(codeN s).1, ⟨#[]⟩, (codeN s).2, al, sh, ct⟩
/-- The number of a function key's digits; 0 for other texts. -/
def numOf (t : List UInt8) : Int := match (List.range 12).find? (fun i : Nat => t == (numS ((i : Int) + 1)).data.toList) with
  | some i => (i : Int) + 1
  | none => 0
/-- What the reference takes a name to be, behind its modifiers, at a code. -/
def candR (c : Int) (al ct sh : Bool) (s : List UInt8) : Option Ky :=
  if Lib.hasPrefix s (codeOf c).data.toList then
    let t := s.drop (codeOf c).size
    if c = 1 ∧ al = true then (if Lib.hasPrefix t [46] then some ⟨c, mkS (t.drop 1), 0, al, sh, ct⟩ else none)
    else if c = 17 then some ⟨c, mkS t, 0, al, sh, ct⟩
    else if c = 18 then some ⟨c, ⟨#[]⟩, numOf t, al, sh, ct⟩
    else if t = [] then some ⟨c, ⟨#[]⟩, 0, al, sh, ct⟩ else none
  else none
theorem pre_iff {s p : List UInt8} : Lib.hasPrefix s p = true ↔ ∃ t, s = p ++ t := by
  rw [Lib.hasPrefix, List.isPrefixOf_iff_prefix]
  exact ⟨fun ⟨t, h⟩ => ⟨t, h.symm⟩, fun ⟨t, h⟩ => ⟨t, h.symm⟩⟩
theorem pre_app (p t : List UInt8) : Lib.hasPrefix (p ++ t) p = true := pre_iff.2 ⟨t, rfl⟩
theorem trim_app (p t : List UInt8) : Lib.trimPrefix (p ++ t) p = t := by simp [Lib.trimPrefix, pre_app]
theorem codeOf_len (c : Int) : (codeOf c).size = (codeOf c).data.toList.length := rfl
theorem drop_code (c : Int) (t : List UInt8) : ((codeOf c).data.toList ++ t).drop (codeOf c).size = t := by rw [codeOf_len]; simp
theorem numOf_is {t : List UInt8} (h : 1 ≤ numOf t) : ∃ n : Nat, 1 ≤ n ∧ n ≤ 12 ∧ numOf t = n ∧ t = (numS n).data.toList := by
  cases hf : (List.range 12).find? (fun i : Nat => t == (numS ((i : Int) + 1)).data.toList) with
  | none => simp [numOf, hf] at h
  | some i =>
    have e : numOf t = (i : Int) + 1 := by simp [numOf, hf]
    rw [List.find?_range_eq_some] at hf
    obtain ⟨h1, h2, _⟩ := hf
    exact ⟨i + 1, by omega, by simp at h2; omega, by rw [e]; simp, by simpa using h1⟩
theorem n12 {n : Nat} (h : 1 ≤ n ∧ n ≤ 12) : n = 1 ∨ n = 2 ∨ n = 3 ∨ n = 4 ∨ n = 5 ∨ n = 6 ∨ n = 7 ∨ n = 8 ∨ n = 9 ∨ n = 10 ∨ n = 11 ∨ n = 12 := by omega
theorem numOf_num {n : Nat} (h : 1 ≤ n ∧ n ≤ 12) : numOf (numS n).data.toList = n := by
  rcases n12 h with h | h | h | h | h | h | h | h | h | h | h | h <;> subst h <;> decide
theorem ok_num {k : Ky} (h : k.ok = true) : (k.code = 18 → 1 ≤ k.n ∧ k.n ≤ 12) ∧ (k.code ≠ 18 → k.n = 0) ∧ 1 ≤ k.code ∧ k.code ≤ 18 ∧ okS k.code k.s = true := by
  simp only [Ky.ok, okN, Bool.and_eq_true, decide_eq_true_eq] at h
  obtain ⟨⟨h1, h2⟩, h3, h4⟩ := h
  refine ⟨fun e => by simpa [e] using h4, fun e => by simpa [e] using h4, h1, h2, h3⟩
/-- Where the reference finds a key at a code, the program takes the name for the same key. -/
theorem cand_same {c : Int} {al ct sh : Bool} {s : List UInt8} {k : Ky} (hc : 1 ≤ c ∧ c ≤ 18) (h : candR c al ct sh s = some k) (hk : k.ok = true) : candP al ct sh s = k ∧ k.code = c ∧ k.alt = al ∧ k.ctl = ct ∧ k.shift = sh ∧ s = (codeOf k.code).data.toList ++ tailL k := by
  unfold candR at h
  split at h
  case isFalse => simp at h
  rename_i hp
  obtain ⟨t, rfl⟩ := pre_iff.1 hp
  rw [drop_code] at h
  simp only [] at h
  split at h
  · rename_i h1
    obtain ⟨rfl, rfl⟩ := h1
    split at h
    case isFalse => simp at h
    rename_i h2
    obtain ⟨u, rfl⟩ := pre_iff.1 h2
    simp at h
    subst h
    refine ⟨?_, rfl, rfl, rfl, rfl, ?_⟩
    · have e : (codeOf 1).data.toList ++ ([46] ++ u) = pText ++ u := rfl
      rw [candP, e, pre_app, trim_app]; rfl
    · simp [tailL, mkS]
  · rename_i h1
    split at h
    · rename_i h2
      subst h2
      simp at h
      subst h
      refine ⟨?_, rfl, rfl, rfl, rfl, ?_⟩
      · have e : (codeOf 17).data.toList ++ t = pCtrl ++ t := rfl
        rw [candP, e, pre_app, trim_app]
        have e2 : Lib.hasPrefix (pCtrl ++ t) pText = false := rfl
        rw [e2]; rfl
      · simp [tailL, mkS]
    · rename_i h2
      split at h
      · rename_i h3
        subst h3
        simp at h
        have hn := (ok_num hk).1 (by rw [← h])
        have hn1 : k.n = numOf t := by rw [← h]
        rw [hn1] at hn
        obtain ⟨n, a, b, e, rfl⟩ := numOf_is hn.1
        rw [e] at h
        subst h
        refine ⟨?_, rfl, rfl, rfl, rfl, ?_⟩
        · rcases n12 ⟨a, b⟩ with q | q | q | q | q | q | q | q | q | q | q | q <;> subst q <;> cases al <;> cases ct <;> cases sh <;> rfl
        · simp [tailL]
      · rename_i h3
        split at h
        · rename_i h4
          subst h4
          simp at h
          subst h
          refine ⟨?_, rfl, rfl, rfl, rfl, ?_⟩
          · rcases c18 hc with q | q | q | q | q | q | q | q | q | q | q | q | q | q | q | q | q | q <;> subst q
            any_goals (exact absurd rfl h2)
            any_goals (exact absurd rfl h3)
            all_goals (cases al <;> cases ct <;> cases sh <;> first | rfl | (exact absurd ⟨rfl, rfl⟩ h1))
          · simp [tailL, h2, h3]
            intro hc1
            cases al
            · rfl
            · exact absurd ⟨hc1, rfl⟩ h1
        · simp at h
/-- What the program takes a name for, the reference finds. -/
theorem cand_found {al ct sh : Bool} {s : List UInt8} {k : Ky} (h : candP al ct sh s = k) (hk : k.ok = true) (hs : (codeOf k.code).data.toList ++ tailL k = s) : candR k.code al ct sh s = some k := by
  obtain ⟨n1, n2, c1, c2, ks⟩ := ok_num hk
  have hm : k.alt = al ∧ k.shift = sh ∧ k.ctl = ct := by
    rw [← h]; unfold candP; split
    · exact ⟨rfl, rfl, rfl⟩
    · split <;> exact ⟨rfl, rfl, rfl⟩
  have hS : k.code ≠ 17 → ¬ (k.code = 1 ∧ al = true) → k.s = ⟨#[]⟩ := by
    intro a b
    rw [← h] at a b ⊢
    unfold candP at a b ⊢
    split at a
    · rename_i q
      simp at q
      rw [if_pos (by simp [q])] at b
      exact absurd ⟨rfl, q.2⟩ b
    · rename_i q
      split at a
      · exact absurd rfl a
      · rename_i q2
        rw [if_neg q, if_neg q2]
  subst hs
  obtain ⟨c, S, n, al', sh', ct'⟩ := k
  obtain ⟨rfl, rfl, rfl⟩ := hm
  simp only [] at *
  unfold candR
  rw [if_pos (pre_app _ _), drop_code]
  simp only []
  by_cases h1 : c = 1 ∧ al' = true
  · obtain ⟨rfl, rfl⟩ := h1
    have e0 : n = 0 := n2 (by decide)
    subst e0
    simp [tailL, mkS, Lib.hasPrefix]
  · rw [if_neg h1]
    by_cases h2 : c = 17
    · subst h2
      have e0 : n = 0 := n2 (by decide)
      subst e0
      simp [tailL, mkS]
    · rw [if_neg h2]
      have hS := hS h2 h1
      subst hS
      by_cases h3 : c = 18
      · subst h3
        obtain ⟨a, b⟩ := n1 rfl
        obtain ⟨m, rfl⟩ : ∃ m : Nat, n = m := ⟨n.toNat, by omega⟩
        simp [tailL, numOf_num (n := m) (by omega)]
      · have e0 : n = 0 := n2 h3
        subst e0
        have e1 : tailL ⟨c, ⟨#[]⟩, 0, al', sh', ct'⟩ = [] := by
          simp only [tailL, h2, h3, if_false]
          by_cases q : c = 1
          · cases al'
            · simp
            · exact absurd ⟨q, rfl⟩ h1
          · simp [q]
        rw [e1, if_neg h3]
        simp
/-- A name's modifiers, and what is behind them. -/
structure Mods where
  al : Bool
  ct : Bool
  sh : Bool
  s : List UInt8
def mods (n : List UInt8) : Mods :=
  let s1 := Lib.trimPrefix n pAlt
  let s2 := Lib.trimPrefix s1 pCtl
  ⟨Lib.hasPrefix n pAlt, Lib.hasPrefix s1 pCtl, Lib.hasPrefix s2 pShift, Lib.trimPrefix s2 pShift⟩
theorem trim_back (n p : List UInt8) : n = (if Lib.hasPrefix n p then p else []) ++ Lib.trimPrefix n p := by
  cases h : Lib.hasPrefix n p with
  | true =>
    obtain ⟨t, rfl⟩ := pre_iff.1 h
    simp [trim_app]
  | false => simp [Lib.trimPrefix, h]
theorem mods_back (n : List UInt8) : n = preL (mods n).al (mods n).ct (mods n).sh ++ (mods n).s := by
  have h1 := trim_back n pAlt
  have h2 := trim_back (Lib.trimPrefix n pAlt) pCtl
  have h3 := trim_back (Lib.trimPrefix (Lib.trimPrefix n pAlt) pCtl) pShift
  unfold mods preL
  simp only []
  refine h1.trans ?_
  rw [List.append_assoc]
  congr 1
  rw [List.append_assoc, ← h3]
  exact h2
def cand (n : List UInt8) : Ky := candP (mods n).al (mods n).ct (mods n).sh (mods n).s
/-- The key of a name, if it has one. -/
def parse (n : List UInt8) : Option Ky := if (cand n).name = n ∧ n ≠ [] then some (cand n) else none
/-- What the reference finds: a code at which there is a key. -/
def Finds (n : List UInt8) (c : Int) (k : Ky) : Prop := candR c (mods n).al (mods n).ct (mods n).sh (mods n).s = some k ∧ k.ok = true
theorem parse_found {n : List UInt8} {c : Int} {k : Ky} (hc : 1 ≤ c ∧ c ≤ 18) (h : Finds n c k) : parse n = some k := by
  obtain ⟨h1, h2, h3, h4, h5, h6⟩ := cand_same hc h.1 h.2
  have e : cand n = k := h1
  have en : k.name = n := by
    rw [Ky.name, h.2, h3, h4, h5, if_pos rfl, ← h6]; exact (mods_back n).symm
  have hne : n ≠ [] := by
    intro q
    rw [← en, Ky.name, h.2, if_pos rfl, h2] at q
    have q2 := List.append_eq_nil_iff.1 (List.append_eq_nil_iff.1 q).2
    rcases c18 hc with z | z | z | z | z | z | z | z | z | z | z | z | z | z | z | z | z | z <;> subst z <;> exact absurd q2.1 (by decide)
  rw [parse, e, if_pos ⟨en, hne⟩]
theorem name_ok {k : Ky} (h : k.name ≠ []) : k.ok = true := by
  cases q : k.ok with
  | true => rfl
  | false => exact absurd (by rw [Ky.name, q]; rfl) h
theorem parse_missed {n : List UInt8} (h : ∀ c k, 1 ≤ c → c ≤ 18 → ¬ Finds n c k) : parse n = none := by
  unfold parse
  split
  · rename_i q
    obtain ⟨q1, q2⟩ := q
    have hok : (cand n).ok = true := name_ok (by rw [q1]; exact q2)
    have hm : (cand n).alt = (mods n).al ∧ (cand n).ctl = (mods n).ct ∧ (cand n).shift = (mods n).sh := by
      unfold cand candP; split
      · exact ⟨rfl, rfl, rfl⟩
      · split <;> exact ⟨rfl, rfl, rfl⟩
    have hs : (codeOf (cand n).code).data.toList ++ tailL (cand n) = (mods n).s := by
      rw [Ky.name, hok, if_pos rfl, hm.1, hm.2.1, hm.2.2] at q1
      exact List.append_cancel_left (q1.trans (mods_back n))
    obtain ⟨_, _, c1, c2, _⟩ := ok_num hok
    exact absurd ⟨cand_found rfl hok hs, hok⟩ (h _ _ c1 c2)
  · rfl
end Go.Proofs.Ythkcfdnenbboaaa
