/- The word of an act, and of a code. -/
import Derived.Test.YthkcfdnenbboaaaK4
namespace Go.Proofs.Ythkcfdnenbboaaa
open Go.RowKit Go.Shelf
/-- The place-th text of a row, from 1 on; nothing else has one. -/
def nthS (l : List ByteArray) (a : Int) : ByteArray := if 1 ≤ a ∧ a ≤ l.length then l.getD (a - 1).toNat ⟨#[]⟩ else ⟨#[]⟩
theorem nthS_in {l : List ByteArray} {k : Nat} (h : k < l.length) : l[k]? = some (nthS l ((k : Int) + 1)) := by
  have e : ((k : Int) + 1 - 1).toNat = k := by omega
  rw [nthS, if_pos ⟨by omega, by omega⟩, e, List.getD_eq_getElem?_getD, List.getElem?_eq_getElem h]
  rfl
theorem nthS_out {l : List ByteArray} {a : Int} (h : a < 1 ∨ (l.length : Int) < a) : nthS l a = ⟨#[]⟩ := by
  rw [nthS, if_neg (by omega)]
def wordOf (a : Int) : ByteArray := nthS wordsL a
def codeOf (a : Int) : ByteArray := nthS codesL a
theorem Made.cells {w w' : World} {e : Ending} {l : List ByteArray} (h : Made w w' e l) : ∀ i, i < l.length → w'.cell? ⟨w.heap.size, i, none⟩ = some (.string (nthS l ((i : Int) + 1))) := fun i hi => by
  rw [h.cell, nthS_in hi]; rfl
set_option maxHeartbeats 400000 in
theorem wword (a : Int) (ha : -9223372036854775808 ≤ a ∧ a ≤ 9223372036854775807) (w : World) : Calls Try.prog 23 #[.int .i64 a] w fun e w' => e = .returned (.string (wordOf a)) ∧ Below w.heap.size w w' := by
  by_cases h : 1 ≤ a ∧ a ≤ 19
  · obtain ⟨k, rfl⟩ : ∃ k : Nat, a = (k : Int) + 1 := ⟨(a - 1).toNat, by omega⟩
    have hk : k < 19 := by omega
    go_enter Try.func23, Try.ntmps23
    go_wp2_with (go_at_call 53; refine (wwords _).mono ?_)
    rintro e w1 hm
    have hb := hm.below
    have hc := hm.cells k hk
    have hr : (k : Int) + 1 - 1 = k := by omega
    have he := hm.1
    clear hm
    subst he
    have hl : wordsL.length = 19 := rfl
    rw [hl]
    go_wp2
    go_ret
    exact ⟨rfl, hb⟩
  · have e0 : wordOf a = ⟨#[]⟩ := nthS_out (by have : wordsL.length = 19 := rfl; omega)
    rw [e0]
    go_enter Try.func23, Try.ntmps23
    go_wp2_with (go_at_call 53; refine (wwords _).mono ?_)
    rintro e w1 hm
    have hb := hm.below
    have he := hm.1
    clear hm
    subst he
    have hl : wordsL.length = 19 := rfl
    rw [hl]
    go_wp2
    all_goals (go_ret; first | exact ⟨rfl, hb⟩ | (exfalso; omega))
set_option maxHeartbeats 400000 in
theorem wwordR (a : Int) (ha : -9223372036854775808 ≤ a ∧ a ≤ 9223372036854775807) (w : World) : Calls Try.prog 24 #[.int .i64 a] w fun e w' => e = .returned (.string (wordOf a)) ∧ Below w.heap.size w w' := by
  by_cases h : 1 ≤ a ∧ a ≤ 19
  · obtain ⟨k, rfl⟩ : ∃ k : Nat, a = (k : Int) + 1 := ⟨(a - 1).toNat, by omega⟩
    have hk : k < 19 := by omega
    go_enter Try.func24, Try.ntmps24
    go_wp2_with (go_at_call 54; refine (wwordsR _).mono ?_)
    rintro e w1 hm
    have hb := hm.below
    have hc := hm.cells k hk
    have hr : (k : Int) + 1 - 1 = k := by omega
    have he := hm.1
    clear hm
    subst he
    have hl : wordsL.length = 19 := rfl
    rw [hl]
    go_wp2
    go_ret
    exact ⟨rfl, hb⟩
  · have e0 : wordOf a = ⟨#[]⟩ := nthS_out (by have : wordsL.length = 19 := rfl; omega)
    rw [e0]
    go_enter Try.func24, Try.ntmps24
    go_wp2_with (go_at_call 54; refine (wwordsR _).mono ?_)
    rintro e w1 hm
    have hb := hm.below
    have he := hm.1
    clear hm
    subst he
    have hl : wordsL.length = 19 := rfl
    rw [hl]
    go_wp2
    all_goals (go_ret; first | exact ⟨rfl, hb⟩ | (exfalso; omega))
theorem c18 {c : Int} (h : 1 ≤ c ∧ c ≤ 18) : c = 1 ∨ c = 2 ∨ c = 3 ∨ c = 4 ∨ c = 5 ∨ c = 6 ∨ c = 7 ∨ c = 8 ∨ c = 9 ∨ c = 10 ∨ c = 11 ∨ c = 12 ∨ c = 13 ∨ c = 14 ∨ c = 15 ∨ c = 16 ∨ c = 17 ∨ c = 18 := by omega
set_option maxRecDepth 100000 in
set_option maxHeartbeats 4000000 in
theorem wcodeR (c : Int) (hc : 1 ≤ c ∧ c ≤ 18) (w : World) : Calls Try.prog 47 #[.int .i64 c] w fun e w' => e = .returned (.string (codeOf c)) ∧ Below w.heap.size w w' := by
  rcases c18 hc with h | h | h | h | h | h | h | h | h | h | h | h | h | h | h | h | h | h <;> subst h <;> clear hc
  all_goals (
    go_enter Try.func47, Try.ntmps47
    go_wp2
    go_ret
    exact ⟨rfl, (Below.refl _ _).alloc (Nat.le_refl _) _⟩)
end Go.Proofs.Ythkcfdnenbboaaa
