/- Keys as plain data: which may be, and their names; the walks of sign, Check, twelve, digits, words. -/
import Derived.Test.YthkcfdnenbboaaaProg
import Derived.Test.YthkcfdnenbboaaaB1
namespace Go.Proofs.Ythkcfdnenbboaaa
open Go.RowKit Go.Shelf
def signB (s : ByteArray) : Bool := match s.data.toList with
  | [c] => ((decide ((97 : Int) ≤ (c.toNat : Int)) && decide ((c.toNat : Int) ≤ 122)) || decide ((c.toNat : Int) = 64)) || (decide ((91 : Int) ≤ (c.toNat : Int)) && decide ((c.toNat : Int) ≤ 95))
  | _ => false
theorem one_byte {s : ByteArray} (h : s.size = 1) : ∃ c, s = ⟨#[c]⟩ := by
  obtain ⟨⟨l⟩⟩ := s
  match l, h with
  | [c], _ => exact ⟨c, rfl⟩
theorem signB_not {s : ByteArray} (h : s.size ≠ 1) : signB s = false := by
  obtain ⟨⟨l⟩⟩ := s
  match l, h with
  | [], _ => rfl
  | [c], h => exact absurd rfl h
  | _ :: _ :: _, _ => rfl
theorem ret_bool {a b : Bool} (h : a = b) : Ending.returned (.bool a) = .returned (.bool b) := by rw [h]
set_option maxHeartbeats 400000 in
theorem wsign (s : ByteArray) (hs : s.size ≤ 140737488355328) (w : World) : Calls Try.prog 41 #[.string s] w fun e w' => e = .returned (.bool (signB s)) ∧ w = w' := by
  by_cases h : s.size = 1
  · obtain ⟨c, rfl⟩ := one_byte h
    have hc := c.toNat_lt
    generalize hS : signB ⟨#[c]⟩ = S
    simp only [signB] at hS
    clear h
    go_enter Try.func41, Try.ntmps41
    go_wp2
    all_goals (
      go_ret
      refine ⟨?_, rfl⟩
      have e : ∀ h, ((⟨#[c]⟩ : ByteArray)[0]'h) = c := fun _ => rfl
      simp only [e] at *
      subst hS
      refine ret_bool ?_
      rw [Bool.eq_iff_iff]
      simp
      omega)
  · rw [signB_not h]
    go_enter Try.func41, Try.ntmps41
    go_wp2
    all_goals (go_ret; first | exact ⟨rfl, rfl⟩ | (exfalso; omega))
end Go.Proofs.Ythkcfdnenbboaaa
