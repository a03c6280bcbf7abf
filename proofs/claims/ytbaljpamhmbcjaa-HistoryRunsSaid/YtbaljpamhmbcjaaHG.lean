/- Walks: All of a history; its iterator over an unmade one. -/
import Derived.Test.YtbaljpamhmbcjaaHF
namespace Go.Proofs.Ytbaljpamhmbcjaa
open Go.RowKit Go.Shelf
attribute [local go_sem] Oper.semAt_some
theorem wHAll (p : Option Addr) (w : World) : Calls Try.prog 30 #[.pointer p] w fun e w' => e = .returned (.func (.func 44) #[] #[.pointer (some ⟨w.heap.size, 0, none⟩)]) ∧ w' = w.alloc (.cells #[.pointer p] 23) := by
  go_enter Try.func30, Try.ntmps30
  go_wp2
  go_ret
  exact ⟨rfl, rfl⟩
theorem Unmade.kept {p : Option Addr} {w w' : World} (h : Unmade p w) (hb : Below w.heap.size w w') : Unmade p w' := by
  rcases h with rfl | ⟨b, m, rfl, hc, hm, hl⟩
  · exact .inl rfl
  · exact .inr ⟨b, m, rfl, (hb.cell (p := ⟨b, 0, none⟩) hl).trans hc, hm, Nat.lt_of_lt_of_le hl hb.size⟩
set_option maxHeartbeats 1000000 in
theorem un_in (l B : Nat) (p : Option Addr) (W : World) (hB : W.cell? ⟨B, 0, none⟩ = some (.pointer p)) (h : Unmade p W) (J Jx : List (Nat × Bs) → World → Prop) (hJ0 : J [] W) :
    CallsIn Fence.wide 5 Try.prog 44 #[.func (.yield l) #[] #[], .pointer (some ⟨B, 0, none⟩)] W fun e W' => (∃ v, e = .returned v) ∧ ((∃ xs, xs = [] ∧ J xs W') ∨ (∃ pre, (pre ≠ [] ∧ pre <+: []) ∧ Jx pre W')) := by
  have HM := Lib.hid (wmadeN h)
  clear h
  refine callsIn_of_wp Try.func44 rfl trivial ?_ rfl
  simp only [Try.ntmps44, List.size_toArray, List.length_cons, List.length_nil, Nat.reduceAdd, Nat.reduceSub, Array.replicate_succ, Array.replicate_zero, List.push_toArray, List.append_toArray, List.nil_append, List.cons_append]
  gi_wp2_with (first | (refine ⟨trivial, ?_⟩; gi_at_call 32; refine (callsIn_wide.2 HM.out).mono ?_; rintro e w1 ⟨rfl, rfl⟩))
  refine bodyPost_ret (results_none rfl _ _ _) rfl ?_
  first | exact ⟨⟨_, rfl⟩, .inl ⟨_, rfl, hJ0⟩⟩ | exact ⟨⟨_, rfl⟩, .inl hJ0⟩
end Go.Proofs.Ytbaljpamhmbcjaa
