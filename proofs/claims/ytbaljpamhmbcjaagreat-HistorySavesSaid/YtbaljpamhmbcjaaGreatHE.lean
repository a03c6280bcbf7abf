/- Walks: made, may. -/
import Derived.Test.YtbaljpamhmbcjaaGreatHD
namespace Go.Proofs.YtbaljpamhmbcjaaGreat
open Go.RowKit Go.Shelf
theorem wmade0 (w : World) : Calls Tryz.prog 31 #[.pointer none] w fun e w' => e = .returned (.bool false) ∧ w = w' := by
  go_enter Tryz.func31, Tryz.ntmps31
  go_wp2
  go_ret
  exact ⟨rfl, rfl⟩
theorem wmade (b : Nat) (m : Int) (w : World) (h : w.cell? ⟨b, 0, none⟩ = some (.int .i64 m)) : Calls Tryz.prog 31 #[.pointer (some ⟨b, 0, none⟩)] w fun e w' => e = .returned (.bool (decide (0 < m))) ∧ w = w' := by
  go_enter Tryz.func31, Tryz.ntmps31
  go_wp2
  go_ret
  exact ⟨rfl, rfl⟩
/-- May a text be a line? -/
def mayS (l : Bs) : Bool := decide (l ≠ []) && decide (flatS l = l) && decide ((cutS l).length ≤ 4096)
theorem tx_inj {a b : Bs} (h : tx a = tx b) : a = b := by
  have := congrArg (fun s : ByteArray => s.data.toList) h
  simpa [tx] using this
theorem wmay (l : Bs) (hl : l.length ≤ 900000) (w : World) : Calls Tryz.prog 14 #[.string (tx l)] w fun e w' => e = .returned (.bool (mayS l)) ∧ Below w.heap.size w w' := by
  have HF := Lib.hid (wflat l hl)
  have HC := Lib.hid (wcount l hl)
  have HV := Lib.hid (show mayS l = (decide (l ≠ []) && decide (flatS l = l) && decide ((cutS l).length ≤ 4096)) from rfl)
  obtain ⟨V, hV⟩ : ∃ V, V = mayS l := ⟨_, rfl⟩
  rw [← hV] at HV ⊢
  clear hV
  by_cases h0 : l = []
  · subst h0
    have HR : Hid (V = false) := Lib.hid (by rw [HV.out]; rfl)
    have e0 : tx [] = ⟨#[]⟩ := rfl
    rw [e0]
    clear HV HF HC
    go_enter Tryz.func14, Tryz.ntmps14
    go_wp2
    go_ret
    exact ⟨ret_bool HR.out.symm, Below.refl _ _⟩
  · have h1 : (tx l).toList.isEmpty = false := by rw [ByteArray.toList_eq]; simpa [tx] using h0
    have h2 : ¬ (tx l).toList = [] := fun q => by rw [q] at h1; cases h1
    by_cases hf : flatS l = l
    · rw [hf] at HF
      have HR : Hid (V = decide ((cutS l).length ≤ 4096)) := Lib.hid (by rw [HV.out, decide_eq_true h0, decide_eq_true hf]; rfl)
      obtain ⟨T, hT⟩ : ∃ T, T = tx l := ⟨_, rfl⟩
      rw [← hT] at HF HC h1 h2 ⊢
      clear hT HV
      go_enter Tryz.func14, Tryz.ntmps14
      go_wp2_with (first | (go_at_call 34; fail))
      go_at_call 34
      refine (HF.out _).mono ?_
      rintro e w1 ⟨rfl, hb1⟩
      have HB1 := Lib.hid hb1
      clear hb1
      go_wp2_with (first | (go_at_call 35; fail))
      go_at_call 35
      refine (HC.out _).mono ?_
      rintro e w2 ⟨rfl, hb2⟩
      have HB2 := Lib.hid (HB1.out.trans (below_le hb2 HB1.out.size))
      clear hb2
      go_wp2
      go_ret
      exact ⟨by rw [HR.out]; simp; omega, HB2.out⟩
    · have hne : ¬ tx (flatS l) = tx l := fun q => hf (tx_inj q)
      have HR : Hid (V = false) := Lib.hid (by rw [HV.out, decide_eq_false hf]; simp)
      have hbq : ((tx (flatS l)).toList == (tx l).toList) = false := by rw [beq_bytes, decide_eq_false hne]
      obtain ⟨T, hT⟩ : ∃ T, T = tx l := ⟨_, rfl⟩
      obtain ⟨T2, hT2⟩ : ∃ T, T = tx (flatS l) := ⟨_, rfl⟩
      rw [← hT] at HF HC h1 h2 hne hbq ⊢
      rw [← hT2] at HF hne hbq
      clear hT hT2 HV HC
      go_enter Tryz.func14, Tryz.ntmps14
      go_wp2_with (first | (go_at_call 34; fail))
      go_at_call 34
      refine (HF.out _).mono ?_
      rintro e w1 ⟨rfl, hb1⟩
      have HB1 := Lib.hid hb1
      clear hb1
      go_wp2
      go_ret
      exact ⟨ret_bool HR.out.symm, HB1.out⟩
end Go.Proofs.YtbaljpamhmbcjaaGreat
