/- The page's examples. -/
import Derived.Test.YtepjdnokkgmhoaaP2
namespace Go.Proofs.Ytepjdnokkgmhoaa
open Go.RowKit Go.Shelf
theorem aw_bad : stepsBad 0 4607182418800017408 4598175219545276416 = false := by decide +kernel
theorem aw_raw : stepsRaw 0 4607182418800017408 4598175219545276416 = 5 := stepsRaw_eq _ _ _ 5 (by omega) (by decide +kernel) (.inr (by decide +kernel))
theorem aw_n : stepsN 0 4607182418800017408 4598175219545276416 = 5 := by unfold stepsN; rw [aw_bad, aw_raw]; simp only [Bool.false_eq_true, if_false]; decide
theorem aw_e : stepsE 0 4607182418800017408 4598175219545276416 = 0 := by unfold stepsE; rw [aw_bad, aw_raw]; simp only [Bool.false_eq_true, if_false]; decide
theorem aw_ce : clampE 4603579539098121011 0 4607182418800017408 = 0 := by decide +kernel
theorem aw_near : nearN 0 4607182418800017408 4598175219545276416 4603579539098121011 = 2 := by
  unfold nearN
  rw [aw_e, aw_ce, aw_n]
  simp only [if_true]
  decide +kernel
theorem aw_neare : nearE 0 4607182418800017408 4598175219545276416 4603579539098121011 = 0 := by
  unfold nearE
  rw [aw_e, aw_ce]
  simp only [if_true]
theorem aw_read : readN { data := #[45, 48, 48, 55] } = -7 := by decide +kernel
theorem aw_reade : readE { data := #[45, 48, 48, 55] } = 0 := by decide +kernel
theorem aw_print : printS (-70) = { data := #[45, 55, 48] } := by decide +kernel
theorem aw_ord : ordN 4607182418800017408 4611686018427387904 = -1 := by decide +kernel
theorem tawake (w : World) : Calls Try.prog 12 #[] w fun e w' => e = .returned (.bool true) ∧ Below w.heap.size w w' := by
  have hs := fun W => tsteps 0 4607182418800017408 4598175219545276416 W
  rw [aw_n, aw_e] at hs
  have hn := fun W => tnear 0 4607182418800017408 4598175219545276416 4603579539098121011 W
  rw [aw_near, aw_neare] at hn
  have hr := fun W => tread { data := #[45, 48, 48, 55] } (by decide) W
  rw [aw_read, aw_reade] at hr
  have hp := fun W => tprint (-70) (by omega) (by omega) W
  rw [aw_print] at hp
  have ho := fun W => torder 4607182418800017408 4611686018427387904 (by omega) (by omega) W
  rw [aw_ord] at ho
  have HS := Lib.hid hs
  have HN := Lib.hid hn
  have HR := Lib.hid hr
  have HP := Lib.hid hp
  have HO := Lib.hid ho
  clear hs hn hr hp ho
  go_enter Try.func12, Try.ntmps12
  go_wp2_with (first | (go_at_call 20; refine (HS.out _).mono ?_; rintro e w' ⟨rfl, rfl⟩) | (go_at_call 22; refine (HN.out _).mono ?_; rintro e w1 ⟨rfl, hB1⟩; have HB1 := Lib.hid hB1; clear hB1) | (go_at_call 14; refine (HR.out _).mono ?_; rintro e w' ⟨rfl, rfl⟩) | (go_at_call 16; refine (HP.out _).mono ?_; rintro e w2 ⟨rfl, hB2⟩; have HB2 := Lib.hid hB2; clear hB2) | (go_at_call 33; refine (HO.out _).mono ?_; rintro e w' ⟨rfl, rfl⟩))
  go_ret
  exact ⟨rfl, HB1.out.trans (HB2.out.mono HB1.out.size)⟩
end Go.Proofs.Ytepjdnokkgmhoaa
