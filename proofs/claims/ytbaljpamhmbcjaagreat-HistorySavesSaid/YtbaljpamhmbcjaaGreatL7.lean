/- Walk: the reference's Load. -/
import Derived.Test.YtbaljpamhmbcjaaGreatL6
namespace Go.Proofs.YtbaljpamhmbcjaaGreat
open Go.RowKit Go.Shelf Go.Lib
set_option maxRecDepth 100000 in
set_option maxHeartbeats 4000000 in
theorem rLoad_no (m : Int) (h : m < 1 ∨ 256 < m) (s : Bs) (w : World) : Calls Tryz.prog 5 #[.int .i64 m, .string (tx s)] w (RLoadEnd m s w) := by
  have HN := Lib.hid (fun W => rNew_no m h W)
  have HE : Hid (loadE m s = 140) := Lib.hid (by unfold loadE; rw [if_pos h])
  have HZ : Hid (rV 0 none 0 0 Wk.no = .agg #[.int .i64 0, .slice none 0 0, .bool false, .string ⟨#[]⟩, .string ⟨#[]⟩, .int .i64 0]) := Lib.hid rfl
  rw [HZ.out] at HN
  have HRL := Lib.hid (fun (w1 : World) hb => rl_new (w := w) (w1 := w1) (V := #[.int .i64 0, .slice none 0 0, .bool false, .string ⟨#[]⟩, .string ⟨#[]⟩, .int .i64 0]) hb)
  clear h
  go_enter Tryz.func5, Tryz.ntmps5
  go_wp2_with (first | (go_at_call 18; fail))
  go_at_call 18
  refine (HN.out _).mono ?_
  rintro e w1 ⟨rfl, hb1⟩
  have HR := Lib.hid (HRL.out w1 hb1)
  clear hb1
  go_upto_region 2 with (fail)
  obtain ⟨W, hW⟩ : ∃ W, W = w1.alloc (.cells #[.int .i64 0, .slice none 0 0, .bool false, .string ⟨#[]⟩, .string ⟨#[]⟩, .int .i64 0] 28) := ⟨_, rfl⟩
  rw [← hW] at HR ⊢
  clear hW
  obtain ⟨a0, a1, a2, a3, a4, a5, az⟩ := cells6 HR.out.res'
  have af0 := az 0
  have af1 := az 1
  have af2 := az 2
  have af3 := az 3
  have af4 := az 4
  have af5 := az 5
  obtain ⟨b0, b1, b2, b3, b4, b5, -⟩ := cells6 HR.out.h
  clear az
  go_wp2
  have HF := set6_heap HR.out.res' (.int .i64 0) (.slice none 0 0) (.bool false) (.string ⟨#[]⟩) (.string ⟨#[]⟩) (.int .i64 0)
  refine bodyPost_ret (results_cell_tmp rfl _ _ w.heap.size 28 _ (0, 0) _ rfl HF Tryz.underlying28 rfl (by kernel_rfl)) rfl ?_
  exact RLoadEnd.bad HE.out (by decide) (set6_below HR.out.bel (Nat.le_refl _) _ _ _ _ _ _)
end Go.Proofs.YtbaljpamhmbcjaaGreat
