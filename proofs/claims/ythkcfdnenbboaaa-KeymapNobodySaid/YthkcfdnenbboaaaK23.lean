/- The law KeymapNobody. -/
import Derived.Test.YthkcfdnenbboaaaK22
import Derived.Test.YthkcfdnenbboaaaK21
namespace Go.Proofs.Ythkcfdnenbboaaa
open Go.RowKit Go.Shelf
abbrev NobW (w : World) (k : Ky) : World := ((w.alloc (.cells (kyCells k) 27)).alloc (.cells #[.map none] 68)).alloc (.cells #[.pointer none, .pointer (some ⟨w.heap.size + 1, 0, none⟩)] 22)
def nobAt (w : World) (i : Nat) : Option Addr := if i = 0 then none else some ⟨w.heap.size + 1, 0, none⟩
theorem nob_nobody {w : World} {k : Ky} (i : Nat) {wr : World} (h : Below (w.heap.size + 3) (NobW w k) wr) : Nobody wr (nobAt w i) := by
  unfold nobAt
  split
  · exact .inl rfl
  · refine .inr ⟨w.heap.size + 1, rfl, by have := h.size; simp at this; omega, ?_⟩
    rw [h.cell (p := ⟨w.heap.size + 1, 0, none⟩) (by simp)]
    simp [go_sem]
theorem nob_keep {w : World} {k : Ky} {i : Nat} (hi : i < 2) {wr : World} (h : Below (w.heap.size + 3) (NobW w k) wr) :
    wr.cell? ⟨w.heap.size, 0, none⟩ = some (.int .i64 k.code) ∧ wr.cell? ⟨w.heap.size, 1, none⟩ = some (.string k.s) ∧ wr.cell? ⟨w.heap.size, 2, none⟩ = some (.int .i64 k.n) ∧ wr.cell? ⟨w.heap.size, 3, none⟩ = some (.bool k.alt) ∧ wr.cell? ⟨w.heap.size, 4, none⟩ = some (.bool k.shift) ∧ wr.cell? ⟨w.heap.size, 5, none⟩ = some (.bool k.ctl) ∧ wr.cell? ⟨w.heap.size + 2, i, none⟩ = some (.pointer (nobAt w i)) := by
  have H : ∀ b o, b < w.heap.size + 3 → wr.cell? ⟨b, o, none⟩ = (NobW w k).cell? ⟨b, o, none⟩ := fun b o hb => h.cell (p := ⟨b, o, none⟩) hb
  refine ⟨?_, ?_, ?_, ?_, ?_, ?_, ?_⟩
  all_goals rw [H _ _ (by omega)]
  all_goals first | (simp [go_sem, kyCells]; done) | skip
  rcases (by omega : i = 0 ∨ i = 1) with rfl | rfl <;> simp [go_sem, nobAt]
set_option maxRecDepth 100000 in
set_option maxHeartbeats 8000000 in
theorem nobody_any (k : Ky) (hk : k.Wide) (w : World) : Calls Try.prog 6 #[k.v] w fun e w' => e = .returned (.bool true) ∧ Below w.heap.size w w' := by
  have FK := Lib.hid (fun W => wfew k hk W)
  have IK := Lib.hid (few_in hk)
  obtain ⟨A, hA⟩ : ∃ A, A = k.few := ⟨_, rfl⟩
  rw [← hA] at FK IK
  clear hA hk
  have HKP := Lib.hid (fun i (hi : i < 2) wr h => nob_keep (w := w) (k := k) (i := i) hi (wr := wr) h)
  have HNB := Lib.hid (fun i wr h => nob_nobody (w := w) (k := k) i (wr := wr) h)
  have HW0 := Lib.hid (show Below w.heap.size w (NobW w k) from (((Below.refl _ _).alloc (Nat.le_refl _) _).alloc (by simp) _).alloc (by simp; omega) _)
  have HZ0 := Lib.hid (show w.heap.size + 3 ≤ (NobW w k).heap.size by simp)
  obtain ⟨N, hN⟩ : ∃ N, N = NobW w k := ⟨_, rfl⟩
  rw [← hN] at HKP HNB HW0 HZ0
  obtain ⟨kc, ks, kn, kal, ksh, kct⟩ := k
  obtain ⟨Ac, As, An, Aal, Ash, Act⟩ := A
  unfold Ky.v at FK ⊢
  simp only [] at FK ⊢ HKP
  unfold NobW kyCells at hN
  simp only [] at hN
  go_enter Try.func6, Try.ntmps6
  go_wp2_with fail
  rw [← hN]
  clear hN
  go_loopg [5] 2 (fun n i wr => ∃ j : Nat, j + n = 2 ∧ i = .int .i64 j ∧ Hid (Below (w.heap.size + 3) N wr))
  case atStart => exact ⟨0, rfl, rfl, Lib.hid (Below.refl _ _)⟩
  case round =>
    obtain ⟨j, hj, rfl, HB0⟩ := hrel
    by_cases hlt : j < 2
    · have HS := Lib.hid (fun W' h => HKP.out j hlt W' h)
      have HN := Lib.hid (fun W' h => HNB.out j W' h)
      obtain ⟨q0, q1, q2, q3, q4, q5, q6⟩ := HS.out _ HB0.out
      obtain ⟨p, hp⟩ : ∃ p, p = nobAt w j := ⟨_, rfl⟩
      rw [← hp] at HS HN q6
      clear hp HKP HNB
      go_upto_region 6 with (fail)
      go_cut [7] (fun t wx => t = .bool false ∧ Hid (Below (w.heap.size + 3) N wx))
      case first =>
        have HA := Lib.hid (fun W hW => act_no W p hW ⟨Ac, As, An, Aal, Ash, Act⟩ IK.out)
        unfold Ky.v at HA
        simp only [] at HA
        go_region_held3 (fun w' => w'.cell? ⟨w.heap.size, 0, none⟩ = some (.int .i64 kc) ∧ w'.cell? ⟨w.heap.size, 1, none⟩ = some (.string ks) ∧ w'.cell? ⟨w.heap.size, 2, none⟩ = some (.int .i64 kn) ∧ w'.cell? ⟨w.heap.size, 3, none⟩ = some (.bool kal) ∧ w'.cell? ⟨w.heap.size, 4, none⟩ = some (.bool ksh) ∧ w'.cell? ⟨w.heap.size, 5, none⟩ = some (.bool kct) ∧ w'.cell? ⟨w.heap.size + 2, j, none⟩ = some (.pointer p))
          (first | exact HS.out _ HB0.out | exact HS.out _ HB0.out.drew | exact HS.out _ HB1.out | exact HS.out _ HB2.out)
          (first | (go_at_call 11; (with_reducible refine (FK.out _).mono ?_); rintro e x1 ⟨rfl, hb1⟩; have HB1 := Lib.hid (HB0.out.drew.trans (below_le hb1 (Nat.le_trans HZ0.out HB0.out.size))); clear hb1) | (go_at_call 29; (with_reducible refine (HA.out _ (HN.out _ HB1.out)).mono ?_); rintro e x2 ⟨rfl, hb2⟩; have HB2 := Lib.hid (HB1.out.trans (below_le hb2 (Nat.le_trans HZ0.out HB1.out.size))); clear hb2))
        go_wp2_with (fail)
        go_meet
        exact ⟨rfl, HB2.out⟩
      obtain ⟨rfl, HB2⟩ := hcut
      clear q0 q1 q2 q3 q4 q5 q6 HB0
      obtain ⟨q0, q1, q2, q3, q4, q5, q6⟩ := HS.out _ HB2.out
      go_wp2_with (first | (go_at_call 31; fail))
      go_at_call 31
      refine (told_no _ _ _ (HN.out _ HB2.out)).mono ?_
      rintro e x3 ⟨rfl, hb3⟩
      have HB3 := Lib.hid (HB2.out.trans (below_le hb3 (Nat.le_trans HZ0.out HB2.out.size)))
      clear q0 q1 q2 q3 q4 q5 q6 HB2 hb3
      obtain ⟨q0, q1, q2, q3, q4, q5, q6⟩ := HS.out _ HB3.out
      go_upto_region 8 with (fail)
      go_cut [89] (fun t wx => t = .bool false ∧ Hid (Below (w.heap.size + 3) N wx))
      case first =>
        have HA := Lib.hid (fun W hW => bind_no W p hW ⟨Ac, As, An, Aal, Ash, Act⟩ 15)
        have HD := Lib.hid (fun W hW => drop_no W p hW ⟨Ac, As, An, Aal, Ash, Act⟩ IK.out)
        unfold Ky.v at HA HD
        simp only [] at HA HD
        go_region_held3 (fun w' => w'.cell? ⟨w.heap.size, 0, none⟩ = some (.int .i64 kc) ∧ w'.cell? ⟨w.heap.size, 1, none⟩ = some (.string ks) ∧ w'.cell? ⟨w.heap.size, 2, none⟩ = some (.int .i64 kn) ∧ w'.cell? ⟨w.heap.size, 3, none⟩ = some (.bool kal) ∧ w'.cell? ⟨w.heap.size, 4, none⟩ = some (.bool ksh) ∧ w'.cell? ⟨w.heap.size, 5, none⟩ = some (.bool kct) ∧ w'.cell? ⟨w.heap.size + 2, j, none⟩ = some (.pointer p))
          (first | exact HS.out _ HB3.out | exact HS.out _ HB3.out.drew | exact HS.out _ HB4.out | exact HS.out _ HB5.out | exact HS.out _ HB6.out | exact HS.out _ HB7.out | exact HS.out _ HB8.out)
          (first | (go_at_call 11; (with_reducible refine (FK.out _).mono ?_); rintro e y3 ⟨rfl, hb6⟩; have HB6 := Lib.hid (HB5.out.trans (below_le hb6 (Nat.le_trans HZ0.out HB5.out.size))); clear hb6) | (go_at_call 11; (with_reducible refine (FK.out _).mono ?_); rintro e y1 ⟨rfl, hb4⟩; have HB4 := Lib.hid (HB3.out.drew.trans (below_le hb4 (Nat.le_trans HZ0.out HB3.out.size))); clear hb4) | (go_at_call 8; (with_reducible refine (HA.out _ (HN.out _ HB4.out)).mono ?_); rintro e y2 ⟨rfl, hb5⟩; have HB5 := Lib.hid (HB4.out.trans (below_le hb5 (Nat.le_trans HZ0.out HB4.out.size))); clear hb5) | (go_at_call 25; (with_reducible refine (HD.out _ (HN.out _ HB6.out)).mono ?_); rintro e y4 ⟨rfl, hb7⟩; have HB7 := Lib.hid (HB6.out.trans (below_le hb7 (Nat.le_trans HZ0.out HB6.out.size))); clear hb7) | (go_at_call 34; (with_reducible refine (keys_no _ _ _ (HN.out _ HB7.out)).mono ?_); rintro e y5 ⟨rfl, hb8⟩; have HB8 := Lib.hid (HB7.out.trans (below_le hb8 (Nat.le_trans HZ0.out HB7.out.size))); clear hb8) | (go_at_call 9; (with_reducible refine (len_no _ _ (HN.out _ HB8.out)).mono ?_); rintro e y6 ⟨rfl, rfl⟩) | (go_at_call 27; (with_reducible refine (fork_no _ _ (HN.out _ HB8.out)).mono ?_); rintro e y7 ⟨rfl, rfl⟩))
        go_wp2_with (fail)
        go_meet
        exact ⟨rfl, HB8.out⟩
      obtain ⟨rfl, HB8⟩ := hcut
      clear q0 q1 q2 q3 q4 q5 q6 HB3
      go_wp2
      go_roundg (gk - 1)
      case measure => omega
      case rel => exact ⟨j + 1, by omega, by go_num, HB8⟩
    · have hj2 : j = 2 := by omega
      subst hj2
      have HB := Lib.hid (HW0.out.trans (HB0.out.mono (by omega)))
      clear HB0
      go_wp2_with (first | (go_at_call 10; fail))
      go_at_call 10
      refine (awake_any _).mono ?_
      rintro e x1 ⟨rfl, hb⟩
      have HB2 := Lib.hid (HB.out.trans (below_le hb HB.out.size))
      clear hb
      go_wp2
      go_ret
      exact ⟨rfl, HB2.out⟩
end Go.Proofs.Ythkcfdnenbboaaa
