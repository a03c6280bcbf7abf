/- Walks: the law TallyNobody. -/
import Derived.Test.YtcbdmaffcjdnbaaN1
import Derived.Test.YtcbdmaffcjdnbaaW7
namespace Go.Proofs.Ytcbdmaffcjdnbaa
open Go.RowKit
abbrev NobW (w : World) : World := (w.alloc (.cells #[.int .i64 0, .int .i64 0, .int .i64 0, .int .i64 0, .int .i64 0, .slice none 0 0, .map none] 42)).alloc (.cells #[.pointer none, .pointer (some ⟨w.heap.size, 0, none⟩)] 36)
def nobAt (w : World) (k : Nat) : Option Addr := if k = 0 then none else some ⟨w.heap.size, 0, none⟩
theorem nob_at {w wr : World} (h : Below (w.heap.size + 2) (NobW w) wr) (k : Nat) (hk : k < 2) :
    wr.cell? ⟨w.heap.size + 1, k, none⟩ = some (.pointer (nobAt w k)) ∧ Nobody wr (nobAt w k) := by
  have H : ∀ b o, b < w.heap.size + 2 → wr.cell? ⟨b, o, none⟩ = (NobW w).cell? ⟨b, o, none⟩ := fun b o hb => h.cell (p := ⟨b, o, none⟩) hb
  have hz : w.heap.size + 2 ≤ wr.heap.size := by have := h.size; simpa using this
  rcases (by omega : k = 0 ∨ k = 1) with rfl | rfl
  · exact ⟨by rw [H _ _ (by omega)]; simp [go_sem, nobAt], .inl rfl⟩
  · refine ⟨by rw [H _ _ (by omega)]; simp [go_sem, nobAt], .inr ⟨w.heap.size, rfl, by omega, ?_⟩⟩
    rw [H _ _ (by omega)]; simp [go_sem]
set_option maxRecDepth 100000 in
set_option maxHeartbeats 2000000 in
theorem nobody_any (s : ByteArray) (n : Int) (w : World) : Calls Try.prog 4 #[.string s, .int .i64 n] w fun e w' => e = .returned (.bool true) ∧ Below w.heap.size w w' := by
  go_enter Try.func4, Try.ntmps4
  go_wp2_with fail
  go_loopw [19] (fun i wr => ∃ k : Nat, k ≤ 2 ∧ i = .int .i64 k ∧ Below (w.heap.size + 2) (NobW w) wr) (fun i _ => 2 - (intOf i).toNat)
  case atStart => exact ⟨0, by omega, rfl, Below.refl _ _⟩
  case round =>
    obtain ⟨k, hk, rfl, hbel⟩ := hrel
    have hz : w.heap.size + 2 ≤ wr.heap.size := by have := hbel.size; simpa using this
    have HB := Lib.hid hbel
    by_cases hlt : k < 2
    · obtain ⟨hc, hN⟩ := nob_at hbel k hlt
      have HN := Lib.hid hN
      have hk0 : (0 : Int) ≤ (k : Int) := by omega
      have hk1 : (k : Int) < 2 := by omega
      clear hbel hN
      generalize nobAt w k = p at *
      go_wp2_with (first | (go_at_call 14; (with_reducible refine (sum_no _ _ _ HN.out).mono ?_); rintro e w' ⟨rfl, rfl⟩) | (go_at_call 15; (with_reducible refine (total_no _ _ HN.out).mono ?_); rintro e w1 ⟨rfl, hb1⟩; have HN1 := Lib.hid (HN.out.mono hb1); have HB1 := Lib.hid hb1; clear hb1) | (go_at_call 16; (with_reducible refine (note_no _ _ _ _ HN1.out).mono ?_); rintro e w' ⟨rfl, rfl⟩) | (go_at_call 17; (with_reducible refine (resize_no _ _ _ _ HN1.out).mono ?_); rintro e w' ⟨rfl, rfl⟩) | (go_at_call 18; (with_reducible refine (over_no _ _ HN1.out).mono ?_); rintro e w' ⟨rfl, rfl⟩) | (go_at_call 19; (with_reducible refine (kinds_no _ _ _ HN1.out).mono ?_); rintro e w2 ⟨rfl, hb2⟩; have HB2 := Lib.hid hb2; clear hb2))
      go_roundw
      case rel => exact ⟨k + 1, by omega, by go_num, HB.out.trans ((HB1.out.mono hz).trans (HB2.out.mono (by have := HB1.out.size; omega)))⟩
      case measure => simp [intOf]; omega
    · have hkn : k = 2 := by omega
      subst hkn
      clear hbel
      go_wp2_with (go_at_call 13; refine (awake_any _).mono ?_; rintro e w1 ⟨rfl, hb1⟩)
      go_ret
      exact ⟨rfl, (((Below.refl _ _).alloc (Nat.le_refl _) _).alloc (by simp) _).trans ((HB.out.mono (by omega)).trans (hb1.mono (by omega)))⟩
end Go.Proofs.Ytcbdmaffcjdnbaa
