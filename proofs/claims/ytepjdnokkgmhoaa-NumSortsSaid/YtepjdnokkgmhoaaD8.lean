/- Walks: two rows of numbers are the same. -/
import Derived.Test.YtepjdnokkgmhoaaD7
import Derived.Test.YtepjdnokkgmhoaaK2
namespace Go.Proofs.Ytepjdnokkgmhoaa
open Go.RowKit Go.Shelf
/-- A row of numbers in memory. -/
def SeesF (w : World) (x : Option Addr) (n : Nat) (f : Nat → Nat) : Prop := 0 < n → ∃ b, x = some ⟨b, 0, none⟩ ∧ ∀ i, i < n → w.cell? ⟨b, i, none⟩ = some (.float .f64 (f i))
set_option maxHeartbeats 2000000 in
theorem rsameAll (x y : Option Addr) (n cx cy : Nat) (f g : Nat → Nat) (w : World) (hm : n ≤ 9223372036854775807) (hx : SeesF w x n f) (hy : SeesF w y n g) (hf : ∀ i, i < n → f i < 18446744073709551616) (hg : ∀ i, i < n → g i < 18446744073709551616) (hk : ∀ i, i < n → keyN (f i) = keyN (g i)) :
    Calls Try.prog 28 #[.slice x n cx, .slice y n cy] w fun e w' => e = .returned (.bool true) ∧ ∃ m, w' = w.drewN m := by
  have HX := Lib.hid hx
  have HY := Lib.hid hy
  have HF := Lib.hid hf
  have HG := Lib.hid hg
  have HK := Lib.hid hk
  clear hx hy hf hg hk
  go_enter Try.func28, Try.ntmps28
  go_wp2
  go_loopw [5] (fun i wr => ∃ k : Nat, k ≤ n ∧ i = .int .i64 (k : Int) ∧ Hid (∃ m, wr = w.drewN m)) (fun i _ => n - (intOf i).toNat)
  case atStart => exact ⟨0, by omega, rfl, Lib.hid ⟨0, rfl⟩⟩
  case round =>
    obtain ⟨k, hk, rfl, HW⟩ := hrel
    by_cases hlt : k < n
    · obtain ⟨b, rfl, hb⟩ := HX.out (by omega)
      obtain ⟨c, rfl, hc⟩ := HY.out (by omega)
      have hck : wr.cell? ⟨b, k, none⟩ = some (.float .f64 (f k)) := by
        obtain ⟨m, rfl⟩ := HW.out
        have := hb k hlt
        simpa [go_sem] using this
      have hcb : wr.cell? ⟨c, k, none⟩ = some (.float .f64 (g k)) := by
        obtain ⟨m, rfl⟩ := HW.out
        have := hc k hlt
        simpa [go_sem] using this
      have F1 := Lib.hid (HF.out k hlt)
      have G1 := Lib.hid (HG.out k hlt)
      have K1 := Lib.hid (HK.out k hlt)
      clear hb hc
      go_wp2
      go_quiet ((go_at_call 11; exact quiet_sym ((tsame _ _ F1.out G1.out _).mono (fun e w' h => ⟨by rw [h.1, K1.out, beq_self_eq_true], h.2⟩))))
      go_wp2
      go_roundw
      case rel =>
        obtain ⟨m, rfl⟩ := HW.out
        exact ⟨k + 1, by omega, by go_num, Lib.hid ⟨m + nq, World.drewN_drewN _ _ _⟩⟩
      case measure => simp [intOf]; omega
    · go_wp2
      go_ret
      exact ⟨rfl, HW.out⟩
end Go.Proofs.Ytepjdnokkgmhoaa
