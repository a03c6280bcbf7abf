/- Whole numbers' texts: signs, digits. -/
import Derived.Test.YtepjdnokkgmhoaaI2
import Derived.WalkSpells
namespace Go.Proofs.Ytepjdnokkgmhoaa
open Go.RowKit Go.Shelf
/-- A text's byte. -/
def bt (s : ByteArray) (k : Nat) : Nat := if h : k < s.size then s[k].toNat else 0
theorem bt_eq {s : ByteArray} {k : Nat} (h : k < s.size) : s[k].toNat = bt s k := by simp [bt, h]
theorem bt_lt (s : ByteArray) (k : Nat) : bt s k < 256 := by
  unfold bt; split
  · exact UInt8.toNat_lt _
  · omega
def sgn (s : ByteArray) : Bool := decide (0 < s.size) && (bt s 0 == 45)
def unsg (s : ByteArray) : ByteArray := if sgn s then s.extract 1 s.size else s
theorem sign_walk (f : Nat) (hf : f = 40 ∨ f = 41) (s : ByteArray) (w : World) : Calls Try.prog f #[.string s] w fun e w' => e = .returned (.tuple #[.string (unsg s), .bool (sgn s)]) ∧ w = w' := by
  by_cases h0 : s.size = 0
  · have e : sgn s = false := by simp [sgn, h0]
    simp only [unsg, e, Bool.false_eq_true, if_false]
    clear e
    rcases hf with rfl | rfl
    · go_enter Try.func40, Try.ntmps40; go_wp2; go_ret2; exact ⟨rfl, rfl⟩
    · go_enter Try.func41, Try.ntmps41; go_wp2; go_ret2; exact ⟨rfl, rfl⟩
  · have hp : 0 < s.size := by omega
    have hb := bt_eq hp
    by_cases h1 : bt s 0 = 45
    · have e : sgn s = true := by simp [sgn, hp, h1]
      simp only [unsg, e, if_true]
      rw [h1] at hb
      clear e h1
      have hq : decide ((0 : Int) < (s.size : Int)) = true := by simp; omega
      rcases hf with rfl | rfl
      · go_enter Try.func40, Try.ntmps40; go_wp2; go_ret2; exact ⟨rfl, rfl⟩
      · go_enter Try.func41, Try.ntmps41; go_wp2; go_ret2; exact ⟨rfl, rfl⟩
    · have e : sgn s = false := by simp [sgn, h1]
      simp only [unsg, e, Bool.false_eq_true, if_false]
      have ht : ((bt s 0 : Int) == 45) = false := by simp; omega
      have hq : decide ((0 : Int) < (s.size : Int)) = true := by simp; omega
      clear e h1
      rcases hf with rfl | rfl
      · go_enter Try.func40, Try.ntmps40; go_wp2; go_ret2; exact ⟨rfl, rfl⟩
      · go_enter Try.func41, Try.ntmps41; go_wp2; go_ret2; exact ⟨rfl, rfl⟩
end Go.Proofs.Ytepjdnokkgmhoaa
