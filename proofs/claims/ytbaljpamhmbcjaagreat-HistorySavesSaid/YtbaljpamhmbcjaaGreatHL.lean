/- Walk: the closure of next: is a line told? -/
import Derived.Test.YtbaljpamhmbcjaaGreatHK
namespace Go.Proofs.YtbaljpamhmbcjaaGreat
open Go.RowKit Go.Shelf
/-- Is this line told in a walk with this draft and this beginning? -/
def toldB (l draft beg : Bs) : Bool := Lib.hasPrefix l beg && !decide (l = draft)
theorem wtoldB (q : Nat) (l draft beg : Bs) (w : World) (h1 : w.cell? ⟨q, 1, none⟩ = some (.string (tx draft))) (h2 : w.cell? ⟨q, 2, none⟩ = some (.string (tx beg))) :
    Calls Tryz.prog 61 #[.string (tx l), .pointer (some ⟨q, 0, none⟩)] w fun e w' => e = .returned (.bool (toldB l draft beg)) ∧ w = w' := by
  have HP := Lib.hid (Tryz.strings_HasPrefix (tx l) (tx beg))
  have e1 : (tx l).data.toList = l := rfl
  have e2 : (tx beg).data.toList = beg := rfl
  rw [e1, e2] at HP
  have hq : ((tx l).toList == (tx draft).toList) = decide (l = draft) := by
    rw [beq_bytes, decide_eq_decide]
    exact ⟨tx_inj, fun h => by rw [h]⟩
  have HV := Lib.hid (show toldB l draft beg = (Lib.hasPrefix l beg && !decide (l = draft)) from rfl)
  obtain ⟨V, hV⟩ : ∃ V, V = toldB l draft beg := ⟨_, rfl⟩
  obtain ⟨H, hH⟩ : ∃ V, V = Lib.hasPrefix l beg := ⟨_, rfl⟩
  obtain ⟨E, hE⟩ : ∃ V, V = decide (l = draft) := ⟨_, rfl⟩
  rw [← hV, ← hH, ← hE] at HV
  rw [← hH] at HP
  rw [← hE] at hq
  rw [← hV]
  clear hV hH hE e1 e2
  obtain ⟨T, hT⟩ : ∃ T, T = tx l := ⟨_, rfl⟩
  obtain ⟨S, hS⟩ : ∃ T, T = tx draft := ⟨_, rfl⟩
  rw [← hT] at HP hq ⊢
  rw [← hS] at hq h1
  clear hT hS
  cases H
  · have HR : Hid (V = false) := Lib.hid (by rw [HV.out]; rfl)
    clear HV
    go_enter Tryz.func61, Tryz.ntmps61
    go_wp2_with (first | (go_at_call 62; (with_reducible refine (HP.out _).mono ?_); rintro e w' ⟨rfl, rfl⟩))
    go_ret
    exact ⟨ret_bool HR.out.symm, rfl⟩
  · have HR : Hid (V = !E) := Lib.hid (by rw [HV.out]; simp)
    clear HV
    go_enter Tryz.func61, Tryz.ntmps61
    go_wp2_with (first | (go_at_call 62; (with_reducible refine (HP.out _).mono ?_); rintro e w' ⟨rfl, rfl⟩))
    go_ret
    exact ⟨by rw [HR.out]; rfl, rfl⟩
end Go.Proofs.YtbaljpamhmbcjaaGreat
