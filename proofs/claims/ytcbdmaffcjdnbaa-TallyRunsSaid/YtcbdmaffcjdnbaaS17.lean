/- Runs: the law's walk. -/
import Derived.Test.YtcbdmaffcjdnbaaS16
import Derived.Test.YtcbdmaffcjdnbaaW7
namespace Go.Proofs.Ytcbdmaffcjdnbaa
open Go.RowKit Go.Shelf Go.Maps
def LawEnd (w : World) (e : Ending) (w' : World) : Prop := e = .returned (.bool true) ∧ Below w.heap.size w w'
set_option maxRecDepth 100000 in
set_option maxHeartbeats 4000000 in
theorem runs_bad (W H : Int) (x : Option Addr) (n cap : Nat) (w : World) (_ : n ≤ 9223372036854775807) (hE : bndE W H = 330) : Calls Try.prog 5 #[.int .i64 W, .int .i64 H, .slice x n cap] w (LawEnd w) := by
  have HN := Lib.hid (fun w => show Calls Try.prog 20 #[.int .i64 W, .int .i64 H] w (fun e w' => e = .returned (.tuple #[.pointer none, .int .i64 330]) ∧ Below w.heap.size w w') from (new_any W H w 0 (Nat.zero_le _)).mono (by
    rintro e w' ⟨hB, ⟨q, _⟩ | ⟨_, q⟩⟩
    · omega
    · exact ⟨q, hB⟩))
  have HR := Lib.hid (fun w => show Calls Try.prog 21 #[.int .i64 W, .int .i64 H] w (fun e w' => e = .returned (.tuple #[rT ⟨0, 0, 0, 0, 0, []⟩ (.slice none 0 0), .int .i64 330]) ∧ Below w.heap.size w w') from (rnew_any W H w).mono (by
    rintro e w' ⟨hB, ⟨q, _⟩ | ⟨_, q⟩⟩
    · omega
    · exact ⟨q, hB⟩))
  unfold rT at HR
  clear hE
  go_enter Try.func5, Try.ntmps5
  go_wp2_with (first | (go_at_call 20; refine (HN.out _).mono ?_; rintro e w1 ⟨rfl, hB1⟩; have HB1 := Lib.hid hB1; clear hB1) | (go_at_call 21; refine (HR.out _).mono ?_; rintro e w2 ⟨rfl, hB2⟩; have HB2 := Lib.hid hB2; clear hB2) | (go_at_call 13; refine (awake_any _).mono ?_; rintro e w3 ⟨rfl, hB3⟩; have HB3 := Lib.hid hB3; clear hB3))
  go_loop [11] (fun i => i = .int .i64 0) (fun _ => 0)
  case atStart => exact rfl
  case round =>
    subst hrel
    by_cases h0 : 0 < n
    all_goals
      go_wp2
      go_ret
      exact ⟨rfl, ((HB1.out.trans (HB2.out.mono HB1.out.size)).alloc (by have := HB1.out.size; have := HB2.out.size; omega) _).trans (HB3.out.mono (by have := HB1.out.size; have := HB2.out.size; simp; omega))⟩
end Go.Proofs.Ytcbdmaffcjdnbaa
