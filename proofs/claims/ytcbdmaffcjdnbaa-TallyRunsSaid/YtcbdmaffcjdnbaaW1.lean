/- Walks: Bound of the program and of the reference; a row of a frame. -/
import Derived.Test.YtcbdmaffcjdnbaaProg
import Derived.Test.YtcbdmaffcjdnbaaBase
namespace Go.Proofs.Ytcbdmaffcjdnbaa
open Go.RowKit
theorem mul_bd {w h : Int} (a : 1 ≤ w ∧ w ≤ 500) (b : 1 ≤ h ∧ h ≤ 500) : 1 ≤ w * h ∧ w * h ≤ 250000 := by
  have h1 : w * h ≤ 500 * h := Int.mul_le_mul_of_nonneg_right a.2 (by omega)
  have h2 : 1 * h ≤ w * h := Int.mul_le_mul_of_nonneg_right a.1 (by omega)
  omega
def okB (w h : Int) : Bool := decide (1 ≤ w) && decide (w ≤ 500) && decide (1 ≤ h) && decide (h ≤ 500)
def bndN (w h : Int) : Int := if okB w h then 128 * (w * h + 1) else 0
def bndE (w h : Int) : Int := if okB w h then 0 else 330
theorem okB_iff {w h : Int} : okB w h = true ↔ (1 ≤ w ∧ w ≤ 500) ∧ 1 ≤ h ∧ h ≤ 500 := by simp [okB, and_assoc]
theorem tbound (W H : Int) (w : World) : Calls Try.prog 7 #[.int .i64 W, .int .i64 H] w fun e w' => e = .returned (.tuple #[.int .i64 (bndN W H), .int .i64 (bndE W H)]) ∧ w = w' := by
  by_cases hc : okB W H = true
  · have h1 : bndN W H = 128 * (W * H + 1) := by simp [bndN, hc]
    have h2 : bndE W H = 0 := by simp [bndE, hc]
    rw [h1, h2]
    obtain ⟨a, b⟩ := okB_iff.1 hc
    have hm := mul_bd a b
    obtain ⟨a1, a2⟩ := a
    obtain ⟨b1, b2⟩ := b
    obtain ⟨m1, m2⟩ := hm
    clear hc h1 h2
    go_enter Try.func7, Try.ntmps7
    go_wp2
    go_ret2
    exact ⟨rfl, rfl⟩
  · have h1 : bndN W H = 0 := by simp [bndN, hc]
    have h2 : bndE W H = 330 := by simp [bndE, hc]
    rw [h1, h2]
    rw [okB_iff] at hc
    clear h1 h2
    by_cases a1 : W < 1
    · clear hc; go_enter Try.func7, Try.ntmps7; go_wp2; go_ret2; exact ⟨rfl, rfl⟩
    · by_cases a2 : 500 < W
      · clear hc; go_enter Try.func7, Try.ntmps7; go_wp2; go_ret2; exact ⟨rfl, rfl⟩
      · by_cases b1 : H < 1
        · clear hc; go_enter Try.func7, Try.ntmps7; go_wp2; go_ret2; exact ⟨rfl, rfl⟩
        · have b2 : 500 < H := by omega
          clear hc; go_enter Try.func7, Try.ntmps7; go_wp2; go_ret2; exact ⟨rfl, rfl⟩
theorem rbound (W H : Int) (w : World) : Calls Try.prog 8 #[.int .i64 W, .int .i64 H] w fun e w' => e = .returned (.tuple #[.int .i64 (bndN W H), .int .i64 (bndE W H)]) ∧ w = w' := by
  by_cases hc : okB W H = true
  · have h1 : bndN W H = 128 * (W * H + 1) := by simp [bndN, hc]
    have h2 : bndE W H = 0 := by simp [bndE, hc]
    rw [h1, h2]
    obtain ⟨a, b⟩ := okB_iff.1 hc
    have hm := mul_bd a b
    obtain ⟨a1, a2⟩ := a
    obtain ⟨b1, b2⟩ := b
    obtain ⟨m1, m2⟩ := hm
    clear hc h1 h2
    go_enter Try.func8, Try.ntmps8
    go_wp2
    go_ret2
    exact ⟨rfl, rfl⟩
  · have h1 : bndN W H = 0 := by simp [bndN, hc]
    have h2 : bndE W H = 330 := by simp [bndE, hc]
    rw [h1, h2]
    rw [okB_iff] at hc
    clear h1 h2
    by_cases a1 : W < 1
    · clear hc; go_enter Try.func8, Try.ntmps8; go_wp2; go_ret2; exact ⟨rfl, rfl⟩
    · by_cases a2 : 500 < W
      · clear hc; go_enter Try.func8, Try.ntmps8; go_wp2; go_ret2; exact ⟨rfl, rfl⟩
      · by_cases b1 : H < 1
        · clear hc; go_enter Try.func8, Try.ntmps8; go_wp2; go_ret2; exact ⟨rfl, rfl⟩
        · have b2 : 500 < H := by omega
          clear hc; go_enter Try.func8, Try.ntmps8; go_wp2; go_ret2; exact ⟨rfl, rfl⟩

/-- What a call gives that only makes memory: a row. -/
def GivesRow (w : World) (cs : List CellD) (e : Ending) (w' : World) : Prop := ∃ v, e = .returned v ∧ RowVal w' v cs ∧ Below w.heap.size w w'
theorem getD_out {α : Type} (l : List α) (d : α) (i : Nat) (h : l.length ≤ i) : l.getD i d = d := by simp [List.getD, List.getElem?_eq_none h]
theorem trow (ra : Option Addr) (n cap : Nat) (r c : Int) (s : Bool) (i : Nat) (rs : List (List CellD)) (w : World) (h : RowsV w ra n cap rs) :
    Calls Try.prog 26 #[.agg #[.slice ra n cap, .int .i64 r, .int .i64 c, .bool s], .int .i64 i] w (GivesRow w (nth rs i)) := by
  obtain ⟨h1, h2, h3, h4⟩ := h
  by_cases hi : i < n
  · obtain ⟨b, off, rfl, hb, hx⟩ := h4 (by omega)
    obtain ⟨v, hv, hr⟩ := hx i hi
    have H := Lib.hid hr
    have hn : n ≤ 9223372036854775807 := by omega
    clear hr h1 h2 h3 h4 hx
    go_enter Try.func26, Try.ntmps26
    go_wp2
    go_ret
    exact ⟨v, rfl, H.out.mono ((Below.refl _ _).alloc (Nat.le_refl _) _), (Below.refl _ _).alloc (Nat.le_refl _) _⟩
  · have hi' : n ≤ i := by omega
    have hn : n ≤ 9223372036854775807 := by omega
    rw [nth_out rs i (by omega)]
    clear h1 h2 h3 h4
    go_enter Try.func26, Try.ntmps26
    go_wp2
    go_ret
    exact ⟨_, rfl, rowVal_nil _, (Below.refl _ _).alloc (Nat.le_refl _) _⟩
theorem rrow (ra : Option Addr) (n cap : Nat) (r c : Int) (s : Bool) (i : Nat) (rs : List (List CellD)) (w : World) (h : RowsV w ra n cap rs) :
    Calls Try.prog 24 #[.agg #[.slice ra n cap, .int .i64 r, .int .i64 c, .bool s], .int .i64 i] w (GivesRow w (nth rs i)) := by
  obtain ⟨h1, h2, h3, h4⟩ := h
  by_cases hi : i < n
  · obtain ⟨b, off, rfl, hb, hx⟩ := h4 (by omega)
    obtain ⟨v, hv, hr⟩ := hx i hi
    have H := Lib.hid hr
    have hn : n ≤ 9223372036854775807 := by omega
    clear hr h1 h2 h3 h4 hx
    go_enter Try.func24, Try.ntmps24
    go_wp2
    go_ret
    exact ⟨v, rfl, H.out.mono ((Below.refl _ _).alloc (Nat.le_refl _) _), (Below.refl _ _).alloc (Nat.le_refl _) _⟩
  · have hi' : n ≤ i := by omega
    have hn : n ≤ 9223372036854775807 := by omega
    rw [nth_out rs i (by omega)]
    clear h1 h2 h3 h4
    go_enter Try.func24, Try.ntmps24
    go_wp2
    go_ret
    exact ⟨_, rfl, rowVal_nil _, (Below.refl _ _).alloc (Nat.le_refl _) _⟩
end Go.Proofs.Ytcbdmaffcjdnbaa
