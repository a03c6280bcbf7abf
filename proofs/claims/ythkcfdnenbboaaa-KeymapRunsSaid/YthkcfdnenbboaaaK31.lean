/- Walk: less of the reference. -/
import Derived.Test.YthkcfdnenbboaaaK30
import Derived.RegionTactic
namespace Go.Proofs.Ythkcfdnenbboaaa
open Go.RowKit Go.Shelf Go.Maps Go.Sort Go.ChangeMaps
theorem lt_pre (p s t : List UInt8) : (p ++ s < p ++ t) ↔ s < t := by
  induction p with
  | nil => simp
  | cons x p ih =>
    rw [List.cons_append, List.cons_append, List.cons_lt_cons_iff]
    rw [ih]
    constructor
    · rintro (h | ⟨_, h⟩)
      · exact absurd h (UInt8.lt_irrefl _)
      · exact h
    · intro h; exact .inr ⟨rfl, h⟩
def ltS (a b : ByteArray) : Bool := decide (a.data.toList < b.data.toList)
theorem lt_take {A B : List UInt8} {k : Nat} (h : A.take k = B.take k) : (A < B) ↔ A.drop k < B.drop k := by
  have e := lt_pre (A.take k) (A.drop k) (B.drop k)
  rw [List.take_append_drop, h, List.take_append_drop] at e
  exact e
theorem ltS_end {a b : ByteArray} {k : Nat} (h : a.data.toList.take k = b.data.toList.take k) (hk : a.size ≤ k ∨ b.size ≤ k) (ka : k ≤ a.size) (kb : k ≤ b.size) : ltS a b = decide (a.size < b.size) := by
  unfold ltS
  have la : a.data.toList.length = a.size := rfl
  have lb : b.data.toList.length = b.size := rfl
  rw [Bool.eq_iff_iff, decide_eq_true_eq, decide_eq_true_eq, lt_take h]
  rcases hk with hk | hk
  · rw [List.drop_eq_nil_of_le (by omega : a.data.toList.length ≤ k)]
    by_cases q : a.size < b.size
    · rw [List.drop_eq_getElem_cons (by omega : k < b.data.toList.length)]
      exact ⟨fun _ => q, fun _ => List.nil_lt_cons _ _⟩
    · rw [List.drop_eq_nil_of_le (by omega : b.data.toList.length ≤ k)]
      exact ⟨fun h => absurd h (List.lt_irrefl _), fun h => absurd h q⟩
  · rw [List.drop_eq_nil_of_le (by omega : b.data.toList.length ≤ k)]
    exact ⟨fun h => absurd h (List.not_lt_nil _), fun h => absurd h (by omega)⟩
theorem ltS_diff {a b : ByteArray} {k : Nat} (h : a.data.toList.take k = b.data.toList.take k) (ka : k < a.size) (kb : k < b.size) (hne : a[k] ≠ b[k]) : ltS a b = decide (a[k].toNat < b[k].toNat) := by
  unfold ltS
  have la : k < a.data.toList.length := ka
  have lb : k < b.data.toList.length := kb
  rw [Bool.eq_iff_iff, decide_eq_true_eq, decide_eq_true_eq, lt_take h, List.drop_eq_getElem_cons la, List.drop_eq_getElem_cons lb, List.cons_lt_cons_iff]
  have e1 : a.data.toList[k] = a[k] := rfl
  have e2 : b.data.toList[k] = b[k] := rfl
  rw [e1, e2, UInt8.lt_iff_toNat_lt]
  constructor
  · rintro (q | ⟨q, _⟩)
    · omega
    · exact absurd q hne
  · intro q; exact .inl (by omega)
theorem take_more {a b : ByteArray} {k : Nat} (h : a.data.toList.take k = b.data.toList.take k) (ka : k < a.size) (kb : k < b.size) (he : a[k] = b[k]) : a.data.toList.take (k + 1) = b.data.toList.take (k + 1) := by
  have la : k < a.data.toList.length := ka
  have lb : k < b.data.toList.length := kb
  rw [List.take_succ_eq_append_getElem la, List.take_succ_eq_append_getElem lb, h]
  have e1 : a.data.toList[k] = a[k] := rfl
  have e2 : b.data.toList[k] = b[k] := rfl
  rw [e1, e2, he]
theorem below_drewN {B : Nat} {a w : World} (h : Below B a w) (n : Nat) : Below B a (w.drewN n) := ⟨h.os, h.tape, h.output, h.size, h.block⟩
set_option maxHeartbeats 2000000 in
theorem wless (a b : ByteArray) (ha : a.size ≤ maxLen) (hb : b.size ≤ maxLen) (w : World) : Calls Try.prog 58 #[.string a, .string b] w fun e w' => e = .returned (.bool (ltS a b)) ∧ Below w.heap.size w w' := by
  unfold maxLen at ha hb
  go_enter Try.func58, Try.ntmps58
  go_wp2_with fail
  go_loopg [5] (a.size + 1) (fun n i wr => ∃ k : Nat, k + n = a.size + 1 ∧ k ≤ a.size ∧ k ≤ b.size ∧ i = .int .i64 k ∧ Hid (a.data.toList.take k = b.data.toList.take k) ∧ Hid (Below w.heap.size w wr))
  case atStart => exact ⟨0, by omega, by omega, by omega, rfl, Lib.hid (by simp), Lib.hid (Below.refl _ _)⟩
  case round =>
    obtain ⟨k, hk, ka, kb, rfl, HT, HB⟩ := hrel
    by_cases q1 : k < a.size
    · by_cases q2 : k < b.size
      · by_cases q3 : a[k] = b[k]
        · have t1 : ((a[k].toNat : Int) != (b[k].toNat : Int)) = false := by rw [q3]; simp
          have HM := Lib.hid (take_more HT.out q1 q2 q3)
          clear q3
          go_wp2_with fail
          go_quiet (fail)
          go_wp2
          go_roundg (gk - 1)
          case measure => omega
          case rel => exact ⟨k + 1, by omega, by omega, by omega, by go_num, HM, Lib.hid (below_drewN HB.out _)⟩
        · have t1 : ((a[k].toNat : Int) != (b[k].toNat : Int)) = true := by
            simp only [bne_iff_ne, ne_eq]
            intro e
            exact q3 (UInt8.toNat_inj.1 (by omega))
          have HD := Lib.hid (ltS_diff HT.out q1 q2 q3)
          clear q3
          go_wp2_with fail
          go_quiet (fail)
          go_wp2_with fail
          go_quiet (fail)
          go_wp2
          go_ret
          exact ⟨by rw [HD.out]; rfl, below_drewN (below_drewN HB.out _) _⟩
      · have HD := Lib.hid (ltS_end HT.out (.inr (by omega)) ka kb)
        go_wp2
        go_ret
        exact ⟨by rw [HD.out]; rfl, HB.out⟩
    · have HD := Lib.hid (ltS_end HT.out (.inl (by omega)) ka kb)
      go_wp2
      go_ret
      exact ⟨by rw [HD.out]; rfl, HB.out⟩
end Go.Proofs.Ythkcfdnenbboaaa
