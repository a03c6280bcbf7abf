/- Walks: two frames held against each other. -/
import Derived.Test.YtcbdmaffcjdnbaaW2
import Derived.Deep.RegionHeld3
import Derived.Deep.DrawnRows
namespace Go.Proofs.Ytcbdmaffcjdnbaa
open Go.RowKit
abbrev TwoBoxes (w : World) (p0 p1 p2 p3 q0 q1 q2 q3 : Value) : World := (w.alloc (.cells #[p0, p1, p2, p3] 24)).alloc (.cells #[q0, q1, q2, q3] 24)
theorem box2 {w wr : World} {p0 p1 p2 p3 q0 q1 q2 q3 : Value} (h : Below (w.heap.size + 2) (TwoBoxes w p0 p1 p2 p3 q0 q1 q2 q3) wr) :
    (wr.cell? ⟨w.heap.size, 0, none⟩ = some p0 ∧ wr.cell? ⟨w.heap.size, 1, none⟩ = some p1 ∧ wr.cell? ⟨w.heap.size, 2, none⟩ = some p2 ∧ wr.cell? ⟨w.heap.size, 3, none⟩ = some p3) ∧
    (wr.cell? ⟨w.heap.size + 1, 0, none⟩ = some q0 ∧ wr.cell? ⟨w.heap.size + 1, 1, none⟩ = some q1 ∧ wr.cell? ⟨w.heap.size + 1, 2, none⟩ = some q2 ∧ wr.cell? ⟨w.heap.size + 1, 3, none⟩ = some q3) := by
  have H : ∀ b o, b < w.heap.size + 2 → wr.cell? ⟨b, o, none⟩ = (TwoBoxes w p0 p1 p2 p3 q0 q1 q2 q3).cell? ⟨b, o, none⟩ := fun b o hb => h.cell (p := ⟨b, o, none⟩) hb
  refine ⟨⟨?_, ?_, ?_, ?_⟩, ?_, ?_, ?_, ?_⟩ <;> rw [H _ _ (by omega)] <;> simp [go_sem]
theorem rows_at {w w' : World} {p0 p1 p2 p3 q0 q1 q2 q3 : Value} {a : Option Addr} {n cap : Nat} {A : List (List CellD)} (h : RowsV w a n cap A) (hb : Below (w.heap.size + 2) (TwoBoxes w p0 p1 p2 p3 q0 q1 q2 q3) w') : RowsV w' a n cap A :=
  h.mono ((((Below.refl _ _).alloc (Nat.le_refl _) _).alloc (by simp) _).trans (hb.mono (by omega)))
theorem keep_at {w w' w1 : World} {p0 p1 p2 p3 q0 q1 q2 q3 : Value} (h : Below (w.heap.size + 2) (TwoBoxes w p0 p1 p2 p3 q0 q1 q2 q3) w') (hb : Below w'.heap.size w' w1) : Below (w.heap.size + 2) (TwoBoxes w p0 p1 p2 p3 q0 q1 q2 q3) w1 :=
  h.trans (hb.mono (by have := h.size; simpa using this))
theorem keep_all {w w' w1 : World} {p0 p1 p2 p3 q0 q1 q2 q3 : Value} (h : Below (w.heap.size + 2) (TwoBoxes w p0 p1 p2 p3 q0 q1 q2 q3) w') (hb : Below w'.heap.size w' w1) : Below (w.heap.size + 2) (TwoBoxes w p0 p1 p2 p3 q0 q1 q2 q3) w1 ∧
    (w1.cell? ⟨w.heap.size, 0, none⟩ = some p0 ∧ w1.cell? ⟨w.heap.size, 1, none⟩ = some p1 ∧ w1.cell? ⟨w.heap.size, 2, none⟩ = some p2 ∧ w1.cell? ⟨w.heap.size, 3, none⟩ = some p3) ∧
    (w1.cell? ⟨w.heap.size + 1, 0, none⟩ = some q0 ∧ w1.cell? ⟨w.heap.size + 1, 1, none⟩ = some q1 ∧ w1.cell? ⟨w.heap.size + 1, 2, none⟩ = some q2 ∧ w1.cell? ⟨w.heap.size + 1, 3, none⟩ = some q3) :=
  ⟨keep_at h hb, box2 (keep_at h hb)⟩
def apartAt (A B : List (List CellD)) (i : Nat) : Nat := apart (nth A i) (nth B i)
theorem apartAt_le {A B : List (List CellD)} (ha : Few A) (hb : Few B) (i : Nat) : apartAt A B i ≤ 100 := by
  have h1 := apart_le (nth A i) (nth B i)
  have h2 := ha.2 i
  have h3 := hb.2 i
  unfold apartAt
  omega
set_option maxHeartbeats 1000000 in
theorem tdiffer_le (a a' : Option Addr) (n cap n' cap' : Nat) (r c r' c' : Int) (s s' : Bool) (A B : List (List CellD)) (w : World) (hx : RowsV w a n cap A) (hy : RowsV w a' n' cap' B) (fx : Few A) (fy : Few B) (hlt : n' ≤ n) :
    Calls Try.prog 12 #[.agg #[.slice a n cap, .int .i64 r, .int .i64 c, .bool s], .agg #[.slice a' n' cap', .int .i64 r', .int .i64 c', .bool s']] w fun e w' => e = .returned (.int .i64 (differ A B : Nat)) ∧ Below w.heap.size w w' := by
  have e1 : n = A.length := hx.1
  have e2 : n' = B.length := hy.1
  have hn : n ≤ 30 := by have := fx.1; omega
  have hn' : n' ≤ 30 := by have := fy.1; omega
  have hle := apartAt_le fx fy
  have LE := Lib.hid hle
  have R : differ A B = sumTo (apartAt A B) n := by
    have : max A.length B.length = n := by omega
    rw [← this]; rfl
  have R := Lib.hid R
  have HX := Lib.hid hx
  have HY := Lib.hid hy
  clear e1 e2 hle hx hy fx fy
  go_enter Try.func12, Try.ntmps12
  go_wp2
  go_loopw [5, 14] (fun x i wr => ∃ k : Nat, k ≤ n ∧ i = .int .i64 k ∧ x = .int .i64 (sumTo (apartAt A B) k : Nat) ∧ Below (w.heap.size + 2) (TwoBoxes w (.slice a n cap) (.int .i64 r) (.int .i64 c) (.bool s) (.slice a' n' cap') (.int .i64 r') (.int .i64 c') (.bool s')) wr) (fun _ i _ => n - (intOf i).toNat)
  case atStart => exact ⟨0, Nat.zero_le _, rfl, rfl, Below.refl _ _⟩
  case round =>
    obtain ⟨k, hk, rfl, rfl, hbel⟩ := hrel
    by_cases hlt : k < n
    · have hs1 := sumTo_le k LE.out
      have hs2 : apart (nth A k) (nth B k) ≤ 100 := LE.out k
      have hs3 : sumTo (apartAt A B) (k + 1) = sumTo (apartAt A B) k + apart (nth A k) (nth B k) := rfl
      have HS := Lib.hid hs3
      have hsz : w.heap.size + 2 ≤ wr.heap.size := by have := hbel.size; simpa using this
      have HB := Lib.hid hbel
      clear hs3 hbel
      have hwr : IntKind.i64.wrap ((sumTo (apartAt A B) k : Nat) + (apart (nth A k) (nth B k) : Nat)) = ((sumTo (apartAt A B) k : Nat) + (apart (nth A k) (nth B k) : Nat) : Int) := IntWalk.i64_in _ (by omega)
      go_wp2
      go_region_held3 (fun w' => Below (w.heap.size + 2) (TwoBoxes w (.slice a n cap) (.int .i64 r) (.int .i64 c) (.bool s) (.slice a' n' cap') (.int .i64 r') (.int .i64 c') (.bool s')) w' ∧
        (w'.cell? ⟨w.heap.size, 0, none⟩ = some (.slice a n cap) ∧ w'.cell? ⟨w.heap.size, 1, none⟩ = some (.int .i64 r) ∧ w'.cell? ⟨w.heap.size, 2, none⟩ = some (.int .i64 c) ∧ w'.cell? ⟨w.heap.size, 3, none⟩ = some (.bool s)) ∧
        (w'.cell? ⟨w.heap.size + 1, 0, none⟩ = some (.slice a' n' cap') ∧ w'.cell? ⟨w.heap.size + 1, 1, none⟩ = some (.int .i64 r') ∧ w'.cell? ⟨w.heap.size + 1, 2, none⟩ = some (.int .i64 c') ∧ w'.cell? ⟨w.heap.size + 1, 3, none⟩ = some (.bool s')))
        (first | exact ⟨HB.out.drew, box2 HB.out.drew⟩ | (go_split_ands; exact keep_all (by assumption) ghc) | (go_split_ands; exact keep_all (by assumption) ghb) | (go_split_ands; exact keep_all (by assumption) gha))
        (first | (go_at_call 26; go_split_ands; (with_reducible refine (trow a n cap r c s k A _ (rows_at HX.out (by assumption))).mono ?_); rintro e w1 ⟨va, rfl, hva, gha⟩)
               | (go_at_call 26; go_split_ands; (with_reducible refine (trow a' n' cap' r' c' s' k B _ (rows_at HY.out (by assumption))).mono ?_); rintro e w2 ⟨vb, rfl, hvb, ghb⟩)
               | (go_at_call 25; go_split_ands; (with_reducible refine (tapart va vb _ _ _ (hva.mono ghb) hvb).mono ?_); rintro e w3 ⟨rfl, ghc⟩))
      go_split_ands
      go_wp2
      go_roundw
      case rel => exact ⟨k + 1, by omega, by go_num, by rw [HS.out]; go_num, keep_at (by assumption) ghc⟩
      case measure => simp [intOf]; omega
    · have hkm : k = n := by omega
      subst hkm
      go_wp2
      go_ret
      exact ⟨ret_int (by rw [R.out]), (((Below.refl _ _).alloc (Nat.le_refl _) _).alloc (by simp) _).trans (hbel.mono (by omega))⟩
set_option maxHeartbeats 1000000 in
theorem tdiffer_gt (a a' : Option Addr) (n cap n' cap' : Nat) (r c r' c' : Int) (s s' : Bool) (A B : List (List CellD)) (w : World) (hx : RowsV w a n cap A) (hy : RowsV w a' n' cap' B) (fx : Few A) (fy : Few B) (hlt : n < n') :
    Calls Try.prog 12 #[.agg #[.slice a n cap, .int .i64 r, .int .i64 c, .bool s], .agg #[.slice a' n' cap', .int .i64 r', .int .i64 c', .bool s']] w fun e w' => e = .returned (.int .i64 (differ A B : Nat)) ∧ Below w.heap.size w w' := by
  have e1 : n = A.length := hx.1
  have e2 : n' = B.length := hy.1
  have hn : n ≤ 30 := by have := fx.1; omega
  have hn' : n' ≤ 30 := by have := fy.1; omega
  have hle := apartAt_le fx fy
  have LE := Lib.hid hle
  have R : differ A B = sumTo (apartAt A B) n' := by
    have : max A.length B.length = n' := by omega
    rw [← this]; rfl
  have R := Lib.hid R
  have HX := Lib.hid hx
  have HY := Lib.hid hy
  clear e1 e2 hle hx hy fx fy
  go_enter Try.func12, Try.ntmps12
  go_wp2
  go_loopw [5, 14] (fun x i wr => ∃ k : Nat, k ≤ n' ∧ i = .int .i64 k ∧ x = .int .i64 (sumTo (apartAt A B) k : Nat) ∧ Below (w.heap.size + 2) (TwoBoxes w (.slice a n cap) (.int .i64 r) (.int .i64 c) (.bool s) (.slice a' n' cap') (.int .i64 r') (.int .i64 c') (.bool s')) wr) (fun _ i _ => n' - (intOf i).toNat)
  case atStart => exact ⟨0, Nat.zero_le _, rfl, rfl, Below.refl _ _⟩
  case round =>
    obtain ⟨k, hk, rfl, rfl, hbel⟩ := hrel
    by_cases hlt : k < n'
    · have hs1 := sumTo_le k LE.out
      have hs2 : apart (nth A k) (nth B k) ≤ 100 := LE.out k
      have hs3 : sumTo (apartAt A B) (k + 1) = sumTo (apartAt A B) k + apart (nth A k) (nth B k) := rfl
      have HS := Lib.hid hs3
      have hsz : w.heap.size + 2 ≤ wr.heap.size := by have := hbel.size; simpa using this
      have HB := Lib.hid hbel
      clear hs3 hbel
      have hwr : IntKind.i64.wrap ((sumTo (apartAt A B) k : Nat) + (apart (nth A k) (nth B k) : Nat)) = ((sumTo (apartAt A B) k : Nat) + (apart (nth A k) (nth B k) : Nat) : Int) := IntWalk.i64_in _ (by omega)
      go_wp2
      go_region_held3 (fun w' => Below (w.heap.size + 2) (TwoBoxes w (.slice a n cap) (.int .i64 r) (.int .i64 c) (.bool s) (.slice a' n' cap') (.int .i64 r') (.int .i64 c') (.bool s')) w' ∧
        (w'.cell? ⟨w.heap.size, 0, none⟩ = some (.slice a n cap) ∧ w'.cell? ⟨w.heap.size, 1, none⟩ = some (.int .i64 r) ∧ w'.cell? ⟨w.heap.size, 2, none⟩ = some (.int .i64 c) ∧ w'.cell? ⟨w.heap.size, 3, none⟩ = some (.bool s)) ∧
        (w'.cell? ⟨w.heap.size + 1, 0, none⟩ = some (.slice a' n' cap') ∧ w'.cell? ⟨w.heap.size + 1, 1, none⟩ = some (.int .i64 r') ∧ w'.cell? ⟨w.heap.size + 1, 2, none⟩ = some (.int .i64 c') ∧ w'.cell? ⟨w.heap.size + 1, 3, none⟩ = some (.bool s')))
        (first | exact ⟨HB.out.drew, box2 HB.out.drew⟩ | (go_split_ands; exact keep_all (by assumption) ghc) | (go_split_ands; exact keep_all (by assumption) ghb) | (go_split_ands; exact keep_all (by assumption) gha))
        (first | (go_at_call 26; go_split_ands; (with_reducible refine (trow a n cap r c s k A _ (rows_at HX.out (by assumption))).mono ?_); rintro e w1 ⟨va, rfl, hva, gha⟩)
               | (go_at_call 26; go_split_ands; (with_reducible refine (trow a' n' cap' r' c' s' k B _ (rows_at HY.out (by assumption))).mono ?_); rintro e w2 ⟨vb, rfl, hvb, ghb⟩)
               | (go_at_call 25; go_split_ands; (with_reducible refine (tapart va vb _ _ _ (hva.mono ghb) hvb).mono ?_); rintro e w3 ⟨rfl, ghc⟩))
      go_split_ands
      go_wp2
      go_roundw
      case rel => exact ⟨k + 1, by omega, by go_num, by rw [HS.out]; go_num, keep_at (by assumption) ghc⟩
      case measure => simp [intOf]; omega
    · have hkm : k = n' := by omega
      subst hkm
      go_wp2
      go_ret
      exact ⟨ret_int (by rw [R.out]), (((Below.refl _ _).alloc (Nat.le_refl _) _).alloc (by simp) _).trans (hbel.mono (by omega))⟩
theorem tdiffer (a a' : Option Addr) (n cap n' cap' : Nat) (r c r' c' : Int) (s s' : Bool) (A B : List (List CellD)) (w : World) (hx : RowsV w a n cap A) (hy : RowsV w a' n' cap' B) (fx : Few A) (fy : Few B) :
    Calls Try.prog 12 #[.agg #[.slice a n cap, .int .i64 r, .int .i64 c, .bool s], .agg #[.slice a' n' cap', .int .i64 r', .int .i64 c', .bool s']] w fun e w' => e = .returned (.int .i64 (differ A B : Nat)) ∧ Below w.heap.size w w' := by
  by_cases h : n' ≤ n
  · exact tdiffer_le _ _ _ _ _ _ _ _ _ _ _ _ _ _ _ hx hy fx fy h
  · exact tdiffer_gt _ _ _ _ _ _ _ _ _ _ _ _ _ _ _ hx hy fx fy (by omega)
end Go.Proofs.Ytcbdmaffcjdnbaa
