/- Walks: the reference's Differ. -/
import Derived.Test.YtcbdmaffcjdnbaaW3
namespace Go.Proofs.Ytcbdmaffcjdnbaa
open Go.RowKit
set_option maxHeartbeats 2000000 in
theorem rdiffer (a a' : Option Addr) (n cap n' cap' : Nat) (r c r' c' : Int) (s s' : Bool) (A B : List (List CellD)) (w : World) (hx : RowsV w a n cap A) (hy : RowsV w a' n' cap' B) (fx : Few A) (fy : Few B) :
    Calls Try.prog 11 #[.agg #[.slice a n cap, .int .i64 r, .int .i64 c, .bool s], .agg #[.slice a' n' cap', .int .i64 r', .int .i64 c', .bool s']] w fun e w' => e = .returned (.int .i64 (differ A B : Nat)) ∧ Below w.heap.size w w' := by
  have e1 : n = A.length := hx.1
  have e2 : n' = B.length := hy.1
  have hn : n ≤ 30 := by have := fx.1; omega
  have hn' : n' ≤ 30 := by have := fy.1; omega
  have hle := apartAt_le fx fy
  have LE := Lib.hid hle
  have FX := Lib.hid fx
  have FY := Lib.hid fy
  have R : ∀ M, n ≤ M → n' ≤ M → (M = n ∨ M = n') → differ A B = sumTo (apartAt A B) M := fun M h1 h2 h3 => by
    have : max A.length B.length = M := by omega
    rw [← this]; rfl
  have R := Lib.hid R
  have HX := Lib.hid hx
  have HY := Lib.hid hy
  clear e1 e2 hle hx hy fx fy
  go_enter Try.func11, Try.ntmps11
  go_wp2
  go_loopw [5, 6] (fun x i wr => ∃ k : Nat, (k ≤ n ∨ k ≤ n') ∧ i = .int .i64 k ∧ x = .int .i64 (sumTo (apartAt A B) k : Nat) ∧ Below (w.heap.size + 2) (TwoBoxes w (.slice a n cap) (.int .i64 r) (.int .i64 c) (.bool s) (.slice a' n' cap') (.int .i64 r') (.int .i64 c') (.bool s')) wr) (fun _ i _ => max n n' - (intOf i).toNat)
  case atStart => exact ⟨0, by omega, rfl, rfl, Below.refl _ _⟩
  case round =>
    obtain ⟨k, hk, rfl, rfl, hbel⟩ := hrel
    obtain ⟨wo, rfl⟩ : ∃ wo : World, wo = wr := ⟨_, rfl⟩
    have hbx := box2 hbel
    obtain ⟨⟨b0, b1, b2, b3⟩, ⟨b4, b5, b6, b7⟩⟩ := hbx
    have hsz : w.heap.size + 2 ≤ wo.heap.size := by have := hbel.size; simpa using this
    by_cases hlt : k < n ∨ k < n'
    · have hs1 := sumTo_le k LE.out
      have hs2 : apart (nth A k) (nth B k) ≤ 100 := LE.out k
      have hs3 : sumTo (apartAt A B) (k + 1) = sumTo (apartAt A B) k + apart (nth A k) (nth B k) := rfl
      have HS := Lib.hid hs3
      have HB := Lib.hid hbel
      clear hs3 hbel
      rcases (by omega : k < n ∨ (n ≤ k ∧ k < n')) with hc | ⟨hc, hc'⟩
      all_goals
        go_wp2
        go_region_held3 (fun w' => Below (w.heap.size + 2) (TwoBoxes w (.slice a n cap) (.int .i64 r) (.int .i64 c) (.bool s) (.slice a' n' cap') (.int .i64 r') (.int .i64 c') (.bool s')) w' ∧
          (w'.cell? ⟨w.heap.size, 0, none⟩ = some (.slice a n cap) ∧ w'.cell? ⟨w.heap.size, 1, none⟩ = some (.int .i64 r) ∧ w'.cell? ⟨w.heap.size, 2, none⟩ = some (.int .i64 c) ∧ w'.cell? ⟨w.heap.size, 3, none⟩ = some (.bool s)) ∧
          (w'.cell? ⟨w.heap.size + 1, 0, none⟩ = some (.slice a' n' cap') ∧ w'.cell? ⟨w.heap.size + 1, 1, none⟩ = some (.int .i64 r') ∧ w'.cell? ⟨w.heap.size + 1, 2, none⟩ = some (.int .i64 c') ∧ w'.cell? ⟨w.heap.size + 1, 3, none⟩ = some (.bool s')))
          (first | exact ⟨HB.out.drew, box2 HB.out.drew⟩ | (go_split_ands; exact keep_all (by assumption) ghb) | (go_split_ands; exact keep_all (by assumption) gha))
          (first | (go_at_call 24; go_split_ands; (with_reducible refine (rrow a n cap r c s k A _ (rows_at HX.out (by assumption))).mono ?_); rintro e w1 ⟨va, rfl, hva, gha⟩)
                 | (go_at_call 24; go_split_ands; (with_reducible refine (rrow a' n' cap' r' c' s' k B _ (rows_at HY.out (by assumption))).mono ?_); rintro e w2 ⟨vb, rfl, hvb, ghb⟩))
        obtain ⟨ax, nx, cx, rfl, hra⟩ := hva.mono ghb
        obtain ⟨ay, ny, cy, rfl, hrb⟩ := hvb
        go_split_ands
        have hw2 : Below (w.heap.size + 2) (TwoBoxes w (.slice a n cap) (.int .i64 r) (.int .i64 c) (.bool s) (.slice a' n' cap') (.int .i64 r') (.int .i64 c') (.bool s')) w2 := by assumption
        have hlx : nx = (nth A k).length := hra.1
        have hly : ny = (nth B k).length := hrb.1
        have hnx : nx ≤ 100 := by have := FX.out.2 k; omega
        have hny : ny ≤ 100 := by have := FY.out.2 k; omega
        have RI : ∀ M, nx ≤ M → ny ≤ M → (M = nx ∨ M = ny) → apart (nth A k) (nth B k) = cnt (dif (nth A k) (nth B k)) M := fun M h1 h2 h3 => by
          have : max (nth A k).length (nth B k).length = M := by omega
          rw [← this]; rfl
        have RI := Lib.hid RI
        have E1 := Lib.hid hlx
        have E2 := Lib.hid hly
        have HRA := Lib.hid hra
        have HRB := Lib.hid hrb
        have HW2 := Lib.hid hw2
        have hsz2 : w.heap.size + 2 ≤ w2.heap.size := by have := hw2.size; simpa using this
        clear hlx hly hra hrb hw2 hva gha ghb
        clear b0 b1 b2 b3 b4 b5 b6 b7
        go_wp2
        generalize nth A k = xs at *
        generalize nth B k = ys at *
        go_loopw [5, 9] (fun x i wr => ∃ j : Nat, (j ≤ nx ∨ j ≤ ny) ∧ i = .int .i64 j ∧ x = .int .i64 ((sumTo (apartAt A B) k : Nat) + (cnt (dif xs ys) j : Nat)) ∧ Below w2.heap.size w2 wr) (fun _ i _ => max nx ny - (intOf i).toNat)
        case atStart => exact ⟨0, by omega, rfl, by simp [cnt], Below.refl _ _⟩
        case round =>
          obtain ⟨j, hj, rfl, rfl, hbel⟩ := hrel
          have hcj := cnt_le (dif xs ys) j
          have hszr := hbel.size
          by_cases hjx : j < nx
          · by_cases hjy : j < ny
            · obtain ⟨b, off, rfl, hb, hc⟩ := HRA.out.2.2.2.2 (by omega)
              obtain ⟨b', off', rfl, hb', hc'⟩ := HRB.out.2.2.2.2 (by omega)
              obtain ⟨p0, p1, p2, p3, p4, p5, p6⟩ := (hc j (by omega)).mono hb (hbel)
              obtain ⟨q0, q1, q2, q3, q4, q5, q6⟩ := (hc' j (by omega)).mono hb' (hbel)
              clear hc hc'
              have hb1 : b < wr.heap.size := by omega
              have hb2 : b' < wr.heap.size := by omega
              have H := Lib.hid hbel
              clear hbel
              have d1 : decide (nx ≤ j) = false := by simp; omega
              have d2 : decide (ny ≤ j) = false := by simp; omega
              by_cases he : ys.getD j CellD.zero = xs.getD j CellD.zero
              · have HC := Lib.hid (cnt_same xs ys j (by rw [← E1.out]; omega) (by rw [← E2.out]; omega) he.symm)
                have ne := fun w' => neq_same w' he
                clear he
                generalize xs.getD j CellD.zero = c at *
                generalize ys.getD j CellD.zero = d at *
                go_wp2
                go_quiet (fail)
                go_wp2
                go_roundw
                case rel => exact ⟨j + 1, by omega, by go_num, by rw [HC.out], below_drewN H.out _⟩
                case measure => simp [intOf]; omega
              · have HC := Lib.hid (cnt_other xs ys j (by rw [← E1.out]; omega) (by rw [← E2.out]; omega) (Ne.symm he))
                have ne := fun w' => neq_other w' he
                clear he
                generalize xs.getD j CellD.zero = c at *
                generalize ys.getD j CellD.zero = d at *
                go_wp2
                go_quiet (fail)
                go_wp2
                go_roundw
                case rel => exact ⟨j + 1, by omega, by go_num, by rw [HC.out]; go_num, below_drewN H.out _⟩
                case measure => simp [intOf]; omega
            · have HC := Lib.hid (cnt_out xs ys j (by rw [← E1.out, ← E2.out]; omega) (by rw [← E1.out, ← E2.out]; omega))
              have H := Lib.hid hbel
              clear hbel
              have d1 : decide (nx ≤ j) = false := by simp; omega
              have d2 : decide (ny ≤ j) = true := by simp; omega
              go_wp2
              go_quiet (fail)
              go_wp2
              go_roundw
              case rel => exact ⟨j + 1, by omega, by go_num, by rw [HC.out]; go_num, below_drewN H.out _⟩
              case measure => simp [intOf]; omega
          · by_cases hjy : j < ny
            · have HC := Lib.hid (cnt_out xs ys j (by rw [← E1.out, ← E2.out]; omega) (by rw [← E1.out, ← E2.out]; omega))
              have H := Lib.hid hbel
              clear hbel
              have d1 : decide (nx ≤ j) = true := by simp; omega
              go_wp2
              go_quiet (fail)
              go_wp2
              go_roundw
              case rel => exact ⟨j + 1, by omega, by go_num, by rw [HC.out]; go_num, below_drewN H.out _⟩
              case measure => simp [intOf]; omega
            · have hr1 := RI.out j (by omega) (by omega) (by omega)
              have HR1 := Lib.hid hr1
              have H := Lib.hid hbel
              clear hbel hr1
              go_wp2
              go_roundw
              case rel => exact ⟨k + 1, by omega, by go_num, by rw [HS.out, HR1.out]; go_num, HW2.out.trans (H.out.mono hsz2)⟩
              case measure => simp [intOf]; omega
    · have R1 := R.out k (by omega) (by omega) (by omega)
      have R2 := Lib.hid R1
      clear R1
      go_wp2
      go_ret
      exact ⟨ret_int (by rw [R2.out]), (((Below.refl _ _).alloc (Nat.le_refl _) _).alloc (by simp) _).trans (hbel.mono (by omega))⟩
end Go.Proofs.Ytcbdmaffcjdnbaa
