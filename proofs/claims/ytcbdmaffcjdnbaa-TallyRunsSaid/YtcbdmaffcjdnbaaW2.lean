/- Walks: two rows held against each other. -/
import Derived.Test.YtcbdmaffcjdnbaaW1
namespace Go.Proofs.Ytcbdmaffcjdnbaa
open Go.RowKit
theorem eqIn_style (n : Nat) (w : World) (a b c a' b' c' : Bool) (f g f' g' : Int) : (Op.equalIn (n + 2) 68 (.agg #[.bool a, .bool b, .bool c, .int .i64 f, .int .i64 g]) (.agg #[.bool a', .bool b', .bool c', .int .i64 f', .int .i64 g'])).run Try.prog w
   = .ok ((a == a') && ((b == b') && ((c == c') && ((f == f') && ((g == g') && true))))) w := by
  rw [run_equalIn_agg _ _ _ _ _ (by kernel_rfl) (by kernel_rfl)]
  have e : (Try.prog.fieldsOf 68).toList = [⟨"Bold", 4, 0, false, "", "", 0⟩, ⟨"Under", 4, 1, false, "", "", 1⟩, ⟨"Inverse", 4, 2, false, "", "", 2⟩, ⟨"Fg", 3, 3, false, "", "", 8⟩, ⟨"Bg", 3, 4, false, "", "", 16⟩] := by kernel_rfl
  rw [e]
  refine eqFields_cons (by decide) (a := .bool a) (b := .bool a') (by kernel_rfl) (by kernel_rfl) (by simp [go_sem]) ?_
  refine eqFields_cons (by decide) (a := .bool b) (b := .bool b') (by kernel_rfl) (by kernel_rfl) (by simp [go_sem]) ?_
  refine eqFields_cons (by decide) (a := .bool c) (b := .bool c') (by kernel_rfl) (by kernel_rfl) (by simp [go_sem]) ?_
  refine eqFields_cons (by decide) (a := .int .i64 f) (b := .int .i64 f') (by kernel_rfl) (by kernel_rfl) (by simp [go_sem]) ?_
  exact eqFields_cons (by decide) (a := .int .i64 g) (b := .int .i64 g') (by kernel_rfl) (by kernel_rfl) (by simp [go_sem]) eqFields_nil
theorem eqIn_cell (n : Nat) (w : World) (c d : CellD) : (Op.equalIn (n + 3) 70 (.agg #[.string c.s, .int .i64 c.w, .bool c.y0, .bool c.y1, .bool c.y2, .int .i64 c.f, .int .i64 c.g]) (.agg #[.string d.s, .int .i64 d.w, .bool d.y0, .bool d.y1, .bool d.y2, .int .i64 d.f, .int .i64 d.g])).run Try.prog w
   = .ok (decide (c = d)) w := by
  rw [run_equalIn_agg _ _ _ _ _ (by kernel_rfl) (by kernel_rfl)]
  have e : (Try.prog.fieldsOf 70).toList = [⟨"S", 9, 0, false, "", "", 0⟩, ⟨"W", 3, 1, false, "", "", 16⟩, ⟨"Y", 68, 2, false, "", "", 24⟩] := by kernel_rfl
  rw [e]
  have hd : decide (c = d) = ((c.s.toList == d.s.toList) && ((c.w == d.w) && (((c.y0 == d.y0) && ((c.y1 == d.y1) && ((c.y2 == d.y2) && ((c.f == d.f) && ((c.g == d.g) && true))))) && true))) := by
    rw [beq_bytes, Bool.eq_iff_iff]
    obtain ⟨c0, c1, c2, c3, c4, c5, c6⟩ := c
    obtain ⟨d0, d1, d2, d3, d4, d5, d6⟩ := d
    simp
  rw [hd]
  refine eqFields_cons (by decide) (a := .string c.s) (b := .string d.s) (by kernel_rfl) (by kernel_rfl) (by simp [go_sem]) ?_
  refine eqFields_cons (by decide) (a := .int .i64 c.w) (b := .int .i64 d.w) (by kernel_rfl) (by kernel_rfl) (by simp [go_sem]) ?_
  exact eqFields_cons (by decide) (a := .agg #[.bool c.y0, .bool c.y1, .bool c.y2, .int .i64 c.f, .int .i64 c.g]) (b := .agg #[.bool d.y0, .bool d.y1, .bool d.y2, .int .i64 d.f, .int .i64 d.g]) (by kernel_rfl) (by kernel_rfl) (eqIn_style n w ..) eqFields_nil
theorem neq_cell (w : World) (c d : CellD) : (binOp .neq 70 (.agg #[.string c.s, .int .i64 c.w, .bool c.y0, .bool c.y1, .bool c.y2, .int .i64 c.f, .int .i64 c.g]) (.agg #[.string d.s, .int .i64 d.w, .bool d.y0, .bool d.y1, .bool d.y2, .int .i64 d.f, .int .i64 d.g])).run Try.prog w
   = .ok (.bool (decide (c ≠ d))) w := by
  rw [run_neq_struct]
  have := eqIn_cell 9997 w c d
  rw [this]
  simp

theorem neq_same (w : World) {c d : CellD} (h : c = d) : (binOp .neq 70 (.agg #[.string d.s, .int .i64 d.w, .bool d.y0, .bool d.y1, .bool d.y2, .int .i64 d.f, .int .i64 d.g]) (.agg #[.string c.s, .int .i64 c.w, .bool c.y0, .bool c.y1, .bool c.y2, .int .i64 c.f, .int .i64 c.g])).run Try.prog w
   = .ok (.bool false) w := by rw [neq_cell w d c]; simp [h]
theorem neq_other (w : World) {c d : CellD} (h : c ≠ d) : (binOp .neq 70 (.agg #[.string d.s, .int .i64 d.w, .bool d.y0, .bool d.y1, .bool d.y2, .int .i64 d.f, .int .i64 d.g]) (.agg #[.string c.s, .int .i64 c.w, .bool c.y0, .bool c.y1, .bool c.y2, .int .i64 c.f, .int .i64 c.g])).run Try.prog w
   = .ok (.bool true) w := by rw [neq_cell w d c]; simp [Ne.symm h]

set_option maxHeartbeats 400000 in
theorem tapart_le (a a' : Option Addr) (n cap n' cap' : Nat) (xs ys : List CellD) (w : World) (hx : RowV w a n cap xs) (hy : RowV w a' n' cap' ys) (hle : n' ≤ n) :
    Calls Try.prog 25 #[.slice a n cap, .slice a' n' cap'] w fun e w' => e = .returned (.int .i64 (apart xs ys : Nat)) ∧ Below w.heap.size w w' := by
  obtain ⟨hx1, hx2, hx3, _, hx5⟩ := hx
  obtain ⟨hy1, hy2, hy3, _, hy5⟩ := hy
  have hn : n ≤ 9223372036854775807 := by omega
  have hn' : n' ≤ 9223372036854775807 := by omega
  have R := Lib.hid (apart_long xs ys (by omega))
  have E1 := Lib.hid hx1
  have E2 := Lib.hid hy1
  clear hx1 hy1 hx2 hx3 hy2 hy3
  have Hx := Lib.hid hx5
  have Hy := Lib.hid hy5
  clear hx5 hy5
  go_enter Try.func25, Try.ntmps25
  go_wp2
  go_loopw [5, 22] (fun x i wr => ∃ k : Nat, k ≤ n' ∧ i = .int .i64 k ∧ x = .int .i64 ((n : Int) - n' + (cnt (dif xs ys) k : Nat)) ∧ Below w.heap.size w wr) (fun _ i _ => n' - (intOf i).toNat)
  case atStart => exact ⟨0, Nat.zero_le _, rfl, by simp [cnt], Below.refl _ _⟩
  case round => 
    obtain ⟨k, hk, rfl, rfl, hbel⟩ := hrel
    have hck := cnt_le (dif xs ys) k
    by_cases hlt : k < n'
    · have hsz := hbel.size
      obtain ⟨b, off, rfl, hb, hc⟩ := Hx.out (by omega)
      obtain ⟨b', off', rfl, hb', hc'⟩ := Hy.out (by omega)
      obtain ⟨p0, p1, p2, p3, p4, p5, p6⟩ := (hc k (by omega)).mono hb (hbel)
      obtain ⟨q0, q1, q2, q3, q4, q5, q6⟩ := (hc' k (by omega)).mono hb' (hbel)
      clear hc hc'
      have hb1 : b < wr.heap.size := by omega
      have hb2 : b' < wr.heap.size := by omega
      have H := Lib.hid hbel
      clear hbel
      have hi1 : (k : Int) < (n : Int) := by omega
      by_cases he : xs.getD k CellD.zero = ys.getD k CellD.zero
      · have HC := Lib.hid (cnt_same xs ys k (by rw [← E1.out]; omega) (by rw [← E2.out]; omega) he)
        have ne := fun w' => neq_same w' he
        clear he
        generalize xs.getD k CellD.zero = c at *
        generalize ys.getD k CellD.zero = d at *
        go_wp2
        go_quiet (fail)
        go_wp2
        go_roundw
        case rel => exact ⟨k + 1, by omega, by go_num, by rw [HC.out], below_drewN (H.out.trans ((Below.refl _ _).alloc (by omega) _)) _⟩
        case measure => simp [intOf]; omega
      · have HC := Lib.hid (cnt_other xs ys k (by rw [← E1.out]; omega) (by rw [← E2.out]; omega) he)
        have ne := fun w' => neq_other w' he
        clear he
        generalize xs.getD k CellD.zero = c at *
        generalize ys.getD k CellD.zero = d at *
        go_wp2
        go_quiet (fail)
        go_wp2
        go_roundw
        case rel => exact ⟨k + 1, by omega, by go_num, by rw [HC.out]; go_num, below_drewN (H.out.trans ((Below.refl _ _).alloc (by omega) _)) _⟩
        case measure => simp [intOf]; omega
    · have hkn : k = n' := by omega
      subst hkn
      go_wp2
      go_ret
      have R1 := R.out
      rw [← E1.out, ← E2.out] at R1
      exact ⟨ret_int (by rw [R1]; omega), hbel⟩
set_option maxHeartbeats 400000 in
theorem tapart_gt (a a' : Option Addr) (n cap n' cap' : Nat) (xs ys : List CellD) (w : World) (hx : RowV w a n cap xs) (hy : RowV w a' n' cap' ys) (hlt : n < n') :
    Calls Try.prog 25 #[.slice a n cap, .slice a' n' cap'] w fun e w' => e = .returned (.int .i64 (apart xs ys : Nat)) ∧ Below w.heap.size w w' := by
  obtain ⟨hx1, hx2, hx3, _, hx5⟩ := hx
  obtain ⟨hy1, hy2, hy3, _, hy5⟩ := hy
  have hn : n ≤ 9223372036854775807 := by omega
  have hn' : n' ≤ 9223372036854775807 := by omega
  have R := Lib.hid ((apart_comm xs ys).trans (apart_long ys xs (by omega)))
  have E1 := Lib.hid hx1
  have E2 := Lib.hid hy1
  clear hx1 hy1 hx2 hx3 hy2 hy3
  have Hx := Lib.hid hx5
  have Hy := Lib.hid hy5
  clear hx5 hy5
  go_enter Try.func25, Try.ntmps25
  go_wp2
  go_loopw [5, 22] (fun x i wr => ∃ k : Nat, k ≤ n ∧ i = .int .i64 k ∧ x = .int .i64 ((n' : Int) - n + (cnt (dif ys xs) k : Nat)) ∧ Below w.heap.size w wr) (fun _ i _ => n - (intOf i).toNat)
  case atStart => exact ⟨0, Nat.zero_le _, rfl, by simp [cnt], Below.refl _ _⟩
  case round => 
    obtain ⟨k, hk, rfl, rfl, hbel⟩ := hrel
    have hck := cnt_le (dif ys xs) k
    by_cases hkn : k < n
    · have hsz := hbel.size
      obtain ⟨b, off, rfl, hb, hc⟩ := Hx.out (by omega)
      obtain ⟨b', off', rfl, hb', hc'⟩ := Hy.out (by omega)
      obtain ⟨p0, p1, p2, p3, p4, p5, p6⟩ := (hc k (by omega)).mono hb (hbel)
      obtain ⟨q0, q1, q2, q3, q4, q5, q6⟩ := (hc' k (by omega)).mono hb' (hbel)
      clear hc hc'
      have hb1 : b < wr.heap.size := by omega
      have hb2 : b' < wr.heap.size := by omega
      have H := Lib.hid hbel
      clear hbel
      have hi1 : (k : Int) < (n' : Int) := by omega
      by_cases he : ys.getD k CellD.zero = xs.getD k CellD.zero
      · have HC := Lib.hid (cnt_same ys xs k (by rw [← E2.out]; omega) (by rw [← E1.out]; omega) he)
        have ne := fun w' => neq_same w' he
        clear he
        generalize xs.getD k CellD.zero = c at *
        generalize ys.getD k CellD.zero = d at *
        go_wp2
        go_quiet (fail)
        go_wp2
        go_roundw
        case rel => exact ⟨k + 1, by omega, by go_num, by rw [HC.out], below_drewN (H.out.trans ((Below.refl _ _).alloc (by omega) _)) _⟩
        case measure => simp [intOf]; omega
      · have HC := Lib.hid (cnt_other ys xs k (by rw [← E2.out]; omega) (by rw [← E1.out]; omega) he)
        have ne := fun w' => neq_other w' he
        clear he
        generalize xs.getD k CellD.zero = c at *
        generalize ys.getD k CellD.zero = d at *
        go_wp2
        go_quiet (fail)
        go_wp2
        go_roundw
        case rel => exact ⟨k + 1, by omega, by go_num, by rw [HC.out]; go_num, below_drewN (H.out.trans ((Below.refl _ _).alloc (by omega) _)) _⟩
        case measure => simp [intOf]; omega
    · have hkn : k = n := by omega
      subst hkn
      go_wp2
      go_ret
      have R1 := R.out
      rw [← E1.out, ← E2.out] at R1
      exact ⟨ret_int (by rw [R1]; omega), hbel⟩
theorem tapart (v v' : Value) (xs ys : List CellD) (w : World) (hx : RowVal w v xs) (hy : RowVal w v' ys) :
    Calls Try.prog 25 #[v, v'] w fun e w' => e = .returned (.int .i64 (apart xs ys : Nat)) ∧ Below w.heap.size w w' := by
  obtain ⟨a, n, cap, rfl, hx⟩ := hx
  obtain ⟨a', n', cap', rfl, hy⟩ := hy
  by_cases hle : n' ≤ n
  · exact tapart_le _ _ _ _ _ _ _ _ _ hx hy hle
  · exact tapart_gt _ _ _ _ _ _ _ _ _ hx hy (by omega)
end Go.Proofs.Ytcbdmaffcjdnbaa
