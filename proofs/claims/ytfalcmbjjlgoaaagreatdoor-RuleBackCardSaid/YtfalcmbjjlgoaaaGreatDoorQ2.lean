/- Walks: the reader's small steps: isDigit, isLetter, digits, number, sign, is. -/
import Derived.Test.YtfalcmbjjlgoaaaGreatDoorQ1
import Derived.Test.YtfalcmbjjlgoaaaGreatDoorH9
namespace Go.Proofs.YtfalcmbjjlgoaaaGreatDoor
open Go.RowKit Go.Shelf
/-- The reader in memory. -/
def Rd (w : World) (r : Nat) (s : Bs) (a : Nat) (k : Nat) (g : Bs) : Prop := w.heap[r]? = some (.cells #[.string (tx s), .int .i64 a, .int .i64 k, .string (tx g)] 66 (0, 0))
theorem Rd.cells {w : World} {r : Nat} {s : Bs} {a k : Nat} {g : Bs} (h : Rd w r s a k g) : w.cell? ⟨r, 0, none⟩ = some (.string (tx s)) ∧ w.cell? ⟨r, 1, none⟩ = some (.int .i64 a) ∧ w.cell? ⟨r, 2, none⟩ = some (.int .i64 k) ∧ w.cell? ⟨r, 3, none⟩ = some (.string (tx g)) ∧ (∀ j, w.frozen? ⟨r, j, none⟩ = false) ∧ r < w.heap.size := by
  unfold Rd at h
  exact ⟨by simp [World.cell?, h], by simp [World.cell?, h], by simp [World.cell?, h], by simp [World.cell?, h], fun j => by simp [World.frozen?, h], (Array.getElem?_eq_some_iff.1 h).1⟩
theorem Rd.at {w : World} {r : Nat} {s : Bs} {a k : Nat} {g : Bs} (h : Rd w r s a k g) (b : Nat) : Rd (w.setCell ⟨r, 1, none⟩ (.int .i64 b)) r s b k g := set_block h _
theorem Rd.kind {w : World} {r : Nat} {s : Bs} {a k : Nat} {g : Bs} (h : Rd w r s a k g) (b : Nat) : Rd (w.setCell ⟨r, 2, none⟩ (.int .i64 b)) r s a b g := set_block h _
theorem Rd.got {w : World} {r : Nat} {s : Bs} {a k : Nat} {g : Bs} (h : Rd w r s a k g) (b : Bs) : Rd (w.setCell ⟨r, 3, none⟩ (.string (tx b))) r s a k b := set_block h _
theorem But.cell {r : Nat} {w w' : World} (h : But [r] w w') (o : Nat) (v : Value) : But [r] w (w'.setCell ⟨r, o, none⟩ v) := h.set _ _ (by simp)
theorem But.drewN {l : List Nat} {w w' : World} (h : But l w w') (n : Nat) : But l w (w'.drewN n) := ⟨h.os, h.tape, h.output, h.size, h.block⟩
theorem Rd.drewN {w : World} {r : Nat} {s : Bs} {a k : Nat} {g : Bs} (h : Rd w r s a k g) (n : Nat) : Rd (w.drewN n) r s a k g := h
theorem Rd.drew {w : World} {r : Nat} {s : Bs} {a k : Nat} {g : Bs} (h : Rd w r s a k g) : Rd w.drew r s a k g := h
theorem digit_dec (c : UInt8) : isDig c = decide (48 ≤ (c.toNat : Int) ∧ (c.toNat : Int) ≤ 57) := by
  unfold isDig
  rw [Bool.eq_iff_iff]
  simp [UInt8.le_iff_toNat_le]
  omega
theorem let_dec (c : UInt8) : isLet c = decide (97 ≤ (c.toNat : Int) ∧ (c.toNat : Int) ≤ 122) := by
  unfold isLet
  rw [Bool.eq_iff_iff]
  simp [UInt8.le_iff_toNat_le]
  omega
theorem wisDigit (c : UInt8) (w : World) : Calls Tryz.prog 51 #[.int .u8 (c.toNat : Int)] w fun e w' => e = .returned (.bool (isDig c)) ∧ w = w' := by
  have hc := c.toNat_lt
  rw [digit_dec]
  by_cases h1 : 48 ≤ (c.toNat : Int)
  · by_cases h2 : (c.toNat : Int) ≤ 57
    · go_enter Tryz.func51, Tryz.ntmps51
      go_wp2
      go_ret
      exact ⟨by rw [decide_eq_true ⟨h1, h2⟩]; rfl, rfl⟩
    · go_enter Tryz.func51, Tryz.ntmps51
      go_wp2
      go_ret
      exact ⟨by rw [decide_eq_false (by omega)]; rfl, rfl⟩
  · go_enter Tryz.func51, Tryz.ntmps51
    go_wp2
    go_ret
    exact ⟨by rw [decide_eq_false (by omega)]; rfl, rfl⟩
theorem wisLetter (c : UInt8) (w : World) : Calls Tryz.prog 53 #[.int .u8 (c.toNat : Int)] w fun e w' => e = .returned (.bool (isLet c)) ∧ w = w' := by
  have hc := c.toNat_lt
  rw [let_dec]
  by_cases h1 : 97 ≤ (c.toNat : Int)
  · by_cases h2 : (c.toNat : Int) ≤ 122
    · go_enter Tryz.func53, Tryz.ntmps53
      go_wp2
      go_ret
      exact ⟨by rw [decide_eq_true ⟨h1, h2⟩]; rfl, rfl⟩
    · go_enter Tryz.func53, Tryz.ntmps53
      go_wp2
      go_ret
      exact ⟨by rw [decide_eq_false (by omega)]; rfl, rfl⟩
  · go_enter Tryz.func53, Tryz.ntmps53
    go_wp2
    go_ret
    exact ⟨by rw [decide_eq_false (by omega)]; rfl, rfl⟩
theorem takeWhile_at (p : UInt8 → Bool) (l : Bs) (j : Nat) (hj : j ≤ (l.takeWhile p).length) (hlt : j < l.length) : (p (l.getD j 0) = true → j + 1 ≤ (l.takeWhile p).length) ∧ (p (l.getD j 0) = false → j = (l.takeWhile p).length) := by
  induction l generalizing j with
  | nil => simp at hlt
  | cons c t ih =>
    cases j with
    | zero =>
      simp only [List.getD_cons_zero, List.takeWhile_cons]
      constructor
      · intro h; rw [if_pos h]; simp
      · intro h; rw [if_neg (by simp [h])]; rfl
    | succ j =>
      simp only [List.getD_cons_succ]
      by_cases hc : p c = true
      · simp only [List.takeWhile_cons, hc, if_true, List.length_cons] at hj ⊢
        have := ih j (by omega) (by simpa using hlt)
        exact ⟨fun h => by have := this.1 h; omega, fun h => by have := this.2 h; omega⟩
      · simp only [List.takeWhile_cons, hc] at hj
        simp at hj
theorem takeWhile_le (p : UInt8 → Bool) (l : Bs) : (l.takeWhile p).length ≤ l.length := by
  induction l with
  | nil => simp
  | cons c t ih => simp only [List.takeWhile_cons]; split <;> simp <;> omega
theorem getD_drop (l : Bs) (a j : Nat) : (l.drop a).getD j 0 = l.getD (a + j) 0 := by
  simp [List.getD_eq_getElem?_getD]
theorem tx_at (l : Bs) (i : Nat) (h : i < l.length) : (tx l)[i]'(by simpa [tx, ByteArray.size] using h) = l.getD i 0 := by
  rw [List.getD_eq_getElem?_getD, List.getElem?_eq_getElem h]
  simp [tx]
  rfl
theorem quiet_eq {P : Program} {f : FuncId} {args : Array Value} {w : World} {n : Nat} {v : Value} (h : Calls P f args (w.drewN n) fun e w' => e = .returned v ∧ w.drewN n = w') : Calls P f args (w.drewN n) fun e w'' => e = .returned v ∧ ∃ m, w'' = w.drewN m :=
  h.mono fun _ _ ⟨he, hm⟩ => ⟨he, n, hm.symm⟩
set_option maxRecDepth 100000 in
set_option maxHeartbeats 2000000 in
theorem wdigits (r : Nat) (s : Bs) (a k : Nat) (g : Bs) (hs : s.length ≤ 1000000) (ha : a ≤ s.length) (w : World) (h : Rd w r s a k g) :
    Calls Tryz.prog 76 #[.pointer (some ⟨r, 0, none⟩)] w fun e w' => e = .returned (.int .i64 (cntDig (s.drop a))) ∧ Rd w' r s (a + cntDig (s.drop a)) k g ∧ But [r] w w' := by
  have hsz : (tx s).size = s.length := by simp [tx, ByteArray.size]
  have HS := Lib.hid hsz
  have HCL := Lib.hid (show cntDig (s.drop a) ≤ s.length - a by have := takeWhile_le isDig (s.drop a); simpa [cntDig] using this)
  have HR := Lib.hid h
  obtain ⟨c0, c1, c2, c3, fr, hlt⟩ := h.cells
  clear h hsz
  go_enter Tryz.func76, Tryz.ntmps76
  go_wp2_with fail
  clear c0 c1 c2 c3 fr
  go_loopg [] (s.length - a) (fun n wr => ∃ p : Nat, a ≤ p ∧ p + n = s.length ∧ p - a ≤ cntDig (s.drop a) ∧ Hid (Rd wr r s p k g) ∧ Hid (But [r] w wr))
  case atStart => exact ⟨a, by omega, by omega, by omega, HR, Lib.hid (But.refl _ _)⟩
  case round =>
    obtain ⟨p, hap, hp, hc, HR1, HB1⟩ := hrel
    obtain ⟨c0, c1, c2, c3, fr, hlt⟩ := HR1.out.cells
    have f1 := fr 1
    clear fr c2 c3
    have HPA := Lib.hid (show a + (p - a) = p by omega)
    by_cases q1 : p < (tx s).size
    · have q1' : p < s.length := by have := HS.out; omega
      have HA := Lib.hid (takeWhile_at isDig (s.drop a) (p - a) hc (by simp; omega))
      rw [getD_drop, HPA.out] at HA
      have HX := Lib.hid (tx_at s p q1')
      cases q2 : isDig (s.getD p 0)
      · have HD : Hid (∀ W, Calls Tryz.prog 51 #[.int .u8 (((tx s)[p]'q1).toNat : Int)] W fun e w' => e = .returned (.bool false) ∧ W = w') := Lib.hid (fun W => by rw [HX.out, ← q2]; exact wisDigit _ W)
        have HV := Lib.hid (HA.out.2 q2)
        clear q2 HA
        go_wp2_with fail
        go_quiet ((go_at_call 51; exact quiet_eq (HD.out _)))
        go_wp2
        go_ret
        have e : cntDig (s.drop a) = p - a := HV.out.symm
        rw [e, HPA.out]
        exact ⟨ret_int (by omega), HR1.out.drewN _, HB1.out.drewN _⟩
      · have HD : Hid (∀ W, Calls Tryz.prog 51 #[.int .u8 (((tx s)[p]'q1).toNat : Int)] W fun e w' => e = .returned (.bool true) ∧ W = w') := Lib.hid (fun W => by rw [HX.out, ← q2]; exact wisDigit _ W)
        have HV := Lib.hid (HA.out.1 q2)
        clear q2 HA
        go_wp2_with fail
        go_quiet ((go_at_call 51; exact quiet_eq (HD.out _)))
        go_wp2
        go_roundg (gk - 1)
        case measure => omega
        case rel => exact ⟨p + 1, by omega, by omega, by have : p - a + 1 ≤ cntDig (s.drop a) := HV.out; omega, Lib.hid ((HR1.out.drewN _).at (p + 1)), Lib.hid ((HB1.out.drewN _).cell _ _)⟩
    · have q1' : ¬ p < s.length := by have := HS.out; omega
      have HV := Lib.hid (show cntDig (s.drop a) = p - a by have := HCL.out; omega)
      go_wp2_with fail
      go_quiet (fail)
      go_wp2
      go_ret
      rw [HV.out, HPA.out]
      exact ⟨ret_int (by omega), HR1.out.drewN _, HB1.out.drewN _⟩
end Go.Proofs.YtfalcmbjjlgoaaaGreatDoor
