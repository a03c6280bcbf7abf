/- Walks: code (the program's), begins (the reference's). -/
import Derived.Test.YthkcfdnenbboaaaK10
namespace Go.Proofs.Ythkcfdnenbboaaa
open Go.RowKit Go.Shelf
theorem mkS_size (l : List UInt8) : (mkS l).size = l.length := by simp [mkS, ByteArray.size]
theorem mkS_inj {a b : List UInt8} : mkS a = mkS b ↔ a = b := by
  constructor
  · intro h
    have := congrArg (fun x : ByteArray => x.data.toList) h
    simpa [mkS] using this
  · intro h; rw [h]
theorem mkS_beq (a b : List UInt8) : ((mkS a).toList == (mkS b).toList) = decide (a = b) := by
  rw [beq_bytes, Bool.eq_iff_iff]; simp [mkS_inj]
theorem fn_app (n : Nat) : (⟨#[102]⟩ : ByteArray) ++ numS n = mkS (fnL n) := by
  have := mkS_app [102] (numS n)
  exact this
theorem idx_bd (l : List ByteArray) (x : ByteArray) : -1 ≤ Lib.idxOfS l x ∧ Lib.idxOfS l x ≤ l.length := by
  by_cases h : ∃ j, j < l.length ∧ l.getD j ByteArray.empty = x
  · obtain ⟨k, hk, hk1, hk2⟩ : ∃ k, k < l.length ∧ l.getD k ByteArray.empty = x ∧ ∀ j, j < k → l.getD j ByteArray.empty ≠ x := by
      obtain ⟨j, h1, h2⟩ := h
      induction j using Nat.strongRecOn with
      | ind j ih =>
        by_cases q : ∃ i, i < j ∧ l.getD i ByteArray.empty = x
        · obtain ⟨i, a, b⟩ := q
          exact ih i a (by omega) b
        · exact ⟨j, h1, h2, fun i hi e => q ⟨i, hi, e⟩⟩
    have := Lib.idxOfS_hit l l.length k x hk (Nat.le_refl _) hk1 hk2
    rw [List.take_length] at this
    rw [this]; omega
  · have := Lib.idxOfS_miss l l.length x (fun j hj e => h ⟨j, hj, e⟩)
    rw [List.take_length] at this
    rw [this]; omega
theorem getD_getElem {l : List ByteArray} {j : Nat} (h : j < l.length) (d : ByteArray) : l[j]? = some (l.getD j d) := by simp [List.getD, h]
set_option maxRecDepth 100000 in
set_option maxHeartbeats 2000000 in
theorem wcode (s : List UInt8) (w : World) : Calls Try.prog 38 #[.string (mkS s)] w fun e w' => e = .returned (.tuple #[.int .i64 (codeN s).1, .int .i64 (codeN s).2]) ∧ Below w.heap.size w w' := by
  have hz := mkS_size s
  have HZ := Lib.hid hz
  clear hz
  go_enter Try.func38, Try.ntmps38
  go_wp2_with fail
  go_loopw [4] (fun i wr => ∃ n : Nat, 1 ≤ n ∧ n ≤ 13 ∧ i = .int .i64 n ∧ Hid (∀ i, 1 ≤ i → i < n → s ≠ fnL i) ∧ Below w.heap.size w wr) (fun i _ => 13 - (intOf i).toNat)
  case atStart => exact ⟨1, by omega, by omega, rfl, Lib.hid (fun i a b => by omega), Below.refl _ _⟩
  case round =>
    obtain ⟨n, hn1, hn2, rfl, HN, hbel⟩ := hrel
    have HB := Lib.hid hbel
    clear hbel
    by_cases hlt : n ≤ 12
    · have HW := Lib.hid (fun W => wtwelve n (by omega) W)
      have z1 : (⟨#[102]⟩ : ByteArray).size ≤ 1 := by decide
      have z2 := numS_size n
      have e1 := fn_app n
      by_cases hq : s = fnL n
      · have t1 : ((mkS s).toList == (mkS (fnL n)).toList) = true := by rw [mkS_beq]; simp [hq]
        have HQ := Lib.hid hq
        clear hq
        go_wp2_with (first | (go_at_call 45; fail))
        go_at_call 45
        refine (HW.out _).mono ?_
        rintro e w1 ⟨rfl, hb⟩
        have HB1 := Lib.hid hb
        clear hb
        go_wp2
        go_ret2
        refine ⟨?_, HB.out.trans (below_le HB1.out HB.out.size)⟩
        rw [codeN_hit ⟨hn1, hlt⟩ HQ.out HN.out]
        rfl
      · have t1 : ((mkS s).toList == (mkS (fnL n)).toList) = false := by rw [mkS_beq]; simp [hq]
        have HQ := Lib.hid hq
        clear hq
        go_wp2_with (first | (go_at_call 45; fail))
        go_at_call 45
        refine (HW.out _).mono ?_
        rintro e w1 ⟨rfl, hb⟩
        have HB1 := Lib.hid hb
        clear hb
        go_wp2
        go_roundw
        case rel => exact ⟨n + 1, by omega, by omega, by go_num, Lib.hid (fun i a b => by rcases Nat.lt_or_ge i n with q | q <;> first | exact HN.out i a q | (obtain rfl : i = n := by omega); exact HQ.out), HB.out.trans (below_le HB1.out HB.out.size)⟩
        case measure => simp [intOf]; omega
    · have hn : n = 13 := by omega
      subst hn
      go_wp2_with (first | (go_at_call 44; fail))
      go_at_call 44
      refine (wcodes _).mono ?_
      rintro e w1 hm
      have HB1 := Lib.hid hm.below
      have hc := hm.cell
      have he := hm.1
      clear hm
      subst he
      have HI := Lib.hid (Try.slices_Index_string wr.heap.size 0 18 18 codesL (mkS s) w1 (by decide) (by omega) (fun j hj => by rw [Nat.zero_add, hc j, getD_getElem hj ByteArray.empty]; rfl))
      clear hc
      have hl : codesL.length = 18 := rfl
      rw [hl]
      go_wp2_with (first | (go_at_call 52; fail))
      go_at_call 52
      refine HI.out.mono ?_
      rintro e w2 ⟨rfl, rfl⟩
      have hi1 := (idx_bd (codesL.take 18) (mkS s)).1
      have hi2 : Lib.idxOfS (codesL.take 18) (mkS s) ≤ 18 := (idx_bd (codesL.take 18) (mkS s)).2
      go_wp2
      go_ret2
      refine ⟨?_, HB.out.trans (below_le HB1.out HB.out.size)⟩
      rw [codeN_miss (fun i a b => HN.out i a (by omega))]
      rfl
set_option maxHeartbeats 800000 in
theorem wbegins (s p : ByteArray) (w : World) : Calls Try.prog 39 #[.string s, .string p] w fun e w' => e = .returned (.tuple #[.string (mkS (Lib.trimPrefix s.data.toList p.data.toList)), .bool (Lib.hasPrefix s.data.toList p.data.toList)]) ∧ w = w' := by
  have r0 := Lib.hasPrefix_raw s p
  by_cases h : p.size ≤ s.size
  · have d0 : decide (s.size < p.size) = false := by simpa using h
    rw [decide_eq_true h, Bool.true_and] at r0
    cases t1 : ((s.extract 0 p.size).toList == p.toList) with
    | true =>
      have e1 := Lib.trimPrefix_hit s p h t1
      have t2 : ((s.extract 0 p.size).toList != p.toList) = false := by rw [bne, t1]; rfl
      rw [← r0, t1]
      rw [show mkS (Lib.trimPrefix s.data.toList p.data.toList) = s.extract p.size s.size from e1]
      clear r0 e1
      go_enter Try.func39, Try.ntmps39
      go_wp2
      go_ret2
      exact ⟨rfl, rfl⟩
    | false =>
      have e1 := Lib.trimPrefix_miss s p (by rw [t1, Bool.and_false])
      have t2 : ((s.extract 0 p.size).toList != p.toList) = true := by rw [bne, t1]; rfl
      rw [← r0, t1]
      rw [show mkS (Lib.trimPrefix s.data.toList p.data.toList) = s from e1]
      clear r0 e1
      go_enter Try.func39, Try.ntmps39
      go_wp2
      go_ret2
      exact ⟨rfl, rfl⟩
  · have e1 := Lib.trimPrefix_miss s p (by rw [decide_eq_false h]; rfl)
    rw [decide_eq_false h, Bool.false_and] at r0
    have d0 : decide (s.size < p.size) = true := by simp; omega
    rw [← r0, show mkS (Lib.trimPrefix s.data.toList p.data.toList) = s from e1]
    clear r0 e1
    go_enter Try.func39, Try.ntmps39
    go_wp2
    go_ret2
    exact ⟨rfl, rfl⟩
end Go.Proofs.Ythkcfdnenbboaaa
