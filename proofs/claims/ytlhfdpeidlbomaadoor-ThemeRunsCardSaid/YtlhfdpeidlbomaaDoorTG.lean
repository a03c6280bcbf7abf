/- Walk: the law ThemeWords. -/
import Derived.Test.YtlhfdpeidlbomaaDoorTF
namespace Go.Proofs.YtlhfdpeidlbomaaDoor
open Go.RowKit Go.Shelf
def wB (y : Sty) : Bs := if y.may then wordsL y else []
def wE (y : Sty) : Int := if y.may then 0 else 310
theorem wB_len (y : Sty) : (wB y).length ≤ 105 := by
  unfold wB; split
  · exact words_len y
  · simp
theorem wwordsA (y : Sty) (w : World) : Calls Tryd.prog 7 #[y.v] w fun e w' => e = .returned (.tuple #[.string (tx (wB y)), .int .i64 (wE y)]) ∧ Below w.heap.size w w' := by
  unfold wB wE
  by_cases h : y.may
  · rw [if_pos h, if_pos h]; exact wwords y h w
  · rw [if_neg h, if_neg h]; exact wwords_no y h w
theorem wwordsRA (y : Sty) (w : World) : Calls Tryd.prog 8 #[y.v] w fun e w' => e = .returned (.tuple #[.string (tx (wB y)), .int .i64 (wE y)]) ∧ Below w.heap.size w w' := by
  unfold wB wE
  by_cases h : y.may
  · rw [if_pos h, if_pos h]; exact wwordsR y h w
  · rw [if_neg h, if_neg h]; exact wwordsR_no y h w
theorem below_new {n : Nat} {w0 w w' : World} {o : Obj} (h : Below n w0 w) (hn : n ≤ w.heap.size) (hb : Below w.heap.size w w') : Below n w0 (w'.alloc o) :=
  (h.trans (below_le hb hn)).alloc (by have := hb.size; omega) o
theorem eql_self (y : Sty) (w : World) : (binOp .eql 23 (.agg #[.bool y.b, .bool y.u, .bool y.i, .int .i64 y.f, .int .i64 y.g]) (.agg #[.bool y.b, .bool y.u, .bool y.i, .int .i64 y.f, .int .i64 y.g])).run Tryd.prog w = .ok (.bool true) w := by
  have := eql_sty w y y
  simpa using this
theorem neq_self (y : Sty) (w : World) : (binOp .neq 23 (.agg #[.bool y.b, .bool y.u, .bool y.i, .int .i64 y.f, .int .i64 y.g]) (.agg #[.bool y.b, .bool y.u, .bool y.i, .int .i64 y.f, .int .i64 y.g])).run Tryd.prog w = .ok (.bool false) w := by
  have := neq_sty w y y
  simpa using this
set_option maxRecDepth 100000 in
set_option maxHeartbeats 4000000 in
theorem words_any (y : Sty) (s : ByteArray) (w : World) (hs : s.size ≤ maxLen) (hm : MaxLn w) : Calls Tryd.prog 3 #[y.v, .string s] w fun e w' => e = .returned (.bool true) ∧ Below w.heap.size w w' := by
  have HM := Lib.hid hm
  have HC := Lib.hid (wcut s hs)
  have hS : (cutTo 600 s).data.toList.length ≤ 600 := cut_size 600 s
  obtain ⟨S, hSS⟩ : ∃ S, S = (cutTo 600 s).data.toList := ⟨_, rfl⟩
  have hcs : cutTo 600 s = tx S := by rw [hSS]; rfl
  rw [hcs] at HC
  rw [← hSS] at hS
  clear hSS hcs hm hs
  have HW := Lib.hid (fun W => wwordsA y W)
  have HR := Lib.hid (fun W => wwordsRA y W)
  have HBL := Lib.hid (wB_len y)
  have HST := Lib.hid (fun (h : wE y = 0) => (show wB y = wordsL y ∧ y.may from by
    unfold wE at h
    unfold wB
    split at h
    · rename_i q; rw [if_pos q]; exact ⟨rfl, q⟩
    · cases h))
  have HES := Lib.hid (show wE y = 0 ∨ wE y = 310 from by unfold wE; split; exact .inl rfl; exact .inr rfl)
  obtain ⟨A, hA⟩ : ∃ A, A = wB y := ⟨_, rfl⟩
  obtain ⟨E, hE⟩ : ∃ A, A = wE y := ⟨_, rfl⟩
  rw [← hA] at HW HR HBL HST
  rw [← hE] at HW HR HST HES
  clear hA hE
  have HEQ := Lib.hid (eql_self y)
  have HNS := Lib.hid (neq_self (styS S))
  have HY0 : Hid (StyAt (w.alloc (.cells (styCells y) 23)) w.heap.size y ∧ Below w.heap.size w (w.alloc (.cells (styCells y) 23))) := Lib.hid ⟨heap_alloc_new _ _, (Below.refl _ _).alloc (Nat.le_refl _) _⟩
  obtain ⟨b, u, i, f, g⟩ := y
  unfold Sty.v at HW HR ⊢
  unfold styCells at HY0
  simp only [] at HW HR HEQ HY0 ⊢
  go_enter Tryd.func3, Tryd.ntmps3
  go_wp2_with (first | (go_at_call 6; fail))
  go_at_call 6
  refine (HC.out _).mono ?_
  rintro e w1 ⟨rfl, rfl⟩
  generalize w.alloc (.cells #[.bool b, .bool u, .bool i, .int .i64 f, .int .i64 g] 23) = w1 at HY0 ⊢
  obtain ⟨c0, c1, c2, c3, c4, _, _⟩ := HY0.out.1.get
  simp only [] at c0 c1 c2 c3 c4
  go_wp2_with (first | (go_at_call 7; fail))
  go_at_call 7
  refine (HW.out _).mono ?_
  rintro e w2 ⟨rfl, hb2⟩
  have HY2 := Lib.hid (And.intro (HY0.out.1.kept HY0.out.1.get.2.2.2.2.2.2 hb2) (HY0.out.2.trans (below_le hb2 HY0.out.2.size)))
  clear hb2 c0 c1 c2 c3 c4 HY0 HW
  obtain ⟨c0, c1, c2, c3, c4, _, _⟩ := HY2.out.1.get
  simp only [] at c0 c1 c2 c3 c4
  go_wp2_with (first | (go_at_call 8; fail))
  go_at_call 8
  refine (HR.out _).mono ?_
  rintro e w3 ⟨rfl, hb3⟩
  have HY3 := Lib.hid (And.intro (HY2.out.1.kept HY2.out.1.get.2.2.2.2.2.2 hb3) (HY2.out.2.trans (below_le hb3 HY2.out.2.size)))
  clear hb3 c0 c1 c2 c3 c4 HY2 HR
  go_wp2_with (first | (go_at_call 9; fail))
  go_at_call 9
  refine (wstyle S (by omega) w3 (HM.out.kept HM.out.lt HY3.out.2)).mono ?_
  rintro e w4 ⟨rfl, hb4⟩
  have HY4 := Lib.hid (And.intro ((HY3.out.1.kept HY3.out.1.get.2.2.2.2.2.2 hb4).kept ((HY3.out.1.kept HY3.out.1.get.2.2.2.2.2.2 hb4).get.2.2.2.2.2.2) ((Below.refl _ _).alloc (Nat.le_refl _) (.cells (styCells (styS S)) 23))) (below_new (o := .cells (styCells (styS S)) 23) HY3.out.2 HY3.out.2.size hb4))
  have HZ4 : Hid (StyAt (w4.alloc (.cells (styCells (styS S)) 23)) w4.heap.size (styS S)) := Lib.hid (heap_alloc_new _ _)
  clear hb4 HY3
  have HSR := Lib.hid (fun W => wstyleR S W)
  unfold StyleEnd at HSR
  obtain ⟨Er, hEr⟩ : ∃ A, A = errS S := ⟨_, rfl⟩
  obtain ⟨Y, hY⟩ : ∃ A, A = styS S := ⟨_, rfl⟩
  rw [← hEr, ← hY] at HSR
  rw [← hEr, ← hY]
  rw [← hY] at HY4 HZ4 HNS
  clear hEr hY
  obtain ⟨b', u', i', f', g'⟩ := Y
  unfold Sty.v at HSR ⊢
  unfold styCells at HY4 HZ4
  simp only [] at HSR HY4 HZ4 HNS ⊢
  go_wp2_with (first | (go_at_call 10; fail))
  generalize w4.alloc (.cells #[.bool b', .bool u', .bool i', .int .i64 f', .int .i64 g'] 23) = w5 at HY4 HZ4 ⊢
  go_at_call 10
  refine (HSR.out _).mono ?_
  rintro e w6 ⟨rfl, hb6⟩
  have HY6 := Lib.hid (And.intro ((HY4.out.1.kept HY4.out.1.get.2.2.2.2.2.2 hb6).kept ((HY4.out.1.kept HY4.out.1.get.2.2.2.2.2.2 hb6).get.2.2.2.2.2.2) ((Below.refl _ _).alloc (Nat.le_refl _) (.cells #[.bool b', .bool u', .bool i', .int .i64 f', .int .i64 g'] 23))) (below_new (o := .cells #[.bool b', .bool u', .bool i', .int .i64 f', .int .i64 g'] 23) HY4.out.2 HY4.out.2.size hb6))
  have HZ6 := Lib.hid ((HZ4.out.kept HZ4.out.get.2.2.2.2.2.2 hb6).kept ((HZ4.out.kept HZ4.out.get.2.2.2.2.2.2 hb6).get.2.2.2.2.2.2) ((Below.refl _ _).alloc (Nat.le_refl _) (.cells #[.bool b', .bool u', .bool i', .int .i64 f', .int .i64 g'] 23)))
  have HX6 : Hid (StyAt (w6.alloc (.cells #[.bool b', .bool u', .bool i', .int .i64 f', .int .i64 g'] 23)) w6.heap.size ⟨b', u', i', f', g'⟩) := Lib.hid (heap_alloc_new _ _)
  clear hb6 HY4 HZ4 HSR
  have hns := HNS.out
  have HA := Lib.hid (fun W hW => wawake W hW)
  go_upto_region 6 with (fail)
  generalize w6.alloc (.cells #[.bool b', .bool u', .bool i', .int .i64 f', .int .i64 g'] 23) = w7 at HY6 HZ6 HX6 ⊢
  obtain ⟨c0, c1, c2, c3, c4, _, _⟩ := HZ6.out.get
  obtain ⟨d0, d1, d2, d3, d4, _, _⟩ := HX6.out.get
  simp only [] at c0 c1 c2 c3 c4 d0 d1 d2 d3 d4
  obtain ⟨AA, hAA⟩ : ∃ X, X = tx A := ⟨_, rfl⟩
  rw [← hAA]
  have HAA := Lib.hid hAA
  clear hAA
  rcases HES.out with hE | hE
  · have HWY := Lib.hid (HST.out hE)
    subst hE
    clear HST HES
    go_upto_region 9 with (fail)
    clear c0 c1 c2 c3 c4 d0 d1 d2 d3 d4 hns HZ6 HX6 HNS
    have HSA : Hid (∀ W, MaxLn W → Calls Tryd.prog 9 #[.string AA] W fun e w' => e = .returned (.tuple #[.agg #[.bool b, .bool u, .bool i, .int .i64 f, .int .i64 g], .int .i64 0]) ∧ Below W.heap.size W w') := Lib.hid (fun W hW => by
      have h := wstyle A (by have := HBL.out; omega) W hW
      unfold StyleEnd at h
      rw [HWY.out.1, (styS_words _ HWY.out.2).2.1, (styS_words _ HWY.out.2).2.2, ← HWY.out.1, ← HAA.out] at h
      exact h)
    go_wp2_with (first | (go_at_call 9; fail))
    go_at_call 9
    refine (HSA.out _ (HM.out.kept HM.out.lt HY6.out.2)).mono ?_
    rintro e w8 ⟨rfl, hb8⟩
    have HY9 := Lib.hid (And.intro ((HY6.out.1.kept HY6.out.1.get.2.2.2.2.2.2 hb8).kept ((HY6.out.1.kept HY6.out.1.get.2.2.2.2.2.2 hb8).get.2.2.2.2.2.2) ((Below.refl _ _).alloc (Nat.le_refl _) (.cells #[.bool b, .bool u, .bool i, .int .i64 f, .int .i64 g] 23))) (below_new (o := .cells #[.bool b, .bool u, .bool i, .int .i64 f, .int .i64 g] 23) HY6.out.2 HY6.out.2.size hb8))
    have HX9 : Hid (StyAt (w8.alloc (.cells #[.bool b, .bool u, .bool i, .int .i64 f, .int .i64 g] 23)) w8.heap.size ⟨b, u, i, f, g⟩) := Lib.hid (heap_alloc_new _ _)
    clear hb8 HY6
    go_upto_region 10 with (fail)
    generalize w8.alloc (.cells #[.bool b, .bool u, .bool i, .int .i64 f, .int .i64 g] 23) = w9 at HY9 HX9 ⊢
    obtain ⟨c0, c1, c2, c3, c4, _, _⟩ := HY9.out.1.get
    obtain ⟨d0, d1, d2, d3, d4, _, _⟩ := HX9.out.get
    simp only [] at c0 c1 c2 c3 c4 d0 d1 d2 d3 d4
    have heq := HEQ.out
    go_wp2_with (first | (go_at_call 11; fail))
    go_at_call 11
    refine (HA.out _ (HM.out.kept HM.out.lt HY9.out.2)).mono ?_
    rintro e w10 ⟨rfl, hb10⟩
    have HB := Lib.hid (HY9.out.2.trans (below_le hb10 HY9.out.2.size))
    clear hb10
    go_wp2
    go_ret
    exact ⟨rfl, HB.out⟩
  · subst hE
    clear HST HES
    go_wp2_with (first | (go_at_call 11; fail))
    go_at_call 11
    refine (HA.out _ (HM.out.kept HM.out.lt HY6.out.2)).mono ?_
    rintro e w10 ⟨rfl, hb10⟩
    have HB := Lib.hid (HY6.out.2.trans (below_le hb10 HY6.out.2.size))
    clear hb10
    go_wp2
    go_ret
    exact ⟨rfl, HB.out⟩
end Go.Proofs.YtlhfdpeidlbomaaDoor
