/- Walks: styles compared; the page's example. -/
import Derived.Test.YtlhfdpeidlbomaaDoorTE
import Derived.RegionTactic
namespace Go.Proofs.YtlhfdpeidlbomaaDoor
open Go.RowKit Go.Shelf
/-- Struct equality, one field at a time. -/
theorem eqFields_cons {P : Program} {w : World} {d : Nat} {xs ys : Array Value} {f : Field} {fs : List Field} {a b : Value} {r s : Bool} (hn : f.name ≠ "_")
    (ha : (part f.type xs f.offset).run P w = .ok a w) (hb : (part f.type ys f.offset).run P w = .ok b w) (hr : (Op.equalIn d f.type a b).run P w = .ok r w)
    (hs : (Op.eqFields d xs ys fs).run P w = .ok s w) : (Op.eqFields d xs ys (f :: fs)).run P w = .ok (r && s) w := by
  simp only [Op.eqFields, hn, ne_eq, not_false_eq_true, if_true, Sem.run_bind, ha, hb, hr, Result.andThen_ok]
  cases r <;> simp [hs]
theorem eqFields_nil {P : Program} {w : World} {d : Nat} {xs ys : Array Value} : (Op.eqFields d xs ys []).run P w = .ok true w := by simp [Op.eqFields]
theorem eqIn_sty (n : Nat) (w : World) (y z : Sty) : (Op.equalIn (n + 2) 23 (.agg #[.bool y.b, .bool y.u, .bool y.i, .int .i64 y.f, .int .i64 y.g]) (.agg #[.bool z.b, .bool z.u, .bool z.i, .int .i64 z.f, .int .i64 z.g])).run Tryd.prog w
   = .ok (decide (y = z)) w := by
  rw [run_equalIn_agg _ _ _ _ _ (by kernel_rfl) (by kernel_rfl)]
  have e : (Tryd.prog.fieldsOf 23).toList = [⟨"Bold", 4, 0, false, "", "", 0⟩, ⟨"Under", 4, 1, false, "", "", 1⟩, ⟨"Inverse", 4, 2, false, "", "", 2⟩, ⟨"Fg", 3, 3, false, "", "", 8⟩, ⟨"Bg", 3, 4, false, "", "", 16⟩] := by kernel_rfl
  rw [e]
  have hd : decide (y = z) = ((y.b == z.b) && ((y.u == z.u) && ((y.i == z.i) && ((y.f == z.f) && ((y.g == z.g) && true))))) := by
    rw [Bool.eq_iff_iff]
    obtain ⟨c0, c1, c2, c3, c4⟩ := y
    obtain ⟨d0, d1, d2, d3, d4⟩ := z
    simp
  rw [hd]
  refine eqFields_cons (by decide) (a := .bool y.b) (b := .bool z.b) (by kernel_rfl) (by kernel_rfl) (by simp [go_sem]) ?_
  refine eqFields_cons (by decide) (a := .bool y.u) (b := .bool z.u) (by kernel_rfl) (by kernel_rfl) (by simp [go_sem]) ?_
  refine eqFields_cons (by decide) (a := .bool y.i) (b := .bool z.i) (by kernel_rfl) (by kernel_rfl) (by simp [go_sem]) ?_
  refine eqFields_cons (by decide) (a := .int .i64 y.f) (b := .int .i64 z.f) (by kernel_rfl) (by kernel_rfl) (by simp [go_sem]) ?_
  exact eqFields_cons (by decide) (a := .int .i64 y.g) (b := .int .i64 z.g) (by kernel_rfl) (by kernel_rfl) (by simp [go_sem]) eqFields_nil
theorem neq_sty (w : World) (y z : Sty) : (binOp .neq 23 (.agg #[.bool y.b, .bool y.u, .bool y.i, .int .i64 y.f, .int .i64 y.g]) (.agg #[.bool z.b, .bool z.u, .bool z.i, .int .i64 z.f, .int .i64 z.g])).run Tryd.prog w
   = .ok (.bool (decide (y ≠ z))) w := by
  rw [run_neq_struct]
  have := eqIn_sty 9998 w y z
  rw [this]
  simp
theorem eql_sty (w : World) (y z : Sty) : (binOp .eql 23 (.agg #[.bool y.b, .bool y.u, .bool y.i, .int .i64 y.f, .int .i64 y.g]) (.agg #[.bool z.b, .bool z.u, .bool z.i, .int .i64 z.f, .int .i64 z.g])).run Tryd.prog w
   = .ok (.bool (decide (y = z))) w := by
  simp only [binOp]
  have := eqIn_sty 9998 w y z
  simp only [Op.equal, Op.maxDepth, Sem.run_bind, this, Result.andThen_ok]
  rfl
def titleL : Bs := [116, 105, 116, 108, 101]
theorem title_pl : plI titleL = 0 ∧ plB titleL = true := by decide
theorem title_line : parseT (titleL ++ [10]) = (none, 1) := by decide
set_option maxRecDepth 100000 in
set_option maxHeartbeats 4000000 in
theorem wawake (w : World) (hm : MaxLn w) : Calls Tryd.prog 11 #[] w fun e w' => e = .returned (.bool true) ∧ Below w.heap.size w w' := by
  have HM := Lib.hid hm
  have HW : Hid (∀ W, Calls Tryd.prog 7 #[.agg #[.bool true, .bool false, .bool false, .int .i64 2, .int .i64 0]] W fun e w' => e = .returned (.tuple #[.string (tx (wordsL ⟨true, false, false, 2, 0⟩)), .int .i64 0]) ∧ Below W.heap.size W w') := Lib.hid (fun W => wwords ⟨true, false, false, 2, 0⟩ (by decide) W)
  have e1 : tx (wordsL ⟨true, false, false, 2, 0⟩) = ⟨#[98, 111, 108, 100, 32, 102, 103, 45, 114, 101, 100]⟩ := by decide
  rw [e1] at HW
  clear hm e1
  have HG : Hid (∀ b W, ThAt W b usualL → Calls Tryd.prog 21 #[.pointer (some ⟨b, 0, none⟩), .string ⟨#[116, 105, 116, 108, 101]⟩] W fun e w' => e = .returned (.tuple #[.agg #[.bool true, .bool false, .bool false, .int .i64 0, .int .i64 0], .bool true]) ∧ Below W.heap.size W w') := Lib.hid (fun b W h => wget b usualL titleL W h)
  have HPA : Hid (∀ W, MaxLn W → Calls Tryd.prog 12 #[.string ⟨#[116, 105, 116, 108, 101, 10]⟩] W fun e w' => e = .returned (.tuple #[.pointer none, .int .i64 1, .int .i64 310]) ∧ Below W.heap.size W w') := Lib.hid (fun W hW => by
    have := wparse (titleL ++ [10]) (by decide) W hW
    rw [title_line] at this
    exact this)
  have heq : ∀ w, (binOp .eql 23 (.agg #[.bool true, .bool false, .bool false, .int .i64 0, .int .i64 0]) (.agg #[.bool true, .bool false, .bool false, .int .i64 0, .int .i64 0])).run Tryd.prog w = .ok (.bool true) w := fun w => by
    have := eql_sty w ⟨true, false, false, 0, 0⟩ ⟨true, false, false, 0, 0⟩
    simpa using this
  go_enter Tryd.func11, Tryd.ntmps11
  go_wp2_with (first | (go_at_call 7; fail))
  go_at_call 7
  refine (HW.out _).mono ?_
  rintro e w1 ⟨rfl, hb1⟩
  have HB1 := Lib.hid hb1
  clear hb1
  go_wp2_with (first | (go_at_call 16; fail))
  go_at_call 16
  refine (wnew _).mono ?_
  rintro e w2 ⟨rfl, ht, hb2⟩
  have HT := Lib.hid ht
  have HB2 := Lib.hid (HB1.out.trans (below_le hb2 HB1.out.size))
  clear ht hb2 HB1
  obtain ⟨bt, hbt⟩ : ∃ b, b = w1.heap.size + 1 := ⟨_, rfl⟩
  rw [← hbt] at HT ⊢
  clear hbt
  go_wp2_with (first | (go_at_call 21; fail))
  go_at_call 21
  refine (HG.out _ _ HT.out).mono ?_
  rintro e w3 ⟨rfl, hb3⟩
  have HB3 := Lib.hid ((HB2.out.trans (below_le hb3 HB2.out.size)).alloc (HB2.out.trans (below_le hb3 HB2.out.size)).size (.cells #[.bool true, .bool false, .bool false, .int .i64 0, .int .i64 0] 23))
  have HY : Hid (StyAt (w3.alloc (.cells #[.bool true, .bool false, .bool false, .int .i64 0, .int .i64 0] 23)) w3.heap.size ⟨true, false, false, 0, 0⟩) := Lib.hid (heap_alloc_new _ _)
  clear hb3 HB2 HT
  go_wp2_with (first | (go_at_call 12; fail))
  generalize w3.alloc (.cells #[.bool true, .bool false, .bool false, .int .i64 0, .int .i64 0] 23) = w4 at HB3 HY ⊢
  go_at_call 12
  refine (HPA.out _ (HM.out.kept HM.out.lt HB3.out)).mono ?_
  rintro e w5 ⟨rfl, hb5⟩
  have HY5 := Lib.hid (HY.out.kept HY.out.get.2.2.2.2.2.2 hb5)
  have HB5 := Lib.hid (HB3.out.trans (below_le hb5 HB3.out.size))
  clear hb5 HB3 HY
  obtain ⟨c0, c1, c2, c3, c4, _, _⟩ := HY5.out.get
  go_wp2
  go_ret
  exact ⟨rfl, HB5.out⟩
end Go.Proofs.YtlhfdpeidlbomaaDoor
