/- Walks: the law TallyFrames. -/
import Derived.Test.YtcbdmaffcjdnbaaW7
import Derived.Deep.DeepCutAuto
import Derived.Deep.RegionWith
namespace Go.Proofs.Ytcbdmaffcjdnbaa
open Go.RowKit
/-- Both boxes' cells. -/
def Boxed (wx : World) (h : Nat) (p0 p1 p2 p3 q0 q1 q2 q3 : Value) : Prop :=
  (wx.cell? ⟨h, 0, none⟩ = some p0 ∧ wx.cell? ⟨h, 1, none⟩ = some p1 ∧ wx.cell? ⟨h, 2, none⟩ = some p2 ∧ wx.cell? ⟨h, 3, none⟩ = some p3) ∧
   (wx.cell? ⟨h + 1, 0, none⟩ = some q0 ∧ wx.cell? ⟨h + 1, 1, none⟩ = some q1 ∧ wx.cell? ⟨h + 1, 2, none⟩ = some q2 ∧ wx.cell? ⟨h + 1, 3, none⟩ = some q3)
theorem Boxed.next {wx w1 : World} {h : Nat} {p0 p1 p2 p3 q0 q1 q2 q3 : Value} (hx : Boxed wx h p0 p1 p2 p3 q0 q1 q2 q3) (hz : h + 2 ≤ wx.heap.size) (hb : Below wx.heap.size wx w1) : Boxed w1 h p0 p1 p2 p3 q0 q1 q2 q3 := by
  have H : ∀ b o, b < h + 2 → w1.cell? ⟨b, o, none⟩ = wx.cell? ⟨b, o, none⟩ := fun b o h2 => hb.cell (p := ⟨b, o, none⟩) (by show b < _; omega)
  obtain ⟨⟨a0, a1, a2, a3⟩, b0, b1, b2, b3⟩ := hx
  refine ⟨⟨?_, ?_, ?_, ?_⟩, ?_, ?_, ?_, ?_⟩ <;> rw [H _ _ (by omega)] <;> assumption
def CutA (w : World) (r c : Int) (s : Bool) (r' c' : Int) (s' : Bool) (A B : List (List CellD)) (wx : World) : Prop :=
  ∃ a n cap a' n' cap', RowsV wx a n cap (fewOf A) ∧ RowsV wx a' n' cap' (fewOf B) ∧ Below w.heap.size w wx ∧ w.heap.size + 2 ≤ wx.heap.size ∧
   Boxed wx w.heap.size (.slice a n cap) (.int .i64 r) (.int .i64 c) (.bool s) (.slice a' n' cap') (.int .i64 r') (.int .i64 c') (.bool s')
theorem box2f {w wr : World} {p0 p1 p2 p3 q0 q1 q2 q3 : Value} (h : Below (w.heap.size + 2) (TwoBoxes w p0 p1 p2 p3 q0 q1 q2 q3) wr) :
    (∀ o, wr.frozen? ⟨w.heap.size, o, none⟩ = false) ∧ (∀ o, wr.frozen? ⟨w.heap.size + 1, o, none⟩ = false) := by
  have F : ∀ b o, b < w.heap.size + 2 → wr.frozen? ⟨b, o, none⟩ = (TwoBoxes w p0 p1 p2 p3 q0 q1 q2 q3).frozen? ⟨b, o, none⟩ := fun b o hb => h.frozen (p := ⟨b, o, none⟩) hb
  exact ⟨fun o => by rw [F _ _ (by omega)]; simp [go_sem], fun o => by rw [F _ _ (by omega)]; simp [go_sem]⟩
theorem old_at {w w' : World} {p0 p1 p2 p3 q0 q1 q2 q3 : Value} (hb : Below (w.heap.size + 2) (TwoBoxes w p0 p1 p2 p3 q0 q1 q2 q3) w') : Below w.heap.size w w' :=
  (((Below.refl _ _).alloc (Nat.le_refl _) _).alloc (by simp) _).trans (hb.mono (by omega))
abbrev Stored2 (w w2 : World) (p0 p1 p2 p3 q0 q1 q2 q3 : Value) : World := ((((((((w2.setCell ⟨w.heap.size, 0, none⟩ p0).setCell ⟨w.heap.size, 1, none⟩ p1).setCell ⟨w.heap.size, 2, none⟩ p2).setCell ⟨w.heap.size, 3, none⟩ p3).setCell ⟨w.heap.size + 1, 0, none⟩ q0).setCell ⟨w.heap.size + 1, 1, none⟩ q1).setCell ⟨w.heap.size + 1, 2, none⟩ q2).setCell ⟨w.heap.size + 1, 3, none⟩ q3)
theorem stored2_far (w w2 : World) (p0 p1 p2 p3 q0 q1 q2 q3 : Value) (b o : Nat) (h : w.heap.size + 2 ≤ b) : (Stored2 w w2 p0 p1 p2 p3 q0 q1 q2 q3).cell? ⟨b, o, none⟩ = w2.cell? ⟨b, o, none⟩ := by
  have e : (Stored2 w w2 p0 p1 p2 p3 q0 q1 q2 q3).heap[b]? = w2.heap[b]? := by
    repeat rw [Below.heap_setCell _ _ _ _ (by simp; omega)]
  exact World.cell?_of_block e
theorem cut_close {w W2 w1 w2 : World} {a a1 a' a2 : Option Addr} {n cap n1 cap1 n' cap' n2 cap2 : Nat} {r c r' c' : Int} {s s' : Bool} {A B : List (List CellD)}
    (hW2 : W2.heap.size = w.heap.size + 2) (hr1 : RowsN w w1 W2.heap.size a1 n1 cap1 (fewOf A)) (hr2 : RowsN w w2 w1.heap.size a2 n2 cap2 (fewOf B)) (hb1 : Below W2.heap.size W2 w1) (hb2 : Below w1.heap.size w1 w2)
    (hs2 : Below (w.heap.size + 2) (TwoBoxes w (.slice a n cap) (.int .i64 r) (.int .i64 c) (.bool s) (.slice a' n' cap') (.int .i64 r') (.int .i64 c') (.bool s')) w2) :
    CutA w r c s r' c' s' A B (Stored2 w w2 (.slice a1 n1 cap1) (.int .i64 r) (.int .i64 c) (.bool s) (.slice a2 n2 cap2) (.int .i64 r') (.int .i64 c') (.bool s')) := by
  have z1 := hb1.size
  have z2 := hb2.size
  have hbel : Below w.heap.size w (Stored2 w w2 (.slice a1 n1 cap1) (.int .i64 r) (.int .i64 c) (.bool s) (.slice a2 n2 cap2) (.int .i64 r') (.int .i64 c') (.bool s')) :=
    ((((((((old_at hs2).setCell (by simp) _).setCell (by simp) _).setCell (by simp) _).setCell (by simp) _).setCell (by simp) _).setCell (by simp) _).setCell (by simp) _).setCell (by simp) _
  obtain ⟨⟨x0, x1, x2, x3⟩, y0, y1, y2, y3⟩ := box2 hs2
  refine ⟨a1, n1, cap1, a2, n2, cap2, hr1.rows hbel (by simp; omega) (fun b o h1 h2 => ?_), hr2.rows hbel (by simp) (fun b o h1 h2 => ?_), hbel, by simp; omega, ?_⟩
  · rw [stored2_far _ _ _ _ _ _ _ _ _ _ _ _ (by omega)]
    exact hb2.cell (p := ⟨b, o, none⟩) h2
  · rw [stored2_far _ _ _ _ _ _ _ _ _ _ _ _ (by omega)]
  · refine ⟨⟨?_, ?_, ?_, ?_⟩, ?_, ?_, ?_, ?_⟩ <;> simp [go_sem, x0, x1, x2, x3, y0, y1, y2, y3]
set_option maxRecDepth 100000 in
set_option maxHeartbeats 2000000 in
theorem law_any (W Hh : Int) (a a' : Option Addr) (n cap n' cap' : Nat) (r c r' c' : Int) (s s' : Bool) (A B : List (List CellD)) (w : World) (hx : RowsV w a n cap A) (hy : RowsV w a' n' cap' B) :
    Calls Try.prog 3 #[.int .i64 W, .int .i64 Hh, .agg #[.slice a n cap, .int .i64 r, .int .i64 c, .bool s], .agg #[.slice a' n' cap', .int .i64 r', .int .i64 c', .bool s']] w fun e w' => e = .returned (.bool true) ∧ Below w.heap.size w w' := by
  have HX := Lib.hid hx
  have HY := Lib.hid hy
  clear hx hy
  have hs0 : Below (w.heap.size + 2) (TwoBoxes w (.slice a n cap) (.int .i64 r) (.int .i64 c) (.bool s) (.slice a' n' cap') (.int .i64 r') (.int .i64 c') (.bool s')) ((TwoBoxes w (.slice a n cap) (.int .i64 r) (.int .i64 c) (.bool s) (.slice a' n' cap') (.int .i64 r') (.int .i64 c') (.bool s')).drew) := (Below.refl _ _).drew
  have HS0 := Lib.hid hs0
  clear hs0
  go_enter Try.func3, Try.ntmps3
  go_upto_region 1 with fail
  go_cut [] (fun wx => CutA w r c s r' c' s' A B wx)
  case first =>
    go_region_with (first | (go_at_call 6; (with_reducible refine (few_any a n cap r c s A w _ HX.out ?_).mono ?_); (first | exact old_at HS0.out | exact old_at hs2.out); rintro e w1 ⟨a1, n1, cap1, rfl, hr1, hb1⟩; obtain ⟨hs1, hb1⟩ : Hid (Below (w.heap.size + 2) (TwoBoxes w _ _ _ _ _ _ _ _) w1) ∧ Hid (Below _ _ w1) := ⟨(by first | exact keep_at HS0.out hb1 | exact keep_at hs2.out hb1), hb1⟩; obtain ⟨⟨x0, x1, x2, x3⟩, y0, y1, y2, y3⟩ := box2 hs1.out; obtain ⟨f1, f2⟩ := box2f hs1.out) | (go_at_call 6; (with_reducible refine (few_any a' n' cap' r' c' s' B w _ HY.out ?_).mono ?_); (first | exact old_at HS0.out | exact old_at hs1.out); rintro e w2 ⟨a2, n2, cap2, rfl, hr2, hb2⟩; obtain ⟨hs2, hb2⟩ : Hid (Below (w.heap.size + 2) (TwoBoxes w _ _ _ _ _ _ _ _) w2) ∧ Hid (Below _ _ w2) := ⟨(by first | exact keep_at HS0.out hb2 | exact keep_at hs1.out hb2), hb2⟩; obtain ⟨⟨x0, x1, x2, x3⟩, y0, y1, y2, y3⟩ := box2 hs2.out; obtain ⟨f1, f2⟩ := box2f hs2.out))
    all_goals
      go_wp2_with fail
      go_meet
      exact cut_close (by simp) hr1 hr2 hb1.out hb2.out hs2.out
  case rest =>
    obtain ⟨aA, nA, cA, aB, nB, cB, hA, hB, hbel, hz, hF⟩ := hcut
    have Fwc := Lib.hid hF
    have Bwc := Lib.hid hbel
    have Awc := Lib.hid hA
    have Cwc := Lib.hid hB
    have FA := Lib.hid (fewOf_few A)
    have FB := Lib.hid (fewOf_few B)
    have hcm := differ_comm (fewOf B) (fewOf A)
    have hss := differ_self (fewOf B)
    obtain ⟨⟨x0, x1, x2, x3⟩, y0, y1, y2, y3⟩ := hF
    have hz0 : w.heap.size ≤ wc.heap.size := by omega
    clear hA hB hbel
    generalize fewOf A = P at *
    generalize fewOf B = Q at *
    go_wp2_with (first | (go_at_call 7; refine (tbound _ _ _).mono ?_; rintro e w' ⟨rfl, rfl⟩) | (go_at_call 8; refine (rbound _ _ _).mono ?_; rintro e w' ⟨rfl, rfl⟩))
    clear x0 x1 x2 x3 y0 y1 y2 y3
    refine (tsizes _ _ _ _ _ _ P _ Awc.out FA.out).mono ?_
    rintro e w3 ⟨rfl, hb⟩
    have Fw3 := Lib.hid (Fwc.out.next hz hb)
    have Bw3 := Lib.hid (Bwc.out.trans (hb.mono hz0))
    have Aw3 := Lib.hid (Awc.out.mono hb)
    have Cw3 := Lib.hid (Cwc.out.mono hb)
    obtain ⟨⟨x0, x1, x2, x3⟩, y0, y1, y2, y3⟩ := Fw3.out
    replace hz : w.heap.size + 2 ≤ w3.heap.size := Nat.le_trans hz hb.size
    replace hz0 : w.heap.size ≤ w3.heap.size := by omega
    clear hb
    go_wp2_with fail
    clear x0 x1 x2 x3 y0 y1 y2 y3
    refine (rsizes _ _ _ _ _ _ P _ Aw3.out FA.out).mono ?_
    rintro e w4 ⟨rfl, hb⟩
    have Fw4 := Lib.hid (Fw3.out.next hz hb)
    have Bw4 := Lib.hid (Bw3.out.trans (hb.mono hz0))
    have Aw4 := Lib.hid (Aw3.out.mono hb)
    have Cw4 := Lib.hid (Cw3.out.mono hb)
    obtain ⟨⟨x0, x1, x2, x3⟩, y0, y1, y2, y3⟩ := Fw4.out
    replace hz : w.heap.size + 2 ≤ w4.heap.size := Nat.le_trans hz hb.size
    replace hz0 : w.heap.size ≤ w4.heap.size := by omega
    clear hb
    go_wp2_with fail
    clear x0 x1 x2 x3 y0 y1 y2 y3
    refine (rdiffer _ _ _ _ _ _ _ _ _ _ _ _ P Q _ Aw4.out Cw4.out FA.out FB.out).mono ?_
    rintro e w5 ⟨rfl, hb⟩
    have Fw5 := Lib.hid (Fw4.out.next hz hb)
    have Bw5 := Lib.hid (Bw4.out.trans (hb.mono hz0))
    have Aw5 := Lib.hid (Aw4.out.mono hb)
    have Cw5 := Lib.hid (Cw4.out.mono hb)
    obtain ⟨⟨x0, x1, x2, x3⟩, y0, y1, y2, y3⟩ := Fw5.out
    replace hz : w.heap.size + 2 ≤ w5.heap.size := Nat.le_trans hz hb.size
    replace hz0 : w.heap.size ≤ w5.heap.size := by omega
    clear hb
    go_wp2_with fail
    clear x0 x1 x2 x3 y0 y1 y2 y3
    refine (tdiffer _ _ _ _ _ _ _ _ _ _ _ _ P Q _ Aw5.out Cw5.out FA.out FB.out).mono ?_
    rintro e w6 ⟨rfl, hb⟩
    have Fw6 := Lib.hid (Fw5.out.next hz hb)
    have Bw6 := Lib.hid (Bw5.out.trans (hb.mono hz0))
    have Aw6 := Lib.hid (Aw5.out.mono hb)
    have Cw6 := Lib.hid (Cw5.out.mono hb)
    obtain ⟨⟨x0, x1, x2, x3⟩, y0, y1, y2, y3⟩ := Fw6.out
    replace hz : w.heap.size + 2 ≤ w6.heap.size := Nat.le_trans hz hb.size
    replace hz0 : w.heap.size ≤ w6.heap.size := by omega
    clear hb
    go_wp2_with fail
    clear x0 x1 x2 x3 y0 y1 y2 y3
    refine (tdiffer _ _ _ _ _ _ _ _ _ _ _ _ Q P _ Cw6.out Aw6.out FB.out FA.out).mono ?_
    rintro e w7 ⟨rfl, hb⟩
    have Fw7 := Lib.hid (Fw6.out.next hz hb)
    have Bw7 := Lib.hid (Bw6.out.trans (hb.mono hz0))
    have Aw7 := Lib.hid (Aw6.out.mono hb)
    have Cw7 := Lib.hid (Cw6.out.mono hb)
    obtain ⟨⟨x0, x1, x2, x3⟩, y0, y1, y2, y3⟩ := Fw7.out
    replace hz : w.heap.size + 2 ≤ w7.heap.size := Nat.le_trans hz hb.size
    replace hz0 : w.heap.size ≤ w7.heap.size := by omega
    clear hb
    go_wp2_with fail
    clear x0 x1 x2 x3 y0 y1 y2 y3
    refine (tdiffer _ _ _ _ _ _ _ _ _ _ _ _ Q Q _ Cw7.out Cw7.out FB.out FB.out).mono ?_
    rintro e w8 ⟨rfl, hb⟩
    have Fw8 := Lib.hid (Fw7.out.next hz hb)
    have Bw8 := Lib.hid (Bw7.out.trans (hb.mono hz0))
    have Aw8 := Lib.hid (Aw7.out.mono hb)
    have Cw8 := Lib.hid (Cw7.out.mono hb)
    obtain ⟨⟨x0, x1, x2, x3⟩, y0, y1, y2, y3⟩ := Fw8.out
    replace hz : w.heap.size + 2 ≤ w8.heap.size := Nat.le_trans hz hb.size
    replace hz0 : w.heap.size ≤ w8.heap.size := by omega
    clear hb
    go_wp2_with fail
    clear x0 x1 x2 x3 y0 y1 y2 y3
    refine (awake_any _).mono ?_
    rintro e w9 ⟨rfl, hb⟩
    have Bw9 := Lib.hid (Bw8.out.trans (hb.mono hz0))
    clear hb
    go_wp2_with fail
    go_ret
    exact ⟨rfl, Bw9.out⟩
end Go.Proofs.Ytcbdmaffcjdnbaa
