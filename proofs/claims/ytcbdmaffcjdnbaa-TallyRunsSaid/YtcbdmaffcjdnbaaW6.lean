/- Walks: the law's few. -/
import Derived.Test.YtcbdmaffcjdnbaaW5
import Derived.Deep.AppendLies
namespace Go.Proofs.Ytcbdmaffcjdnbaa
open Go.RowKit
def fewOf (A : List (List CellD)) : List (List CellD) := (A.take 30).map (·.take 100)
theorem fewOf_few (A : List (List CellD)) : Few (fewOf A) := by
  refine ⟨by simp [fewOf]; omega, fun i => ?_⟩
  unfold nth fewOf
  rw [List.getD, List.getElem?_map]
  cases (A.take 30)[i]? with
  | none => simp
  | some l => simp; omega
theorem nth_few (A : List (List CellD)) (i : Nat) (h : i < 30) : nth (fewOf A) i = (nth A i).take 100 := by
  unfold nth fewOf
  simp only [List.getD, List.getElem?_map, List.getElem?_take, h, if_true]
  cases A[i]? with
  | none => simp
  | some l => simp
theorem Try.info66 : (Try.prog.info? 66).map (fun i => (i.zero, i.size, i.bytes)) = some (some (.slice none 0 0), 1, 24) := by kernel_rfl
/-- Rows in an array of the call's own, whose cells are older than it. -/
def RowsN (wo w' : World) (base : Nat) (a : Option Addr) (n cap : Nat) (rs : List (List CellD)) : Prop :=
  n = rs.length ∧ n ≤ cap ∧ cap ≤ 9223372036854775807 ∧ (0 < n → ∃ g, a = some ⟨g, 0, none⟩ ∧ base ≤ g ∧ g < w'.heap.size ∧ ∀ i, i < n → ∃ v, w'.cell? ⟨g, i, none⟩ = some v ∧ RowVal wo v (nth rs i))
theorem RowsN.rows {wo w' wx : World} {base : Nat} {a : Option Addr} {n cap : Nat} {rs : List (List CellD)} (h : RowsN wo w' base a n cap rs) (hw : Below wo.heap.size wo wx) (hz : w'.heap.size ≤ wx.heap.size)
    (hs : ∀ b o, base ≤ b → b < w'.heap.size → wx.cell? ⟨b, o, none⟩ = w'.cell? ⟨b, o, none⟩) : RowsV wx a n cap rs := by
  obtain ⟨h1, h2, h3, h4⟩ := h
  refine ⟨h1, h2, h3, fun hp => ?_⟩
  obtain ⟨g, ha, hg, hlt, hc⟩ := h4 hp
  refine ⟨g, 0, ha, by omega, fun i hi => ?_⟩
  obtain ⟨v, hv, hr⟩ := hc i hi
  exact ⟨v, by rw [Nat.zero_add, hs g i hg hlt, hv], hr.mono hw⟩
def GivesFew (wo w : World) (A : List (List CellD)) (r c : Int) (s : Bool) (e : Ending) (w' : World) : Prop :=
  ∃ a n cap, e = .returned (.agg #[.slice a n cap, .int .i64 r, .int .i64 c, .bool s]) ∧ RowsN wo w' w.heap.size a n cap (fewOf A) ∧ Below w.heap.size w w'
abbrev FewBoxes (w : World) (p0 p1 p2 p3 : Value) : World := (w.alloc (.cells #[p0, p1, p2, p3] 24)).alloc (.cells #[.slice none 0 0, .int .i64 0, .int .i64 0, .bool false] 24)
/-- The rows kept so far. -/
def Kept (w : World) (A : List (List CellD)) (vals : List Value) : Prop := ∀ i, i < vals.length → RowVal w (vals.getD i undef) ((nth A i).take 100)
theorem keep_few {w w' : World} {p0 p1 p2 p3 x : Value} {b o : Nat} (hb : b < w.heap.size) (hx : w.cell? ⟨b, o, none⟩ = some x) (h : Below (w.heap.size + 2) (FewBoxes w p0 p1 p2 p3) w') :
    Below (w.heap.size + 2) (FewBoxes w p0 p1 p2 p3) w' ∧ w'.cell? ⟨w.heap.size, 0, none⟩ = some p0 ∧ w'.cell? ⟨b, o, none⟩ = some x := by
  have H : ∀ b o, b < w.heap.size + 2 → w'.cell? ⟨b, o, none⟩ = (FewBoxes w p0 p1 p2 p3).cell? ⟨b, o, none⟩ := fun b o hb => h.cell (p := ⟨b, o, none⟩) hb
  refine ⟨h, ?_, ?_⟩
  · rw [H _ _ (by omega)]; simp [go_sem]
  · rw [H _ _ (by omega), ← hx]
    exact (((Below.refl w.heap.size w).alloc (Nat.le_refl _) _).alloc (by simp) _).cell hb
/-- A row, cut. -/
theorem RowV.cut {w : World} {a : Option Addr} {n cap : Nat} {cs : List CellD} (h : RowV w a n cap cs) (m : Nat) (hm : m ≤ n) : RowV w a m cap (cs.take m) := by
  obtain ⟨h1, h2, h3, h4, h5⟩ := h
  refine ⟨by simp; omega, by omega, h3, h4, fun hp => ?_⟩
  obtain ⟨b, off, ha, hb, hc⟩ := h5 (by omega)
  refine ⟨b, off, ha, hb, fun i hi => ?_⟩
  have := hc i (by omega)
  have e : (cs.take m).getD i CellD.zero = cs.getD i CellD.zero := by simp [List.getD, hi]
  rwa [e]
theorem Kept.snoc {w : World} {A : List (List CellD)} {vals : List Value} {k : Nat} {v : Value} (hl : vals.length = k) (h : Kept w A vals) (hv : RowVal w v ((nth A k).take 100)) : Kept w A (vals ++ [v]) := by
  intro i hi
  by_cases hik : i < k
  · have := h i (by omega)
    have e : (vals ++ [v]).getD i undef = vals.getD i undef := by simp [List.getD, List.getElem?_append_left (show i < vals.length by omega)]
    rwa [e]
  · have hik : i = k := by simp at hi; omega
    subst hik
    have e : (vals ++ [v]).getD i undef = v := by simp [List.getD, ← hl]
    rwa [e]
theorem few_cells {w w' : World} {p0 p1 p2 p3 : Value} (h : Below (w.heap.size + 2) (FewBoxes w p0 p1 p2 p3) w') :
    (w'.cell? ⟨w.heap.size, 0, none⟩ = some p0 ∧ w'.cell? ⟨w.heap.size, 1, none⟩ = some p1 ∧ w'.cell? ⟨w.heap.size, 2, none⟩ = some p2 ∧ w'.cell? ⟨w.heap.size, 3, none⟩ = some p3 ∧ w'.frozen? ⟨w.heap.size, 0, none⟩ = false) ∧
    (w'.cell? ⟨w.heap.size + 1, 0, none⟩ = some (.slice none 0 0) ∧ w'.cell? ⟨w.heap.size + 1, 1, none⟩ = some (.int .i64 0) ∧ w'.cell? ⟨w.heap.size + 1, 2, none⟩ = some (.int .i64 0) ∧ w'.cell? ⟨w.heap.size + 1, 3, none⟩ = some (.bool false) ∧ ∀ o, w'.frozen? ⟨w.heap.size + 1, o, none⟩ = false) := by
  have H : ∀ b o, b < w.heap.size + 2 → w'.cell? ⟨b, o, none⟩ = (FewBoxes w p0 p1 p2 p3).cell? ⟨b, o, none⟩ := fun b o hb => h.cell (p := ⟨b, o, none⟩) hb
  have F : ∀ b o, b < w.heap.size + 2 → w'.frozen? ⟨b, o, none⟩ = (FewBoxes w p0 p1 p2 p3).frozen? ⟨b, o, none⟩ := fun b o hb => h.frozen (p := ⟨b, o, none⟩) hb
  refine ⟨⟨?_, ?_, ?_, ?_, ?_⟩, ?_, ?_, ?_, ?_, fun o => ?_⟩
  all_goals (first | rw [H _ _ (by omega)] | rw [F _ _ (by omega)])
  all_goals simp [go_sem]
/-- What a value looks like that the call owns; and, of rows of one cell each, where its elements lie. -/
theorem owns_form {w : World} {base : Nat} {e : TypeId} {v : Value} {n : Nat} {xs : List Value} (h : w.ownsRow base e 1 v n xs) :
    ∃ x cap, v = .slice x n cap ∧ n ≤ cap ∧ cap ≤ 9223372036854775807 ∧ n = xs.length ∧ (0 < n → ∃ g, x = some ⟨g, 0, none⟩ ∧ base ≤ g ∧ g < w.heap.size ∧ ∀ i, i < n → w.cell? ⟨g, i, none⟩ = some (xs.getD i undef)) := by
  have hl := h.1
  rcases h.2 with ⟨rfl, h0⟩ | ⟨g, cap, cur, rfl, hb, hg, hnc, hcm, hcs, htake⟩
  · subst h0; exact ⟨none, 0, rfl, Nat.le_refl _, by omega, by omega, fun hp => absurd hp (by omega)⟩
  · refine ⟨some ⟨g, 0, none⟩, cap, rfl, hnc, by simpa [maxLen] using hcm, by omega, fun _ => ⟨g, rfl, hb, (Array.getElem?_eq_some_iff.1 hg).1, fun i hi => ?_⟩⟩
    rw [cell_of_row w g i cur e (0, 0) hg]
    have : xs[i]? = cur[i]? := by rw [← htake]; simp [List.getElem?_take]; omega
    rw [← this, List.getD, List.getElem?_eq_getElem (by omega)]
    rfl
abbrev Stored (w wr : World) (v r c s : Value) : World := ((((wr.setCell ⟨w.heap.size, 0, none⟩ v).setCell ⟨w.heap.size + 1, 0, none⟩ v).setCell ⟨w.heap.size + 1, 1, none⟩ r).setCell ⟨w.heap.size + 1, 2, none⟩ c).setCell ⟨w.heap.size + 1, 3, none⟩ s
theorem few_close {wo w wr : World} {p0 p1 p2 p3 v r' c' s' : Value} {x3 : Option Addr} {k cap3 n : Nat} {A : List (List CellD)} {vals : List Value} (hB : Below (w.heap.size + 2) (FewBoxes w p0 p1 p2 p3) wr) (h1 : k ≤ cap3) (h2 : cap3 ≤ 9223372036854775807) (h3 : k = vals.length)
    (h4 : 0 < k → ∃ g, x3 = some ⟨g, 0, none⟩ ∧ w.heap.size + 2 ≤ g ∧ g < wr.heap.size ∧ ∀ i, i < k → wr.cell? ⟨g, i, none⟩ = some (vals.getD i undef)) (hk : Kept wo A vals) (hn : n = A.length) (hkn : k = n ∧ k ≤ 30 ∨ k = 30 ∧ k < n) :
    RowsN wo (Stored w wr v r' c' s') w.heap.size x3 k cap3 (fewOf A) ∧ Below w.heap.size w (Stored w wr v r' c' s') := by
  have hbel : Below w.heap.size w (Stored w wr v r' c' s') := (((((((Below.refl _ _).alloc (Nat.le_refl _) _).alloc (by simp) _).trans (hB.mono (by omega))).setCell (by simp) _).setCell (by simp) _).setCell (by simp) _).setCell (by simp) _ |>.setCell (by simp) _
  refine ⟨⟨by simp [fewOf]; omega, h1, h2, fun hp => ?_⟩, hbel⟩
  obtain ⟨g, rfl, hg, hlt, hc⟩ := h4 hp
  refine ⟨g, rfl, by omega, by simpa using hlt, fun i hi => ⟨vals.getD i undef, ?_, ?_⟩⟩
  · rw [← hc i hi]
    have e : (Stored w wr v r' c' s').heap[g]? = wr.heap[g]? := by
      rw [Below.heap_setCell _ _ _ _ (by simp; omega), Below.heap_setCell _ _ _ _ (by simp; omega), Below.heap_setCell _ _ _ _ (by simp; omega), Below.heap_setCell _ _ _ _ (by simp; omega), Below.heap_setCell _ _ _ _ (by simp; omega)]
    exact World.cell?_of_block e
  · rw [nth_few A i (by omega)]
    exact hk i (by omega)
set_option maxHeartbeats 2000000 in
theorem few_any (a : Option Addr) (n cap : Nat) (r c : Int) (s : Bool) (A : List (List CellD)) (wo w : World) (hx : RowsV wo a n cap A) (hw : Below wo.heap.size wo w) :
    Calls Try.prog 6 #[.agg #[.slice a n cap, .int .i64 r, .int .i64 c, .bool s]] w (GivesFew wo w A r c s) := by
  obtain ⟨i0, hi, hz0, hz1, hz2⟩ := info_parts Try.info66
  have hn : n ≤ 9223372036854775807 := by have := hx.2.1; have := hx.2.2.1; omega
  have HX := Lib.hid hx
  have HI := Lib.hid hi
  have HZ0 := Lib.hid hz0
  have HZ1 := Lib.hid hz1
  have HZ2 := Lib.hid hz2
  have HW := Lib.hid hw
  have hsz0 : wo.heap.size ≤ w.heap.size := hw.size
  clear hx hi hz0 hz1 hz2 hw
  go_enter Try.func6, Try.ntmps6
  go_wp2
  go_loopw [3, 4] (fun v i wr => ∃ (k : Nat) (vals : List Value), vals.length = k ∧ k ≤ n ∧ k ≤ 30 ∧ i = .int .i64 k ∧ wr.ownsRow (w.heap.size + 2) 66 1 v k vals ∧ Hid (Kept wo A vals) ∧ 
     Below (w.heap.size + 2) (FewBoxes w (.slice a n cap) (.int .i64 r) (.int .i64 c) (.bool s)) wr) (fun _ i _ => n - (intOf i).toNat)
  case atStart => exact ⟨0, [], rfl, by omega, by omega, rfl, World.ownsRow_nil _ _ _ _, fun i hi => absurd hi (by simp), Below.refl _ _⟩
  case round =>
    obtain ⟨k, vals, hlen, hk, hk30, rfl, hown, hkept, hbel⟩ := hrel
    by_cases hlt : k < n ∧ k < 30
    · obtain ⟨hlt, hlt30⟩ := hlt
      obtain ⟨b, off, rfl, hb', hc⟩ := HX.out.2.2.2 (by omega)
      obtain ⟨rv, hv, ar, nr, cr, rfl, hr⟩ := hc k hlt
      rw [← HW.out.cell (p := ⟨b, off + k, none⟩) hb'] at hv
      have hb : b < w.heap.size := by omega
      have hr2 := hr.2.1
      have hr3 := hr.2.2.1
      have HR := Lib.hid hr
      have HL := Lib.hid hlen
      have HB := Lib.hid hbel
      have HV := Lib.hid hv
      have HO := Lib.hid hown
      have hlow := Lib.hid hown.lt
      have hsz : w.heap.size + 2 ≤ wr.heap.size := by have := hbel.size; simpa using this
      have hk0 : (0 : Int) ≤ (k : Int) := by omega
      have hk1 : (k : Int) < (n : Int) := by omega
      obtain ⟨_, hfb, _⟩ := keep_few hb HV.out HB.out
      clear hc hr hlen hbel hv hown
      rcases (by omega : nr ≤ 100 ∨ 100 < nr) with hm | hm
      · have HN := Lib.hid (Kept.snoc HL.out hkept.out ⟨ar, nr, cr, rfl, by have := HR.out; rwa [← List.take_of_length_le (by rw [← this.1]; exact hm : (nth A k).length ≤ 100)] at this⟩)
        have hq0 : (0 : Int) ≤ (nr : Int) := by omega
        have hq1 : (nr : Int) ≤ (cr : Int) := by omega
        have hq2 : (nr : Int) ≤ 100 := by omega
        have hq3 : ((100 : Int) < (nr : Int)) = False := by simp; omega
        go_wp2
        go_region_held3 (fun w' => Below (w.heap.size + 2) (FewBoxes w (.slice (some ⟨b, off, none⟩) n cap) (.int .i64 r) (.int .i64 c) (.bool s)) w' ∧ w'.cell? ⟨w.heap.size, 0, none⟩ = some (.slice (some ⟨b, off, none⟩) n cap) ∧ w'.cell? ⟨b, off + k, none⟩ = some (.slice ar nr cr))
          (first | exact keep_few hb HV.out HB.out.drew | exact keep_few hb HV.out ((HB.out.alloc hsz _).drew) | (exact keep_few hb HV.out (((HB.out.alloc hsz _).drew).grown hgrow (by simp; omega) (fun q hq => (hlow.out q hq).1))))
          ((refine step_append_lies _ (by rfl) _ _ _ (by rfl) (w.heap.size + 2) 66 i0 _ 1 24 Try.underlying22 HI.out HZ0.out HZ1.out HZ2.out rfl (by omega) u3 k vals (by rfl) ((HO.out.alloc _).drew) ⟨wr.heap.size, 0, none⟩ 1 1 [.slice ar nr cr] (by rfl) (by rfl) (World.news_of_block (cs := #[.slice ar nr cr]) (t := 66) (fr := (0, 0)) (heap_alloc_new wr _)) (by simp [Value.oneCell']) (by omega) (by unfold maxLen; omega) (by omega) (by simp; omega) (wr.heap.size + 1) (by simp) ?_; intro gg gcap w1 hown1 hgrow hat hltg))
        go_wp2
        go_roundw
        case rel => exact ⟨k + 1, vals ++ [.slice ar nr cr], by simp [HL.out], by omega, by omega, by go_num, hown1, HN, ((HB.out.alloc hsz _).drew).grown hgrow (by simp; omega) (fun q hq => (hlow.out q hq).1)⟩
        case measure => simp [intOf]; omega
      · have HN := Lib.hid (Kept.snoc HL.out hkept.out ⟨ar, 100, cr, rfl, HR.out.cut 100 (by omega)⟩)
        have hq0 : (0 : Int) ≤ (nr : Int) := by omega
        have hq1 : (100 : Int) ≤ (cr : Int) := by omega
        have hq2 : (100 : Int) < nr := by omega
        go_wp2
        go_region_held3 (fun w' => Below (w.heap.size + 2) (FewBoxes w (.slice (some ⟨b, off, none⟩) n cap) (.int .i64 r) (.int .i64 c) (.bool s)) w' ∧ w'.cell? ⟨w.heap.size, 0, none⟩ = some (.slice (some ⟨b, off, none⟩) n cap) ∧ w'.cell? ⟨b, off + k, none⟩ = some (.slice ar nr cr))
          (first | exact keep_few hb HV.out HB.out.drew | exact keep_few hb HV.out ((HB.out.alloc hsz _).drew) | (exact keep_few hb HV.out (((HB.out.alloc hsz _).drew).grown hgrow (by simp; omega) (fun q hq => (hlow.out q hq).1))))
          ((refine step_append_lies _ (by rfl) _ _ _ (by rfl) (w.heap.size + 2) 66 i0 _ 1 24 Try.underlying22 HI.out HZ0.out HZ1.out HZ2.out rfl (by omega) u3 k vals (by rfl) ((HO.out.alloc _).drew) ⟨wr.heap.size, 0, none⟩ 1 1 [.slice ar 100 cr] (by rfl) (by rfl) (World.news_of_block (cs := #[.slice ar 100 cr]) (t := 66) (fr := (0, 0)) (heap_alloc_new wr _)) (by simp [Value.oneCell']) (by omega) (by unfold maxLen; omega) (by omega) (by simp; omega) (wr.heap.size + 1) (by simp) ?_; intro gg gcap w1 hown1 hgrow hat hltg))
        go_wp2
        go_roundw
        case rel => exact ⟨k + 1, vals ++ [.slice ar 100 cr], by simp [HL.out], by omega, by omega, by go_num, hown1, HN, ((HB.out.alloc hsz _).drew).grown hgrow (by simp; omega) (fun q hq => (hlow.out q hq).1)⟩
        case measure => simp [intOf]; omega
    · have HB := Lib.hid hbel
      have HO := Lib.hid hown
      have HL := Lib.hid hlen
      obtain ⟨⟨c0, c1, c2, c3, c4⟩, d0, d1, d2, d3, d4⟩ := few_cells hbel
      obtain ⟨x3, cap3, rfl, hv1, hv2, hv3, hv4⟩ := owns_form hown
      have HV4 := Lib.hid hv4
      have HV3 := Lib.hid hv3
      clear hbel hown hlen hv3 hv4
      rcases (by omega : (k < n ∧ k = 30) ∨ k = n) with ⟨h1, h2⟩ | h2
      · subst h2
        go_wp2
        have hfin := few_close (v := .slice x3 30 cap3) (r' := .int .i64 r) (c' := .int .i64 c) (s' := .bool s) HB.out hv1 hv2 HV3.out HV4.out hkept.out HX.out.1 (.inr ⟨rfl, h1⟩)
        exact bodyPost_ret (v := .agg #[.slice x3 30 cap3, .int .i64 r, .int .i64 c, .bool s]) (by simp [results, Try.results6, go_sem, d0, d1, d2, d3]) rfl ⟨x3, 30, cap3, rfl, hfin.1, hfin.2⟩
      · subst h2
        go_wp2
        have hfin := few_close (v := .slice x3 k cap3) (r' := .int .i64 r) (c' := .int .i64 c) (s' := .bool s) HB.out hv1 hv2 HV3.out HV4.out hkept.out HX.out.1 (.inl ⟨rfl, hk30⟩)
        exact bodyPost_ret (v := .agg #[.slice x3 k cap3, .int .i64 r, .int .i64 c, .bool s]) (by simp [results, Try.results6, go_sem, d0, d1, d2, d3]) rfl ⟨x3, k, cap3, rfl, hfin.1, hfin.2⟩
end Go.Proofs.Ytcbdmaffcjdnbaa
