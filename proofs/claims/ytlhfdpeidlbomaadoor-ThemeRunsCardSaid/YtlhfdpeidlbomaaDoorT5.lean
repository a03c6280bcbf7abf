/- Walk: Words of the reference. -/
import Derived.Test.YtlhfdpeidlbomaaDoorT4
namespace Go.Proofs.YtlhfdpeidlbomaaDoor
open Go.RowKit Go.Shelf
/-- The state of the reference's Words: the style in its box, the colours' words. -/
structure WR (w : World) (y : Sty) (g : Nat) (wx : World) : Prop where
  box : StyAt wx w.heap.size y
  cols : wx.heap[g]? = some (.cells colVs.toArray 9 (0, 0))
  bel : Below w.heap.size w wx
theorem WR.col {w wx : World} {y : Sty} {g : Nat} (h : WR w y g wx) (n : Int) (hn : 1 ≤ n ∧ n ≤ 8) : wx.cell? ⟨g, n.toNat, none⟩ = some (.string (tx (colL n))) := by
  have hc := h.cols
  rcases c8 hn with e | e | e | e | e | e | e | e <;> subst e <;> simp [World.cell?, hc] <;> rfl
/-- What the words come to, one by one. -/
def jn (l : List Bs) : Bs := Lib.join l [32]
theorem jn_snoc (ws : List Bs) (w : Bs) (hw : ∀ x ∈ ws, x ≠ []) : withR (jn ws) w = jn (ws ++ [w]) := withR_join ws hw w
structure WJ (ws : List Bs) (k : Nat) : Prop where
  few : ws.length ≤ k ∧ k ≤ 5
  wd : ∀ x ∈ ws, x.length ≤ 20 ∧ x ≠ []
theorem WJ.nil : WJ [] 0 := ⟨by simp, fun x hx => by cases hx⟩
theorem WJ.up {ws : List Bs} {k : Nat} (h : WJ ws k) (hk : k ≤ 4) : WJ ws (k + 1) := ⟨by have := h.few; omega, h.wd⟩
theorem WJ.app {ws : List Bs} {k : Nat} (h : WJ ws k) (hk : k ≤ 4) (x : Bs) (hx : x.length ≤ 20 ∧ x ≠ []) : WJ (ws ++ [x]) (k + 1) :=
  ⟨by have := h.few; simp; omega, fun z hz => by
    rcases List.mem_append.1 hz with q | q
    · exact h.wd z q
    · rw [List.mem_singleton.1 q]; exact hx⟩
theorem WJ.len {ws : List Bs} {k : Nat} (h : WJ ws k) : (jn ws).length ≤ 105 := by
  have := join_len ws (fun w hw => (h.wd w hw).1)
  have := h.few
  unfold jn
  omega
theorem WJ.with {ws : List Bs} {k : Nat} (h : WJ ws k) {S : ByteArray} (hS : S = tx (jn ws)) (x : Bs) (hx : x.length ≤ 20) (w : World) : Calls Tryd.prog 26 #[.string S, .string (tx x)] w fun e w' => e = .returned (.string (tx (jn (ws ++ [x])))) ∧ w = w' := by
  subst hS
  have := wwithR (jn ws) x (by have := h.len; omega) w
  rwa [jn_snoc ws x (fun z hz => (h.wd z hz).2)] at this
set_option maxRecDepth 100000 in
set_option maxHeartbeats 4000000 in
theorem wwordsR (y : Sty) (h : y.may) (w : World) : Calls Tryd.prog 8 #[y.v] w fun e w' => e = .returned (.tuple #[.string (tx (wordsL y)), .int .i64 0]) ∧ Below w.heap.size w w' := by
  have HM := Lib.hid h
  have HF := Lib.hid (wl_few y)
  have HWW := Lib.hid (fun x hx => (wl_word y h x hx).1)
  clear h
  obtain ⟨b, u, i, f, g⟩ := y
  have hf : 0 ≤ f ∧ f ≤ 8 := ⟨HM.out.1, HM.out.2.1⟩
  have hg : 0 ≤ g ∧ g ≤ 8 := HM.out.2.2
  have d1 : decide (f < 0) = false := decide_eq_false (by omega)
  have d2 : decide (8 < f) = false := decide_eq_false (by omega)
  have d3 : decide (g < 0) = false := decide_eq_false (by omega)
  have d4 : decide (8 < g) = false := decide_eq_false (by omega)
  unfold Sty.v
  simp only []
  go_enter Tryd.func8, Tryd.ntmps8
  go_wp2_with (first | (go_at_call 25; fail))
  go_at_call 25
  refine (wcolours _).mono ?_
  rintro e w1 ⟨rfl, rfl⟩
  have H0 : Hid (WR w ⟨b, u, i, f, g⟩ (w.heap.size + 1) ((w.alloc (.cells (styCells ⟨b, u, i, f, g⟩) 23)).alloc (.cells colVs.toArray 9))) := Lib.hid ⟨(heap_alloc_old _ _ (by simp)).trans (heap_alloc_new _ _), by have := heap_alloc_new (w.alloc (.cells (styCells ⟨b, u, i, f, g⟩) 23)) (.cells colVs.toArray 9); simpa using this, ((Below.refl w.heap.size w).alloc (Nat.le_refl _) _).alloc (by simp) _⟩
  unfold styCells at H0
  simp only [] at H0
  have e1 : (w.alloc (.cells #[.bool b, .bool u, .bool i, .int .i64 f, .int .i64 g] 23)).heap.size = w.heap.size + 1 := by simp
  rw [e1]
  clear e1
  generalize (w.alloc (.cells #[.bool b, .bool u, .bool i, .int .i64 f, .int .i64 g] 23)).alloc (.cells colVs.toArray 9) = w1 at H0 ⊢
  obtain ⟨cg, hcg⟩ : ∃ cg, cg = w.heap.size + 1 := ⟨_, rfl⟩
  rw [← hcg] at H0 ⊢
  clear hcg
  obtain ⟨c0, c1, c2, c3, c4, _⟩ := H0.out.box.get
  simp only [] at c0 c1 c2 c3 c4
  go_upto_if 24 with (fail)
  go_cut [24] (fun t wx => t = .bool false ∧ wx = w1)
  case first =>
    go_wp2
    go_meet
    exact ⟨rfl, rfl⟩
  obtain ⟨rfl, rfl⟩ := hcut
  have J0 := Lib.hid WJ.nil
  obtain ⟨S0, hS0⟩ : ∃ S0, S0 = tx (jn []) := ⟨_, rfl⟩
  have HS0 := Lib.hid hS0
  have e5 : (⟨#[]⟩ : ByteArray) = S0 := by rw [hS0]; rfl
  clear hS0
  go_upto_if 26 with (fail)
  rw [e5]
  clear e5
  obtain ⟨ws1, hws1⟩ : ∃ x, x = [] ++ (if b then [boldL] else []) := ⟨_, rfl⟩
  have HW1 := Lib.hid hws1
  clear hws1
  go_cut [5] (fun t wx => ∃ S, t = .string S ∧ Hid (S = tx (jn ws1)) ∧ Hid (WR w ⟨b, u, i, f, g⟩ cg wx) ∧ Hid (WJ ws1 1))
  case first =>
    have HA := Lib.hid (fun W => J0.out.with HS0.out boldL (by decide) W)
    unfold boldL tx at HA
    cases b
    · go_wp2
      go_meet
      rw [show ws1 = [] by rw [HW1.out]; simp]
      exact ⟨_, rfl, HS0, H0, Lib.hid (J0.out.up (by omega))⟩
    · go_wp2_with (first | (go_at_call 26; (with_reducible refine (HA.out _).mono ?_); rintro e w' ⟨rfl, rfl⟩))
      go_meet
      rw [show ws1 = [] ++ [boldL] by rw [HW1.out]; simp]
      exact ⟨_, rfl, Lib.hid rfl, H0, Lib.hid (J0.out.app (by omega) boldL (by decide))⟩
  clear c0 c1 c2 c3 c4 H0 J0 HS0
  obtain ⟨S1, rfl, HS1, H1, J1⟩ := hcut
  obtain ⟨ws2, hws2⟩ : ∃ x, x = ws1 ++ (if u then [underL] else []) := ⟨_, rfl⟩
  have HW2 := Lib.hid hws2
  clear hws2
  obtain ⟨c0, c1, c2, c3, c4, _⟩ := H1.out.box.get
  simp only [] at c0 c1 c2 c3 c4
  go_upto_if 30 with (fail)
  go_cut [5] (fun t wx => ∃ S, t = .string S ∧ Hid (S = tx (jn ws2)) ∧ Hid (WR w ⟨b, u, i, f, g⟩ cg wx) ∧ Hid (WJ ws2 2))
  case first =>
    have HA := Lib.hid (fun W => J1.out.with HS1.out underL (by decide) W)
    unfold underL tx at HA
    cases u
    · go_wp2
      go_meet
      rw [show ws2 = ws1 by rw [HW2.out]; simp]
      exact ⟨_, rfl, HS1, H1, Lib.hid (J1.out.up (by omega))⟩
    · go_wp2_with (first | (go_at_call 26; (with_reducible refine (HA.out _).mono ?_); rintro e w' ⟨rfl, rfl⟩))
      go_meet
      rw [show ws2 = ws1 ++ [underL] by rw [HW2.out]; simp]
      exact ⟨_, rfl, Lib.hid rfl, H1, Lib.hid (J1.out.app (by omega) underL (by decide))⟩
  clear c0 c1 c2 c3 c4 H1 J1 HS1
  obtain ⟨S2, rfl, HS2, H2, J2⟩ := hcut
  obtain ⟨ws3, hws3⟩ : ∃ x, x = ws2 ++ (if i then [inverseL] else []) := ⟨_, rfl⟩
  have HW3 := Lib.hid hws3
  clear hws3
  obtain ⟨c0, c1, c2, c3, c4, _⟩ := H2.out.box.get
  simp only [] at c0 c1 c2 c3 c4
  go_upto_if 34 with (fail)
  go_cut [5] (fun t wx => ∃ S, t = .string S ∧ Hid (S = tx (jn ws3)) ∧ Hid (WR w ⟨b, u, i, f, g⟩ cg wx) ∧ Hid (WJ ws3 3))
  case first =>
    have HA := Lib.hid (fun W => J2.out.with HS2.out inverseL (by decide) W)
    unfold inverseL tx at HA
    cases i
    · go_wp2
      go_meet
      rw [show ws3 = ws2 by rw [HW3.out]; simp]
      exact ⟨_, rfl, HS2, H2, Lib.hid (J2.out.up (by omega))⟩
    · go_wp2_with (first | (go_at_call 26; (with_reducible refine (HA.out _).mono ?_); rintro e w' ⟨rfl, rfl⟩))
      go_meet
      rw [show ws3 = ws2 ++ [inverseL] by rw [HW3.out]; simp]
      exact ⟨_, rfl, Lib.hid rfl, H2, Lib.hid (J2.out.app (by omega) inverseL (by decide))⟩
  clear c0 c1 c2 c3 c4 H2 J2 HS2
  obtain ⟨S3, rfl, HS3, H3, J3⟩ := hcut
  obtain ⟨ws4, hws4⟩ : ∃ x, x = ws3 ++ (if 0 < f then [(fgL ++ colL f)] else []) := ⟨_, rfl⟩
  have HW4 := Lib.hid hws4
  clear hws4
  obtain ⟨c0, c1, c2, c3, c4, _⟩ := H3.out.box.get
  simp only [] at c0 c1 c2 c3 c4
  go_upto_if 39 with (fail)
  go_cut [5] (fun t wx => ∃ S, t = .string S ∧ Hid (S = tx (jn ws4)) ∧ Hid (WR w ⟨b, u, i, f, g⟩ cg wx) ∧ Hid (WJ ws4 4))
  case first =>
    by_cases hc : 0 < f
    · have hl := colL_len f
      have HA := Lib.hid (fun W => J3.out.with HS3.out (fgL ++ colL f) (by simp [fgL]; omega) W)
      have hcell := H3.out.col f ⟨by omega, by omega⟩
      have k1 : (0 : Int) ≤ f := by omega
      have k2 : f < 9 := by omega
      have e1 : (⟨#[102, 103, 45]⟩ : ByteArray) ++ tx (colL f) = tx (fgL ++ colL f) := by apply ByteArray.ext; simp [tx, fgL]
      have hs : (tx (colL f)).size ≤ 10 := by simpa [tx, ByteArray.size] using hl
      obtain ⟨C, hC⟩ : ∃ C, C = tx (colL f) := ⟨_, rfl⟩
      rw [← hC] at hcell hs e1
      rw [← e1] at HA
      clear hC hl e1
      go_wp2_with (first | (go_at_call 26; (with_reducible refine (HA.out _).mono ?_); rintro e w' ⟨rfl, rfl⟩))
      go_meet
      rw [show ws4 = ws3 ++ [(fgL ++ colL f)] by rw [HW4.out, if_pos (by omega)]]
      exact ⟨_, rfl, Lib.hid rfl, H3, Lib.hid (J3.out.app (by omega) (fgL ++ colL f) ⟨by have := colL_len f; simp [fgL]; omega, by simp [fgL]⟩)⟩
    · go_wp2
      go_meet
      rw [show ws4 = ws3 by rw [HW4.out, if_neg (by omega)]; simp]
      exact ⟨_, rfl, HS3, H3, Lib.hid (J3.out.up (by omega))⟩
  clear c0 c1 c2 c3 c4 H3 J3 HS3
  obtain ⟨S4, rfl, HS4, H4, J4⟩ := hcut
  obtain ⟨ws5, hws5⟩ : ∃ x, x = ws4 ++ (if 0 < g then [(bgL ++ colL g)] else []) := ⟨_, rfl⟩
  have HW5 := Lib.hid hws5
  clear hws5
  obtain ⟨c0, c1, c2, c3, c4, _⟩ := H4.out.box.get
  simp only [] at c0 c1 c2 c3 c4
  go_upto_if 50 with (fail)
  go_cut [5] (fun t wx => ∃ S, t = .string S ∧ Hid (S = tx (jn ws5)) ∧ Hid (WR w ⟨b, u, i, f, g⟩ cg wx) ∧ Hid (WJ ws5 5))
  case first =>
    by_cases hc : 0 < g
    · have hl := colL_len g
      have HA := Lib.hid (fun W => J4.out.with HS4.out (bgL ++ colL g) (by simp [bgL]; omega) W)
      have hcell := H4.out.col g ⟨by omega, by omega⟩
      have k1 : (0 : Int) ≤ g := by omega
      have k2 : g < 9 := by omega
      have e1 : (⟨#[98, 103, 45]⟩ : ByteArray) ++ tx (colL g) = tx (bgL ++ colL g) := by apply ByteArray.ext; simp [tx, bgL]
      have hs : (tx (colL g)).size ≤ 10 := by simpa [tx, ByteArray.size] using hl
      obtain ⟨C, hC⟩ : ∃ C, C = tx (colL g) := ⟨_, rfl⟩
      rw [← hC] at hcell hs e1
      rw [← e1] at HA
      clear hC hl e1
      go_wp2_with (first | (go_at_call 26; (with_reducible refine (HA.out _).mono ?_); rintro e w' ⟨rfl, rfl⟩))
      go_meet
      rw [show ws5 = ws4 ++ [(bgL ++ colL g)] by rw [HW5.out, if_pos (by omega)]]
      exact ⟨_, rfl, Lib.hid rfl, H4, Lib.hid (J4.out.app (by omega) (bgL ++ colL g) ⟨by have := colL_len g; simp [bgL]; omega, by simp [bgL]⟩)⟩
    · go_wp2
      go_meet
      rw [show ws5 = ws4 by rw [HW5.out, if_neg (by omega)]; simp]
      exact ⟨_, rfl, HS4, H4, Lib.hid (J4.out.up (by omega))⟩
  clear c0 c1 c2 c3 c4 H4 J4 HS4
  obtain ⟨S5, rfl, HS5, H5, J5⟩ := hcut
  have HX : Hid (ws5 = wl ⟨b, u, i, f, g⟩) := by
    have e : ws5 = wl ⟨b, u, i, f, g⟩ := by rw [HW5.out, HW4.out, HW3.out, HW2.out, HW1.out]; rfl
    exact Lib.hid e
  clear HW1 HW2 HW3 HW4 HW5
  have HBL := Lib.hid H5.out.bel
  by_cases hn : ws5 = []
  · have e : S5 = ⟨#[]⟩ := by rw [HS5.out, hn]; rfl
    have HE : Hid (wordsL ⟨b, u, i, f, g⟩ = plainL) := by
      have e : wordsL ⟨b, u, i, f, g⟩ = plainL := by rw [wordsL, if_pos (by rw [← HX.out, hn])]
      exact Lib.hid e
    clear hn HS5
    subst e
    go_wp2
    go_ret2
    exact ⟨by rw [HE.out]; rfl, HBL.out⟩
  · have HE : Hid (wordsL ⟨b, u, i, f, g⟩ = jn ws5) := by
      have e : wordsL ⟨b, u, i, f, g⟩ = jn ws5 := by rw [wordsL, ← HX.out, if_neg hn, jn]
      exact Lib.hid e
    have hj := join_ne ws5 hn (fun x hx => (J5.out.wd x hx).2)
    have h1 : S5.toList.isEmpty = false := by rw [HS5.out, ByteArray.toList_eq]; simpa [tx, jn] using hj
    have h2 : ¬ S5.toList = [] := fun q => by rw [q] at h1; cases h1
    clear hj hn HX
    go_wp2
    go_ret2
    exact ⟨by rw [HE.out, ← HS5.out]; rfl, HBL.out⟩
end Go.Proofs.YtlhfdpeidlbomaaDoor
