/- Plain words: the style of words, there and back. No program. -/
import Derived.Test.YtlhfdpeidlbomaaDoorT1
namespace Go.Proofs.YtlhfdpeidlbomaaDoor
/-- The number of a colour's word; 0: it is none. -/
def num (s : Bs) : Int := if s ∈ colsL then (colsL.idxOf s : Int) + 1 else 0
theorem c8 {n : Int} (h : 1 ≤ n ∧ n ≤ 8) : n = 1 ∨ n = 2 ∨ n = 3 ∨ n = 4 ∨ n = 5 ∨ n = 6 ∨ n = 7 ∨ n = 8 := by omega
theorem num_at (n : Int) (h : 1 ≤ n ∧ n ≤ 8) : num (colL n) = n := by
  rcases c8 h with e | e | e | e | e | e | e | e <;> subst e <;> decide
theorem num_none (s : Bs) (h : ∀ j : Int, 1 ≤ j ∧ j ≤ 8 → colL j ≠ s) : num s = 0 := by
  unfold num
  rw [if_neg]
  intro hm
  obtain ⟨j, hj, e⟩ := List.getElem_of_mem hm
  have hj8 : j < 8 := hj
  refine h ((j : Int) + 1) (by omega) ?_
  have e2 : ((j : Int) + 1 - 1).toNat = j := by omega
  rw [colL, e2, List.getD_eq_getElem?_getD, List.getElem?_eq_getElem hj, e]
  rfl
theorem num_in (s : Bs) : 0 ≤ num s ∧ num s ≤ 8 := by
  unfold num
  split
  · have h := List.idxOf_lt_length_of_mem (by assumption)
    have : colsL.length = 8 := rfl
    omega
  · omega
def set1 (y : Sty) (w : Bs) : Sty := if w = boldL then { y with b := true } else if w = underL then { y with u := true } else if w = inverseL then { y with i := true } else y
def set2 (y : Sty) (w : Bs) : Sty := if Lib.hasPrefix w fgL = true then { y with f := num (Lib.trimPrefix w fgL) } else y
def set3 (y : Sty) (w : Bs) : Sty := if Lib.hasPrefix w bgL = true then { y with g := num (Lib.trimPrefix w bgL) } else y
/-- A style, with what a word says. -/
def withW (y : Sty) (w : Bs) : Sty := set3 (set2 (set1 y w) w) w
def parse (s : Bs) : Sty := (sp s).foldl withW sty0
theorem set1_may {y : Sty} (h : y.may) (w : Bs) : (set1 y w).may := by unfold set1; (repeat' split) <;> exact h
theorem set2_may {y : Sty} (h : y.may) (w : Bs) : (set2 y w).may := by
  unfold set2; split
  · have := num_in (Lib.trimPrefix w fgL); exact ⟨this.1, this.2, h.2.2⟩
  · exact h
theorem set3_may {y : Sty} (h : y.may) (w : Bs) : (set3 y w).may := by
  unfold set3; split
  · have := num_in (Lib.trimPrefix w bgL); exact ⟨h.1, h.2.1, this.1, this.2⟩
  · exact h
theorem withW_may {y : Sty} (h : y.may) (w : Bs) : (withW y w).may := set3_may (set2_may (set1_may h w) w) w
theorem foldl_may (l : List Bs) : ∀ y : Sty, y.may → (l.foldl withW y).may := by
  induction l with
  | nil => exact fun y h => h
  | cons w l ih => exact fun y h => ih _ (withW_may h w)
theorem sty0_may : sty0.may := ⟨by decide, by decide, by decide, by decide⟩
theorem parse_may (s : Bs) : (parse s).may := foldl_may _ _ sty0_may
/-! ### there and back -/
theorem with_bold (y : Sty) (b : Bool) : (if b then [boldL] else []).foldl withW y = { y with b := y.b || b } := by
  cases b
  · simp
  · show withW y boldL = _
    have h1 : set1 y boldL = { y with b := true } := rfl
    have h2 : ∀ z : Sty, set2 z boldL = z := fun _ => rfl
    have h3 : ∀ z : Sty, set3 z boldL = z := fun _ => rfl
    rw [withW, h1, h2, h3]; simp
theorem with_under (y : Sty) (b : Bool) : (if b then [underL] else []).foldl withW y = { y with u := y.u || b } := by
  cases b
  · simp
  · show withW y underL = _
    have h1 : set1 y underL = { y with u := true } := rfl
    have h2 : ∀ z : Sty, set2 z underL = z := fun _ => rfl
    have h3 : ∀ z : Sty, set3 z underL = z := fun _ => rfl
    rw [withW, h1, h2, h3]; simp
theorem with_inverse (y : Sty) (b : Bool) : (if b then [inverseL] else []).foldl withW y = { y with i := y.i || b } := by
  cases b
  · simp
  · show withW y inverseL = _
    have h1 : set1 y inverseL = { y with i := true } := rfl
    have h2 : ∀ z : Sty, set2 z inverseL = z := fun _ => rfl
    have h3 : ∀ z : Sty, set3 z inverseL = z := fun _ => rfl
    rw [withW, h1, h2, h3]; simp
theorem fg_word (n : Int) (h : 1 ≤ n ∧ n ≤ 8) : fgL ++ colL n ≠ boldL ∧ fgL ++ colL n ≠ underL ∧ fgL ++ colL n ≠ inverseL ∧ Lib.hasPrefix (fgL ++ colL n) fgL = true ∧ Lib.trimPrefix (fgL ++ colL n) fgL = colL n ∧ Lib.hasPrefix (fgL ++ colL n) bgL = false ∧ (32 : UInt8) ∉ fgL ++ colL n := by
  rcases c8 h with e | e | e | e | e | e | e | e <;> subst e <;> decide
theorem bg_word (n : Int) (h : 1 ≤ n ∧ n ≤ 8) : bgL ++ colL n ≠ boldL ∧ bgL ++ colL n ≠ underL ∧ bgL ++ colL n ≠ inverseL ∧ Lib.hasPrefix (bgL ++ colL n) bgL = true ∧ Lib.trimPrefix (bgL ++ colL n) bgL = colL n ∧ Lib.hasPrefix (bgL ++ colL n) fgL = false ∧ (32 : UInt8) ∉ bgL ++ colL n := by
  rcases c8 h with e | e | e | e | e | e | e | e <;> subst e <;> decide
theorem with_fg (y : Sty) (n : Int) (h : 0 ≤ n ∧ n ≤ 8) (h0 : y.f = 0) : (if 0 < n then [fgL ++ colL n] else []).foldl withW y = { y with f := n } := by
  by_cases hn : 0 < n
  · obtain ⟨a, b, c, d, e, f, _⟩ := fg_word n ⟨by omega, h.2⟩
    rw [if_pos hn]
    rw [List.foldl_cons, List.foldl_nil]
    rw [withW, set1, if_neg a, if_neg b, if_neg c, set2, if_pos d, e, num_at n ⟨by omega, h.2⟩, set3, if_neg (by rw [f]; exact Bool.false_ne_true)]
  · rw [if_neg hn]
    obtain ⟨_, _, _, yf, _⟩ := y
    have e : n = 0 := by omega
    simp only [] at h0
    subst e h0
    rfl
theorem with_bg (y : Sty) (n : Int) (h : 0 ≤ n ∧ n ≤ 8) (h0 : y.g = 0) : (if 0 < n then [bgL ++ colL n] else []).foldl withW y = { y with g := n } := by
  by_cases hn : 0 < n
  · obtain ⟨a, b, c, d, e, f, _⟩ := bg_word n ⟨by omega, h.2⟩
    rw [if_pos hn]
    rw [List.foldl_cons, List.foldl_nil]
    rw [withW, set1, if_neg a, if_neg b, if_neg c, set2, if_neg (by rw [f]; exact Bool.false_ne_true), set3, if_pos d, e, num_at n ⟨by omega, h.2⟩]
  · rw [if_neg hn]
    obtain ⟨_, _, _, _, yg⟩ := y
    have e : n = 0 := by omega
    simp only [] at h0
    subst e h0
    rfl
theorem fold_wl (y : Sty) (h : y.may) : (wl y).foldl withW sty0 = y := by
  unfold wl
  simp only [List.foldl_append]
  rw [with_bold, with_under, with_inverse, with_fg _ _ ⟨h.1, h.2.1⟩ rfl, with_bg _ _ h.2.2 rfl]
  obtain ⟨b, u, i, f, g⟩ := y
  simp [sty0]
theorem wl_word (y : Sty) (h : y.may) : ∀ w ∈ wl y, w ≠ [] ∧ (32 : UInt8) ∉ w := by
  intro w hw
  unfold wl at hw
  simp only [List.mem_append] at hw
  rcases hw with (((hw | hw) | hw) | hw) | hw
  · split at hw
    · simp only [List.mem_singleton] at hw; subst hw; exact ⟨by decide, by decide⟩
    · cases hw
  · split at hw
    · simp only [List.mem_singleton] at hw; subst hw; exact ⟨by decide, by decide⟩
    · cases hw
  · split at hw
    · simp only [List.mem_singleton] at hw; subst hw; exact ⟨by decide, by decide⟩
    · cases hw
  · split at hw
    · simp only [List.mem_singleton] at hw; subst hw
      exact ⟨by simp [fgL], (fg_word y.f ⟨by omega, h.2.1⟩).2.2.2.2.2.2⟩
    · cases hw
  · split at hw
    · simp only [List.mem_singleton] at hw; subst hw
      exact ⟨by simp [bgL], (bg_word y.g ⟨by omega, h.2.2.2⟩).2.2.2.2.2.2⟩
    · cases hw
theorem wl_nil (y : Sty) (h : y.may) (hn : wl y = []) : y = sty0 := by
  rw [← fold_wl y h, hn]; rfl
theorem parse_words (y : Sty) (h : y.may) : parse (wordsL y) = y := by
  unfold wordsL
  by_cases hn : wl y = []
  · rw [if_pos hn, wl_nil y h hn]; decide
  · rw [if_neg hn, parse, sp_join _ hn (fun w hw => (wl_word y h w hw).2), fold_wl y h]
/-- The reference's styles, one by one. -/
def yi (i : Nat) : Sty := ⟨i % 2 == 1, i / 2 % 2 == 1, i / 4 % 2 == 1, ((i / 8 % 9 : Nat) : Int), ((i / 72 : Nat) : Int)⟩
theorem yi_may (i : Nat) (h : i < 648) : (yi i).may := by unfold yi Sty.may; simp only []; omega
theorem yi_all (y : Sty) (h : y.may) : ∃ i, i < 648 ∧ yi i = y := by
  obtain ⟨b, u, i, f, g⟩ := y
  obtain ⟨h1, h2, h3, h4⟩ := h
  simp only [] at h1 h2 h3 h4
  obtain ⟨f, rfl⟩ := Int.eq_ofNat_of_zero_le h1
  obtain ⟨g, rfl⟩ := Int.eq_ofNat_of_zero_le h3
  have hb : b.toNat ≤ 1 := by cases b <;> decide
  have hu : u.toNat ≤ 1 := by cases u <;> decide
  have hi : i.toNat ≤ 1 := by cases i <;> decide
  refine ⟨b.toNat + 2 * u.toNat + 4 * i.toNat + 8 * f + 72 * g, by omega, ?_⟩
  unfold yi
  rw [Sty.mk.injEq]
  refine ⟨?_, ?_, ?_, by omega, by omega⟩
  · rw [show (b.toNat + 2 * u.toNat + 4 * i.toNat + 8 * f + 72 * g) % 2 = b.toNat by omega]; cases b <;> rfl
  · rw [show (b.toNat + 2 * u.toNat + 4 * i.toNat + 8 * f + 72 * g) / 2 % 2 = u.toNat by omega]; cases u <;> rfl
  · rw [show (b.toNat + 2 * u.toNat + 4 * i.toNat + 8 * f + 72 * g) / 4 % 2 = i.toNat by omega]; cases i <;> rfl
/-- Are these the words of a style? -/
def okS (s : Bs) : Bool := decide (wordsL (parse s) = s)
def styS (s : Bs) : Sty := if okS s = true then parse s else sty0
def errS (s : Bs) : Int := if okS s = true then 0 else 310
theorem styS_found (s : Bs) (k : Nat) (hk : k < 648) (h : wordsL (yi k) = s) : okS s = true ∧ styS s = yi k ∧ errS s = 0 := by
  have e : parse s = yi k := by rw [← h, parse_words _ (yi_may k hk)]
  have ho : okS s = true := by unfold okS; rw [e, h]; exact decide_eq_true rfl
  exact ⟨ho, by rw [styS, if_pos ho, e], by rw [errS, if_pos ho]⟩
theorem styS_none (s : Bs) (h : ∀ k, k < 648 → wordsL (yi k) ≠ s) : okS s = false ∧ styS s = sty0 ∧ errS s = 310 := by
  have ho : okS s = false := by
    unfold okS
    rw [decide_eq_false_iff_not]
    intro e
    obtain ⟨i, hi, ei⟩ := yi_all _ (parse_may s)
    exact h i hi (by rw [ei]; exact e)
  have hn : ¬ okS s = true := by rw [ho]; exact Bool.false_ne_true
  exact ⟨ho, by rw [styS, if_neg hn], by rw [errS, if_neg hn]⟩
theorem styS_words (y : Sty) (h : y.may) : okS (wordsL y) = true ∧ styS (wordsL y) = y ∧ errS (wordsL y) = 0 := by
  obtain ⟨i, hi, ei⟩ := yi_all y h
  have := styS_found (wordsL y) i hi (by rw [ei])
  rwa [ei] at this
theorem styS_may (s : Bs) : (styS s).may := by unfold styS; split; exact parse_may s; exact sty0_may
theorem colL_len (n : Int) : (colL n).length ≤ 10 := by
  unfold colL
  have h : ∀ k : Nat, (colsL.getD k []).length ≤ 10 := fun k => by
    by_cases hk : k < 8
    · have : ∀ k : Fin 8, (colsL.getD k.1 []).length ≤ 10 := by decide
      exact this ⟨k, hk⟩
    · have hl : colsL.length ≤ k := by have : colsL.length = 8 := rfl; omega
      rw [List.getD_eq_getElem?_getD, List.getElem?_eq_none hl]; decide
  exact h _
theorem join_len (ws : List Bs) (h : ∀ w ∈ ws, w.length ≤ 20) : (Lib.join ws [32]).length ≤ 21 * ws.length := by
  induction ws with
  | nil => simp [Lib.join, List.intercalate]
  | cons a t ih =>
    have ha := h a (by simp)
    cases t with
    | nil => simp [Lib.join, List.intercalate]; omega
    | cons b t =>
      have e : Lib.join (a :: b :: t) [32] = a ++ 32 :: Lib.join (b :: t) [32] := by simp [Lib.join, List.intercalate]
      have := ih (fun w hw => h w (by simp [hw]))
      rw [e]
      simp only [List.length_append, List.length_cons] at this ⊢
      omega
theorem wl_few (y : Sty) : (wl y).length ≤ 5 ∧ ∀ w ∈ wl y, w.length ≤ 20 := by
  constructor
  · unfold wl
    simp only [List.length_append]
    have h : ∀ (c : Prop) [Decidable c] (x : Bs), (if c then [x] else []).length ≤ 1 := fun c _ x => by split <;> simp
    have h1 := h (y.b = true) boldL
    have h2 := h (y.u = true) underL
    have h3 := h (y.i = true) inverseL
    have h4 := h (0 < y.f) (fgL ++ colL y.f)
    have h5 := h (0 < y.g) (bgL ++ colL y.g)
    omega
  · intro w hw
    unfold wl at hw
    have hf := colL_len y.f
    have hg := colL_len y.g
    have h : ∀ (c : Prop) [Decidable c] (x : Bs), w ∈ (if c then [x] else []) → w = x := fun c _ x h => by
      split at h
      · simpa using h
      · cases h
    simp only [List.mem_append] at hw
    rcases hw with (((hw | hw) | hw) | hw) | hw
    all_goals (rw [h _ _ hw]; simp [boldL, underL, inverseL, fgL, bgL]; try omega)
theorem words_len (y : Sty) : (wordsL y).length ≤ 105 := by
  unfold wordsL
  split
  · decide
  · have h1 := wl_few y
    have h2 := join_len (wl y) h1.2
    omega
end Go.Proofs.YtlhfdpeidlbomaaDoor
