/- Own texts, merged: X3, X1. -/
import Derived.Test.YtfalcmbjjlgoaaaGreatDoorXM
import Derived.Test.YtfalcmbjjlgoaaaGreatDoorQ6
import Derived.Test.YtfalcmbjjlgoaaaGreatDoorQF
/- A parsed number, within what is told, and told back: plain. -/
namespace Go.Proofs.YtfalcmbjjlgoaaaGreatDoor
open Ieee Go.Lib
theorem ofIR (k : Nat) : ofI k = double.word false (RN (-1074) (k * 2 ^ ((0 : Int) - -1074).toNat)) := by
  have e : ofI (k : Int) = double.nearest (decide ((k : Int) < 0)) (k : Int).natAbs 0 := rfl
  rw [decide_eq_false (by omega), Int.natAbs_natCast, nearest_RN _ _ 0 (-1074) (by omega) (by omega)] at e
  exact e
theorem ofI_neg (k : Nat) : isNeg (ofI k) = false := by rw [ofIR]; exact isNeg_word _ _ (RN_lt _ _)
theorem ofI_mono {k l : Nat} (h : k ≤ l) : rung (ofI k) ≤ rung (ofI l) := by
  rw [ofIR, ofIR, rung_word _ _ (RN_lt _ _), rung_word _ _ (RN_lt _ _)]
  exact RN_mono _ (Nat.mul_le_mul_right _ h)
theorem word_pos (r : Nat) : double.word false r = r := by unfold Format.word; simp
theorem pos_rung {x : Nat} (h : isNeg x = false) (hx : x < 2 ^ 64) : rung x = x := by
  unfold isNeg at h
  unfold rung
  simp at h
  omega
/-- The rung of a value in finer units. -/
theorem RN_fine {r : Nat} (hr : r ≤ 2047 * 2 ^ 52) (b : Int) (hb : b ≤ -1074) : RN b (valN r * 2 ^ ((-1074 : Int) - b).toNat) = r := by
  have h1 := nearest_RN false (valN r) (-1074) b hb hb
  have h2 := nearest_RN false (valN r) (-1074) (-1074) (by omega) (by omega)
  rw [h1, word_pos, word_pos] at h2
  rw [h2, show ((-1074 : Int) - -1074).toNat = 0 by omega, Nat.pow_zero, Nat.mul_one]
  exact RN_exact hr
theorem pw_read2 (k : Nat) (h : k ≤ 6) : ∃ (n J : Nat), double.read (pw k) = .number false n (-(J : Int)) ∧ J ≤ 52 ∧ n = 10 ^ k * 2 ^ J ∧ n.log2 = 52 := by
  match k, h with
  | 0, _ => exact ⟨2 ^ 52, 52, by decide +kernel, by decide, by decide, by decide +kernel⟩
  | 1, _ => exact ⟨5629499534213120, 49, by decide +kernel, by decide, by decide, by decide +kernel⟩
  | 2, _ => exact ⟨7036874417766400, 46, by decide +kernel, by decide, by decide, by decide +kernel⟩
  | 3, _ => exact ⟨8796093022208000, 43, by decide +kernel, by decide, by decide, by decide +kernel⟩
  | 4, _ => exact ⟨5497558138880000, 39, by decide +kernel, by decide, by decide, by decide +kernel⟩
  | 5, _ => exact ⟨6871947673600000, 36, by decide +kernel, by decide, by decide, by decide +kernel⟩
  | 6, _ => exact ⟨8589934592000000, 33, by decide +kernel, by decide, by decide, by decide +kernel⟩
/-- What dividing leaves, against what is divided. -/
theorem quo_le (D T J m : Nat) (hT : 0 < T) (hm : m = D * 2 ^ J) : 2 * (m / (T * 2 ^ J)) + (m % (T * 2 ^ J) != 0).toNat ≤ 2 * D ∧ (T = 1 → 2 * (m / (T * 2 ^ J)) + (m % (T * 2 ^ J) != 0).toNat = 2 * D) := by
  have hp : 0 < 2 ^ J := Nat.two_pow_pos J
  rw [hm, Nat.mul_div_mul_right _ _ hp, Nat.mul_mod_mul_right]
  have e := Nat.div_add_mod D T
  have h1 : D / T ≤ T * (D / T) := Nat.le_mul_of_pos_left _ hT
  constructor
  · by_cases q : D % T = 0
    · rw [q, Nat.zero_mul]; simp; omega
    · have hb : (D % T * 2 ^ J != 0).toNat ≤ 1 := by cases (D % T * 2 ^ J != 0) <;> simp
      omega
  · rintro rfl
    rw [Nat.mod_one, Nat.div_one, Nat.zero_mul]
    rfl
theorem read_fin2 (x : Nat) (h : rung x < 2047 * 2 ^ 52) : ∃ m i, double.read x = .number (isNeg x) m i ∧ -1074 ≤ i ∧ m * 2 ^ (i - -1074).toNat = valN (rung x) ∧ m < 2 ^ 53 := by
  have hl : double.leastPlace = -1074 := by decide
  unfold rung at h ⊢
  have hw : double.signWeight = 2 ^ 63 := by decide
  have hb : double.binade = 2 ^ 52 := by decide
  have hi : double.infRung = 2047 * 2 ^ 52 := by decide
  unfold Format.read isNeg valN
  simp only [hw, hb, hi, hl]
  by_cases h1 : x % 2 ^ 63 < 2 ^ 52
  · rw [if_pos h1, if_pos h1]
    exact ⟨_, _, rfl, Int.le_refl _, by simp, by omega⟩
  · rw [if_neg h1, if_pos h, if_neg h1]
    refine ⟨_, _, rfl, by omega, ?_, by omega⟩
    congr 2
    omega
theorem pow_mul3 (a : Nat) {x y z : Nat} (h : x + y = z) : a * 2 ^ x * 2 ^ y = a * 2 ^ z := by rw [Nat.mul_assoc, ← Nat.pow_add, h]
theorem div_rung {N k : Nat} (hN : N < 2 ^ 53) (hk : k ≤ 6) {q : Nat} (h : double.div (ofI N) (pw k) = some q) : isNeg q = false ∧ q < 2 ^ 64 ∧ rung q ≤ rung (ofI N) ∧ (k = 0 → q = ofI N) := by
  have hf : rung (ofI N) < 2047 * 2 ^ 52 := by simpa [finB] using ofI_fin N hN
  obtain ⟨m, i, h1, h2, h3, h4⟩ := read_fin2 (ofI N) hf
  obtain ⟨n, J, k1, k2, k3, k4⟩ := pw_read2 k hk
  rw [ofI_neg] at h1
  have hn : n ≠ 0 := by intro e; rw [e] at k4; revert k4; decide
  unfold Format.div at h
  rw [h1, k1] at h
  simp only [Datum.quotient, hn, if_false, Option.map_some] at h
  have hfb : double.fractionBits = 52 := rfl
  rw [hfb, k4] at h
  obtain ⟨more, hmore⟩ : ∃ x, x = 52 + 2 + 52 - m.log2 := ⟨_, rfl⟩
  rw [← hmore] at h
  have h := (Option.some.inj h).symm
  have hmr : 53 ≤ more := by
    rcases Nat.eq_zero_or_pos m with z | z
    · rw [z] at hmore; simp at hmore; omega
    · have := (Nat.log2_lt (by omega)).2 h4
      omega
  obtain ⟨g1, g2⟩ := quo_le (m * 2 ^ (more - J)) (10 ^ k) J (m <<< more) (Nat.pow_pos (by decide)) (by rw [Nat.shiftLeft_eq, pow_mul3 m (show more - J + J = more by omega)])
  rw [← k3] at g1 g2
  generalize 2 * (m <<< more / n) + (m <<< more % n != 0).toNat = Q at g1 g2 h
  obtain ⟨b, hb⟩ : ∃ b : Int, b = min (i + J - more - 1) (-1074) := ⟨_, rfl⟩
  have hq : q = double.word false (RN b (Q * 2 ^ (i - -(J : Int) - more - 1 - b).toNat)) := by
    rw [h]
    exact nearest_RN false Q _ b (by omega) (by omega)
  have hX : 2 * (m * 2 ^ (more - J)) * 2 ^ (i - -(J : Int) - more - 1 - b).toNat = valN (rung (ofI N)) * 2 ^ ((-1074 : Int) - b).toNat := by
    rw [← h3, Nat.mul_comm 2, show (2 : Nat) = 2 ^ 1 from rfl, pow_mul3 m rfl, pow_mul3 m rfl, pow_mul3 m rfl]
    congr 2
    omega
  have hfine := RN_fine (Nat.le_of_lt hf) b (by omega)
  rw [word_pos] at hq
  have hlt := RN_lt b (Q * 2 ^ (i - -(J : Int) - more - 1 - b).toNat)
  have hrq : rung q = q := by unfold rung; omega
  refine ⟨by unfold isNeg; rw [hq, Nat.div_eq_of_lt hlt]; rfl, by omega, ?_, fun e => ?_⟩
  · rw [hrq, hq]
    refine Nat.le_trans ?_ (Nat.le_of_eq hfine)
    rw [← hX]
    exact RN_mono b (Nat.mul_le_mul_right _ g1)
  · have g3 := g2 (by rw [e])
    rw [hq, g3, hX, hfine]
    exact pos_rung (ofI_neg N) (ofI_lt N)
/-- A number that is parsed. -/
def parsedN (n : Nat) : Prop := ∃ d, NumT d ∧ n = valV d
theorem top_ofI : ofI ((999999999999999 : Nat) : Int) = topN := by decide +kernel
theorem parsed_in {n : Nat} (h : parsedN n) : isNeg n = false ∧ n < 2 ^ 64 ∧ inN n = true := by
  obtain ⟨d, hd, rfl⟩ := h
  have hb := numT_take hd d.length
  rw [List.take_length] at hb
  obtain ⟨v1, v2, v3⟩ := valV_some hd
  obtain ⟨g1, g2, g3, _⟩ := div_rung (Nat.lt_of_lt_of_le hb.1 (by decide)) hb.2 v1
  refine ⟨g1, g2, ?_⟩
  have h1 : rung (valV d) ≤ rung topN := by
    refine Nat.le_trans g3 ?_
    rw [← top_ofI]
    exact ofI_mono (by have := hb.1; omega)
  have h2 : valN (rung (valV d)) ≤ valN (rung topN) := by
    rcases Nat.lt_or_eq_of_le h1 with q | q
    · exact Nat.le_of_lt (valN_lt q)
    · rw [q]; exact Nat.le_refl _
  have s1 : sv (valV d) = (valN (rung (valV d)) : Int) := by unfold sv; rw [g1]; rfl
  have s2 : sv topN = (valN (rung topN) : Int) := by unfold sv; rw [if_neg (by decide)]
  have z0 : sv 0 = 0 := by decide
  unfold inN geB lqB
  rw [order_val _ 0 v2 (by decide), order_val _ topN v2 (by decide), s1, s2, z0]
  generalize valN (rung (valV d)) = a at h2 ⊢
  generalize valN (rung topN) = b at h2 ⊢
  have c1 : compare (a : Int) 0 = .gt ∨ compare (a : Int) 0 = .eq := by
    rcases Nat.eq_zero_or_pos a with z | z
    · right; rw [z]; decide
    · left; exact Int.compare_eq_gt.2 (by omega)
  have c2 : compare (a : Int) (b : Int) = .lt ∨ compare (a : Int) (b : Int) = .eq := by
    rcases Nat.lt_or_eq_of_le h2 with z | z
    · left; exact Int.compare_eq_lt.2 (by omega)
    · right; rw [z]; exact Int.compare_eq_eq.2 rfl
  rcases c1 with e | e <;> rcases c2 with e2 | e2 <;> rw [e, e2] <;> decide
theorem isEq_same {x y : Nat} (hx : isNan x = false) (hy : isNan y = false) (nx : isNeg x = false) (ny : isNeg y = false) (lx : x < 2 ^ 64) (ly : y < 2 ^ 64) (h : (Ieee.double.order x y == some .eq) = true) : x = y := by
  rw [order_val x y hx hy] at h
  have h' : compare (sv x) (sv y) = .eq := by simpa using h
  have e := Int.compare_eq_eq.1 h'
  unfold sv at e
  rw [nx, ny] at e
  simp only [Bool.false_eq_true, if_false] at e
  have e2 : rung x = rung y := valN_inj (by omega)
  rw [pos_rung nx lx, pos_rung ny ly] at e2
  exact e2
theorem dec_lt {k : Nat} (h : k < 10) : decDigits k = [UInt8.ofNat (48 + k)] := by unfold decDigits; rw [dif_pos h]
theorem dec_ge {k : Nat} (h : ¬ k < 10) : decDigits k = decDigits (k / 10) ++ [UInt8.ofNat (48 + k % 10)] := by conv => lhs; unfold decDigits; rw [dif_neg h]
theorem dig_byte {j : Nat} (h : j < 10) : isDig (UInt8.ofNat (48 + j)) = true ∧ (UInt8.ofNat (48 + j)).toNat - 48 = j := by
  have e : (UInt8.ofNat (48 + j)).toNat = 48 + j := by rw [UInt8.toNat_ofNat']; omega
  refine ⟨?_, by omega⟩
  rw [digit_dec, e]
  simp
  omega
theorem step_dig {c : UInt8} (h : isDig c = true) (x : Nat) : valStep (x, 0, false) c = (10 * x + (c.toNat - 48), 0, false) := by
  unfold valStep
  rw [if_neg (dig_46 h)]
  rfl
/-- Digits, as a number. -/
theorem dec_val (k : Nat) : valF (decDigits k) = (k, 0, false) ∧ (∀ c ∈ decDigits k, isDig c = true) ∧ decDigits k ≠ [] := by
  induction k using Nat.strongRecOn with
  | ind k ih =>
    by_cases h : k < 10
    · rw [dec_lt h]
      obtain ⟨g1, g2⟩ := dig_byte h
      refine ⟨?_, by simpa using g1, by simp⟩
      unfold valF
      rw [List.foldl_cons, List.foldl_nil, step_dig g1, g2]
      simp
    · rw [dec_ge h]
      obtain ⟨g1, g2⟩ := dig_byte (Nat.mod_lt k (show 0 < 10 by decide))
      obtain ⟨i1, i2, _⟩ := ih (k / 10) (by omega)
      refine ⟨?_, ?_, by simp⟩
      · rw [valF_snoc, i1, step_dig g1, g2]
        congr 1
        omega
      · intro c hc
        rcases List.mem_append.1 hc with q | q
        · exact i2 c q
        · rw [List.mem_singleton.1 q]; exact g1
theorem dec_len : ∀ n k, k < 10 ^ (n + 1) → (decDigits k).length ≤ n + 1 := by
  intro n
  induction n with
  | zero => intro k h; rw [dec_lt (by omega)]; simp
  | succ n ih =>
    intro k h
    by_cases q : k < 10
    · rw [dec_lt q]; simp
    · rw [dec_ge q]
      have := ih (k / 10) (by rw [Nat.pow_succ] at h; omega)
      simp only [List.length_append, List.length_cons, List.length_nil]
      omega
theorem dec_valV {k : Nat} (h : k < 2 ^ 53) : valV (decDigits k) = ofI k := by
  unfold valV
  rw [(dec_val k).1]
  obtain ⟨q, h1, _⟩ := div_fin (ofI k) (ofI_fin k h) 0 (by decide)
  rw [h1]
  exact (div_rung h (by decide) h1).2.2.2 rfl
/-- What is parsed, printed as digits, is told as it was. -/
theorem parsed_back {n : Nat} (h : parsedN n) (hw : (double.order (ofI (kN n)) n == some .eq) = true) : n = valV (numT n) ∧ (∀ c ∈ numT n, isDig c = true) ∧ numT n ≠ [] ∧ (numT n).length ≤ 15 := by
  obtain ⟨h1, h2, h3⟩ := parsed_in h
  obtain ⟨hn, _⟩ := in_num h3
  have hk := (in_int h3).2
  have e : ofI (kN n) = n := isEq_same (ofI_num _) hn (ofI_neg _) h1 (ofI_lt _) h2 hw
  have hN : numT n = decDigits (kN n) := by
    unfold numT okN eqN
    rw [h3, hw]
    rfl
  rw [hN]
  obtain ⟨_, g2, g3⟩ := dec_val (kN n)
  exact ⟨by rw [dec_valV (by omega), e], g2, g3, dec_len 14 _ (by omega)⟩
end Go.Proofs.YtfalcmbjjlgoaaaGreatDoor
/- The pieces of a printed tree: plain. -/
namespace Go.Proofs.YtfalcmbjjlgoaaaGreatDoor
open Go.RowKit Go.Shelf
theorem lex_blank (S : Bs) (hne : 0 < S.length) (h : S.getD 0 0 = 32) : lex S = lex (S.drop 1) := by
  have e := lex_at S 0 (Nat.zero_le _)
  have e2 := lex_at (S.drop 1) 0 (Nat.zero_le _)
  have hb : blAt S 0 = blAt (S.drop 1) 0 + 1 := by
    cases S with
    | nil => cases hne
    | cons c t =>
      have hc : c = 32 := by simpa using h
      unfold blAt cntBl
      simp only [List.drop_zero, List.drop_succ_cons]
      rw [List.takeWhile_cons_of_pos (p := fun c => c == 32) (by simp [hc])]
      simp
  rw [List.drop_zero] at e e2
  rw [e, e2, hb]
  by_cases hq : S.length ≤ blAt (S.drop 1) 0 + 1
  · rw [if_pos hq, if_pos (by rw [List.length_drop]; omega)]
  · rw [if_neg hq, if_neg (by rw [List.length_drop]; omega)]
    rw [List.drop_drop, show 1 + blAt (S.drop 1) 0 = blAt (S.drop 1) 0 + 1 by omega]
    cases lex1 (S.drop (blAt (S.drop 1) 0 + 1)) with
    | none => rfl
    | some x =>
      obtain ⟨t, k⟩ := x
      simp only [List.drop_drop]
      rw [show 1 + (blAt (S.drop 1) 0 + k) = blAt (S.drop 1) 0 + 1 + k by omega]
theorem lex_piece (S : Bs) (hne : 0 < S.length) (h : S.getD 0 0 ≠ 32) : lex S = match lex1 S with
    | none => ([], false)
    | some (t, k) => (t :: (lex (S.drop k)).1, (lex (S.drop k)).2) := by
  have e := lex_at S 0 (Nat.zero_le _)
  have hb : blAt S 0 = 0 := by
    cases S with
    | nil => cases hne
    | cons c t =>
      unfold blAt cntBl
      rw [List.drop_zero, List.takeWhile_cons_of_neg (p := fun c => c == 32) (by simpa using h)]
      rfl
  rw [List.drop_zero, hb, if_neg (by omega), List.drop_zero] at e
  rw [e]
  cases lex1 S with
  | none => rfl
  | some x => obtain ⟨t, k⟩ := x; simp only [Nat.zero_add]
/-- What may stand behind a word or a number. -/
def Ebr (R : Bs) : Prop := R = [] ∨ ∃ c r, R = c :: r ∧ (c = 32 ∨ c = 40 ∨ c = 41 ∨ c = 44)
theorem Ebr.nil : Ebr [] := .inl rfl
theorem Ebr.cons {c : UInt8} {r : Bs} (h : c = 32 ∨ c = 40 ∨ c = 41 ∨ c = 44) : Ebr (c :: r) := .inr ⟨c, r, rfl, h⟩
theorem takeW_all {p : UInt8 → Bool} {l R : Bs} (h : ∀ c ∈ l, p c = true) (hR : R = [] ∨ ∃ c r, R = c :: r ∧ p c = false) : (l ++ R).takeWhile p = l := by
  induction l with
  | nil =>
    rcases hR with rfl | ⟨c, r, rfl, hc⟩
    · rfl
    · rw [List.nil_append, List.takeWhile_cons_of_neg (by rw [hc]; decide)]
  | cons c t ih =>
    rw [List.cons_append, List.takeWhile_cons_of_pos (h c (by simp)), ih (fun d hd => h d (by simp [hd]))]
theorem bnd_p {R : Bs} {p : UInt8 → Bool} (h : Ebr R) (h1 : p 32 = false) (h2 : p 40 = false) (h3 : p 41 = false) (h4 : p 44 = false) : R = [] ∨ ∃ c r, R = c :: r ∧ p c = false := by
  rcases h with rfl | ⟨c, r, rfl, rfl | rfl | rfl | rfl⟩
  · exact .inl rfl
  · exact .inr ⟨_, r, rfl, h1⟩
  · exact .inr ⟨_, r, rfl, h2⟩
  · exact .inr ⟨_, r, rfl, h3⟩
  · exact .inr ⟨_, r, rfl, h4⟩
theorem lex_sp (R : Bs) : lex (32 :: R) = lex R := by
  rw [lex_blank (32 :: R) (by simp) (by simp)]
  rfl
/-- One piece and what stands behind it. -/
theorem lex_one {p : Bs} {t : Tok} (R : Bs) (hp : p ≠ []) (h0 : p.getD 0 0 ≠ 32) (h : lex1 (p ++ R) = some (t, p.length)) : lex (p ++ R) = (t :: (lex R).1, (lex R).2) := by
  have hl : 0 < p.length := List.length_pos_iff.2 hp
  rw [lex_piece (p ++ R) (by simp; omega) (by rw [List.getD_eq_getElem?_getD, List.getElem?_append_left hl, ← List.getD_eq_getElem?_getD]; exact h0), h]
  simp only [List.drop_left]
theorem lex_word {w : Bs} (R : Bs) (h0 : isLet (w.getD 0 0) = true) (h : ∀ c ∈ w, isWrd c = true) (hR : Ebr R) : lex (w ++ R) = (⟨2, w⟩ :: (lex R).1, (lex R).2) := by
  cases w with
  | nil => cases h0
  | cons c t =>
    have h0' : isLet c = true := by simpa using h0
    have hd : isDig c = false := by
      have h1 := let_dec c
      have h2 := digit_dec c
      rw [h0'] at h1
      rw [h2]
      have h3 := of_decide_eq_true h1.symm
      exact decide_eq_false (by omega)
    refine lex_one R (by simp) (by simp; rintro rfl; exact absurd h0' (by decide)) ?_
    have e : cntWrd (t ++ R) = t.length := by
      unfold cntWrd
      rw [takeW_all (fun d hd => h d (by simp [hd])) (bnd_p hR rfl rfl rfl rfl)]
    rw [List.cons_append]
    simp only [lex1, hd, h0', e]
    simp [Nat.add_comm 1]
theorem lex_num {d : Bs} (R : Bs) (h : ∀ c ∈ d, isDig c = true) (hn : d ≠ []) (hl : d.length ≤ 15) (hR : Ebr R) : lex (d ++ R) = (⟨1, d⟩ :: (lex R).1, (lex R).2) := by
  have hpos : 0 < d.length := List.length_pos_iff.2 hn
  have g0 : (d ++ R).getD 0 0 = d.getD 0 0 := by rw [List.getD_eq_getElem?_getD, List.getElem?_append_left hpos, ← List.getD_eq_getElem?_getD]
  have hd : isDig (d.getD 0 0) = true := h _ (by rw [List.getD_eq_getElem?_getD, List.getElem?_eq_getElem hpos]; exact List.getElem_mem _)
  have e : cntDig (d ++ R) = d.length := by
    unfold cntDig
    rw [takeW_all h (bnd_p hR rfl rfl rfl rfl)]
  have e2 : (d ++ R).getD d.length 0 ≠ 46 := by
    rw [List.getD_eq_getElem?_getD, List.getElem?_append_right (Nat.le_refl _), Nat.sub_self]
    rcases hR with rfl | ⟨c, r, rfl, rfl | rfl | rfl | rfl⟩ <;> simp
  have e3 : numLen (d ++ R) = (d.length, d.length, 0) := by
    unfold numLen
    rw [e]
    simp only
    rw [if_neg (fun hh => e2 hh.1)]
  refine lex_one R hn (fun hh => by rw [hh] at hd; exact absurd hd (by decide)) ?_
  rw [lex1_num (by rw [g0]; exact hd), e3]
  simp only
  rw [if_pos ⟨hl, by decide⟩, List.take_left]
theorem lex_text {s : Bs} (R : Bs) (h : 39 ∉ s) : lex ([39] ++ s ++ [39] ++ R) = (⟨3, s⟩ :: (lex R).1, (lex R).2) := by
  refine lex_one R (by simp) (by simp) ?_
  have e : ([39] ++ s ++ [39] ++ R).drop 1 = s ++ (39 :: R) := by simp
  have ec : cntTxt (s ++ (39 :: R)) = s.length := by
    unfold cntTxt
    rw [takeW_all (fun c hc => by simp; rintro rfl; exact h hc) (.inr ⟨39, R, rfl, rfl⟩)]
  rw [lex1_text (by simp), e, ec, if_pos (by simp), List.take_left]
  simp
theorem lex_s1 (c : UInt8) (R : Bs) (h : isOne c = true) (h2 : isTwo c (R.getD 0 0) = false) : lex (c :: R) = (⟨4, [c]⟩ :: (lex R).1, (lex R).2) := by
  have hc : isDig c = false ∧ isLet c = false ∧ c ≠ 39 ∧ c ≠ 32 := by
    unfold isOne at h
    simp only [Bool.or_eq_true, beq_iff_eq] at h
    rcases h with ((((((((rfl | rfl) | rfl) | rfl) | rfl) | rfl) | rfl) | rfl) | rfl) | rfl <;> decide
  refine lex_one (p := [c]) R (by simp) (by simpa using hc.2.2.2) ?_
  rw [lex1_sign (by simp) (by simpa using hc.1) (by simpa using hc.2.1) (by simpa using hc.2.2.1)]
  have e1 : ([c] ++ R).getD 1 0 = R.getD 0 0 := by simp
  have e0 : ([c] ++ R).getD 0 0 = c := by simp
  rw [e0, e1, h2, h]
  simp
theorem lex_s2 (c : UInt8) (R : Bs) (h : c = 33 ∨ c = 60 ∨ c = 62) : lex ([c, 61] ++ R) = (⟨4, [c, 61]⟩ :: (lex R).1, (lex R).2) := by
  have hc : isDig c = false ∧ isLet c = false ∧ c ≠ 39 ∧ c ≠ 32 ∧ isTwo c 61 = true := by
    rcases h with rfl | rfl | rfl <;> decide
  refine lex_one (p := [c, 61]) R (by simp) (by simpa using hc.2.2.2.1) ?_
  rw [lex1_sign (by simp) (by simpa using hc.1) (by simpa using hc.2.1) (by simpa using hc.2.2.1)]
  have e1 : ([c, 61] ++ R).getD 1 0 = 61 := by simp
  have e0 : ([c, 61] ++ R).getD 0 0 = c := by simp
  rw [e0, e1, hc.2.2.2.2]
  simp
end Go.Proofs.YtfalcmbjjlgoaaaGreatDoor
