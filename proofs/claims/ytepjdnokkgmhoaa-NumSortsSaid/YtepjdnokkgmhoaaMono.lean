/- Rounding keeps order. -/
import Derived.Test.YtepjdnokkgmhoaaFin
namespace Go.Proofs.Ytepjdnokkgmhoaa
open Ieee
def rne (n g : Nat) : Nat := n / g + (if g < 2 * (n % g) ∨ (g = 2 * (n % g) ∧ n / g % 2 = 1) then 1 else 0)
theorem rne_scale (n g c : Nat) (hc : 0 < c) : rne (n * c) (g * c) = rne n g := by
  unfold rne
  rw [Nat.mul_div_mul_right _ _ hc, Nat.mul_mod_mul_right]
  have e1 : g * c < 2 * (n % g * c) ↔ g < 2 * (n % g) := by
    rw [← Nat.mul_assoc]; exact Nat.mul_lt_mul_right hc
  have e2 : g * c = 2 * (n % g * c) ↔ g = 2 * (n % g) := by
    rw [← Nat.mul_assoc]; exact Nat.mul_left_inj (by omega)
  simp only [e1, e2]
theorem rne_mono {n m : Nat} (g : Nat) (h : n ≤ m) : rne n g ≤ rne m g := by
  unfold rne
  have h1 : n / g ≤ m / g := Nat.div_le_div_right h
  rcases Nat.lt_or_eq_of_le h1 with q | q
  · split <;> split <;> omega
  · have e1 := Nat.div_add_mod n g
    have e2 := Nat.div_add_mod m g
    rw [q] at e1 ⊢
    have h2 : n % g ≤ m % g := by omega
    split
    · rename_i hp
      split
      · exact Nat.le_refl _
      · rename_i hq; exfalso; apply hq
        rcases hp with hp | ⟨hp, hp2⟩
        · left; omega
        · rcases Nat.lt_or_eq_of_le h2 with z | z
          · left; omega
          · right; rw [← z]; exact ⟨hp, hp2⟩
    · omega
theorem rne_small {n g : Nat} (h : 2 * n < g) : rne n g = 0 := by
  unfold rne
  rw [Nat.div_eq_of_lt (by omega), Nat.mod_eq_of_lt (by omega), if_neg]
  omega
theorem cut_eq (s : Bool) (n d : Nat) : Toward.even.cut s n d = rne n (2 ^ d) := by
  have key : ∀ g, (let low := n / g; let rest := n % g; let more := (decide (g < 2 * rest) || (g == 2 * rest && low % 2 == 1)); low + more.toNat) = rne n g := by
    intro g
    simp only [rne]
    congr 1
    by_cases h1 : g < 2 * (n % g)
    · simp [h1]
    · by_cases h2 : g = 2 * (n % g) ∧ n / g % 2 = 1
      · rw [if_pos (.inr h2)]; obtain ⟨a, b⟩ := h2; rw [decide_eq_false h1, ← a]; simp [b]
      · rw [if_neg (fun h => h.elim h1 h2)]
        have : (g == 2 * (n % g) && n / g % 2 == 1) = false := by
          cases hh : (g == 2 * (n % g) && n / g % 2 == 1)
          · rfl
          · rw [Bool.and_eq_true, beq_iff_eq, beq_iff_eq] at hh; exact absurd hh h2
        rw [this, decide_eq_false h1]; rfl
  unfold Toward.cut
  rw [Nat.one_shiftLeft]
  rcases Nat.le_total d (n.log2 + 2) with h | h
  · rw [Nat.min_eq_left h]; exact key _
  · rw [Nat.min_eq_right h]
    refine (key _).trans ?_
    have hb : n < 2 ^ (n.log2 + 1) := Nat.lt_log2_self
    have h4 : 2 ^ (n.log2 + 2) = 2 * 2 ^ (n.log2 + 1) := by rw [Nat.pow_succ 2 (n.log2 + 1)]; omega
    have h5 : 2 ^ (n.log2 + 2) ≤ 2 ^ d := Nat.pow_le_pow_right (by omega) h
    rw [rne_small (by omega), rne_small (by omega)]
theorem rne_exact (q g : Nat) (hg : 0 < g) : rne (q * g) g = q := by
  unfold rne
  rw [Nat.mul_div_cancel _ hg, Nat.mul_mod_left, if_neg (by omega)]; rfl
theorem rne_ge (n g : Nat) : n / g ≤ rne n g := by unfold rne; omega
@[irreducible] def B52 : Nat := 2 ^ 52
@[irreducible] def I52 : Nat := 2047 * 2 ^ 52
theorem B52_eq : B52 = 2 ^ 52 := by unfold B52; rfl
theorem I52_eq : I52 = 2047 * 2 ^ 52 := by unfold I52; rfl
theorem B52_pow (M : Nat) : B52 * 2 ^ M = 2 ^ (52 + M) := by rw [B52_eq, Nat.pow_add]
theorem B53_pow (M : Nat) : (2 * B52) * 2 ^ M = 2 ^ (53 + M) := by rw [Nat.mul_assoc, B52_pow, show 53 + M = (52 + M) + 1 by omega, Nat.pow_succ, Nat.mul_comm]
theorem B52_pos : 0 < B52 := by rw [B52_eq]; exact Nat.two_pow_pos _
theorem I52_pos : 0 < I52 := by rw [I52_eq]; omega
def RNg (B I lb X : Nat) : Nat := if X = 0 then 0 else min ((max (X.log2 - 52) lb - lb) * B + rne X (2 ^ max (X.log2 - 52) lb)) I
theorem log2_scale (m j : Nat) (h : m ≠ 0) : (m * 2 ^ j).log2 = m.log2 + j := by
  have h1 := Nat.log2_self_le h
  have h2 : m < 2 ^ (m.log2 + 1) := Nat.lt_log2_self
  have hp : 0 < 2 ^ j := Nat.two_pow_pos j
  have h3 : 2 ^ (m.log2 + j) ≤ m * 2 ^ j := by rw [Nat.pow_add]; exact Nat.mul_le_mul_right _ h1
  have h4 : m * 2 ^ j < 2 ^ (m.log2 + j + 1) := by
    rw [show m.log2 + j + 1 = (m.log2 + 1) + j by omega, Nat.pow_add]; exact Nat.mul_lt_mul_of_pos_right h2 hp
  exact (Nat.log2_eq_iff (Nat.mul_ne_zero h (by omega))).2 ⟨h3, h4⟩
theorem min_mono {a b i : Nat} (h : a ≤ b) : min a i ≤ min b i := by omega
theorem log2_mono {X Y : Nat} (hX : X ≠ 0) (h : X ≤ Y) : X.log2 ≤ Y.log2 := by
  have h1 := Nat.log2_self_le hX
  have h2 : Y < 2 ^ (Y.log2 + 1) := Nat.lt_log2_self
  rcases Nat.lt_or_ge Y.log2 X.log2 with z | z
  · have : 2 ^ (Y.log2 + 1) ≤ 2 ^ X.log2 := Nat.pow_le_pow_right (by omega) z
    omega
  · exact z
theorem RNg_mono {B I lb X Y : Nat} (hB1 : ∀ M, B * 2 ^ M = 2 ^ (52 + M)) (hB2 : ∀ M, (2 * B) * 2 ^ M = 2 ^ (53 + M)) (h : X ≤ Y) : RNg B I lb X ≤ RNg B I lb Y := by
  unfold RNg
  by_cases hX : X = 0
  · rw [if_pos hX]; exact Nat.zero_le _
  · rw [if_neg hX, if_neg (by omega)]
    have hl := log2_mono hX h
    have h1 : X < 2 ^ (X.log2 + 1) := Nat.lt_log2_self
    have h2 := Nat.log2_self_le (show Y ≠ 0 by omega)
    generalize X.log2 = a at *
    generalize Y.log2 = c at *
    obtain ⟨L, hL⟩ : ∃ L, max (a - 52) lb = L := ⟨_, rfl⟩
    obtain ⟨M, hM⟩ : ∃ M, max (c - 52) lb = M := ⟨_, rfl⟩
    rw [hL, hM]
    have hLM : L ≤ M := by omega
    refine min_mono ?_
    rcases Nat.lt_or_eq_of_le hLM with q | q
    · have hX53 : X ≤ (2 * B) * 2 ^ L := by
        rw [hB2]
        exact Nat.le_trans (Nat.le_of_lt h1) (Nat.pow_le_pow_right (by omega) (by omega))
      have r1 : rne X (2 ^ L) ≤ 2 * B := by
        have := rne_mono (2 ^ L) hX53
        rwa [rne_exact _ _ (Nat.two_pow_pos _)] at this
      have hY52 : B * 2 ^ M ≤ Y := by
        rw [hB1, show 52 + M = c by omega]; exact h2
      have r2 : B ≤ rne Y (2 ^ M) := by
        have := rne_mono (2 ^ M) hY52
        rwa [rne_exact _ _ (Nat.two_pow_pos _)] at this
      have r3 : (L - lb + 1) * B ≤ (M - lb) * B := Nat.mul_le_mul_right _ (by omega)
      rw [Nat.add_mul, Nat.one_mul] at r3
      omega
    · subst q
      exact Nat.add_le_add_left (rne_mono _ h) _
theorem RNg_pos {B I lb X : Nat} (hB : 0 < B) (hI : 0 < I) (h : 2 ^ lb ≤ X) : 0 < RNg B I lb X := by
  have h0 : 0 < 2 ^ lb := Nat.two_pow_pos _
  unfold RNg
  rw [if_neg (by omega)]
  obtain ⟨L, hL⟩ : ∃ L, max (X.log2 - 52) lb = L := ⟨_, rfl⟩
  rw [hL]
  have : 0 < (L - lb) * B + rne X (2 ^ L) := by
    rcases Nat.lt_or_ge lb L with z | z
    · have : 0 < (L - lb) * B := Nat.mul_pos (by omega) hB
      omega
    · obtain rfl : L = lb := by omega
      have q : 1 ≤ X / 2 ^ L := (Nat.le_div_iff_mul_le h0).2 (by rw [Nat.one_mul]; exact h)
      have := rne_ge X (2 ^ L)
      omega
  omega
theorem place_cut (mag : Nat) (place b l : Int) (h1 : b ≤ place) (hl : b ≤ l) : rne (mag * 2 ^ (place - l).toNat) (2 ^ (l - place).toNat) = rne (mag * 2 ^ (place - b).toNat) (2 ^ (l - b).toNat) := by
  rcases Int.le_total l place with z | z
  · have e2 : (l - place).toNat = 0 := by omega
    have e3 : (place - b).toNat = (place - l).toNat + (l - b).toNat := by omega
    rw [e2, e3, Nat.pow_add, ← Nat.mul_assoc, Nat.pow_zero]
    have := rne_scale (mag * 2 ^ (place - l).toNat) 1 (2 ^ (l - b).toNat) (Nat.two_pow_pos _)
    rw [Nat.one_mul] at this
    exact this.symm
  · have e2 : (place - l).toNat = 0 := by omega
    have e3 : (l - b).toNat = (l - place).toNat + (place - b).toNat := by omega
    rw [e2, e3, Nat.pow_add, Nat.pow_zero, Nat.mul_one]
    exact (rne_scale mag (2 ^ (l - place).toNat) (2 ^ (place - b).toNat) (Nat.two_pow_pos _)).symm
theorem nearest_RNf (f : Format) (hf : f.fractionBits = 52) (hle : f.leastPlace = -1074) (s : Bool) (mag : Nat) (place b : Int) (h1 : b ≤ place) (h2 : b ≤ -1074) : f.nearest s mag place = f.word s (RNg f.binade f.infRung (-1074 - b).toNat (mag * 2 ^ (place - b).toNat)) := by
  unfold Format.nearest RNg
  by_cases h0 : mag = 0
  · rw [if_pos h0, if_pos (by rw [h0, Nat.zero_mul])]
  · rw [if_neg h0, if_neg (by have := Nat.two_pow_pos (place - b).toNat; exact Nat.mul_ne_zero h0 (by omega))]
    dsimp only
    congr 1
    rw [hf, hle, cut_eq, Nat.shiftLeft_eq]
    have hlog : (mag * 2 ^ (place - b).toNat).log2 = mag.log2 + (place - b).toNat := log2_scale _ _ h0
    rw [hlog]
    obtain ⟨l, hl⟩ : ∃ l, max (place + mag.log2 - ((52 : Nat) : Int)) (-1074 : Int) = l := ⟨_, rfl⟩
    have hL : max (mag.log2 + (place - b).toNat - 52) (-1074 - b).toNat = (l - b).toNat := by omega
    have e1 : (l - b).toNat - (-1074 - b).toNat = (l - -1074).toNat := by omega
    have e2 := place_cut mag place b l h1 (by omega)
    rw [hL, e1, ← e2, hl]
/-- The rung of an exact magnitude, in units of the place b. -/
def RN (b : Int) (X : Nat) : Nat := RNg double.binade double.infRung (-1074 - b).toNat X
theorem nearest_RN (s : Bool) (mag : Nat) (place b : Int) (h1 : b ≤ place) (h2 : b ≤ -1074) : double.nearest s mag place = double.word s (RN b (mag * 2 ^ (place - b).toNat)) := nearest_RNf double rfl least_eq s mag place b h1 h2
theorem two53 : 2 * 2 ^ 52 = 2 ^ 53 := by decide
theorem bin_eq : double.binade = 2 ^ 52 := rfl
theorem RN_mono (b : Int) {X Y : Nat} (h : X ≤ Y) : RN b X ≤ RN b Y :=
  RNg_mono (fun M => by rw [bin_eq, Nat.pow_add]) (fun M => by rw [bin_eq, two53, Nat.pow_add]) h
theorem RN_pos (b : Int) {X : Nat} (h : 2 ^ (-1074 - b).toNat ≤ X) : 0 < RN b X := RNg_pos (by rw [bin_eq]; exact Nat.two_pow_pos _) (by decide) h
end Go.Proofs.Ytepjdnokkgmhoaa
