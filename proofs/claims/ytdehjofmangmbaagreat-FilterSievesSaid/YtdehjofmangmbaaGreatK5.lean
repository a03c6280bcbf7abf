/- Plain: Next of the reference answers as Next of the program. -/
import Derived.Test.YtdehjofmangmbaaGreatK4
namespace Go.Proofs.YtdehjofmangmbaaGreat
open Go.RowKit Go.Shelf
theorem num1 (a : UInt8) : numR [a] = (a.toNat : Int) := rfl
theorem num2 (a b : UInt8) : numR [a, b] = ((a.toNat : Int) - 192) * 64 + (b.toNat % 64 : Nat) := rfl
theorem num3 (a b c : UInt8) : numR [a, b, c] = (((a.toNat : Int) - 224) * 64 + (b.toNat % 64 : Nat)) * 64 + (c.toNat % 64 : Nat) := rfl
theorem num4 (a b c d : UInt8) : numR [a, b, c, d] = ((((a.toNat : Int) - 240) * 64 + (b.toNat % 64 : Nat)) * 64 + (c.toNat % 64 : Nat)) * 64 + (d.toNat % 64 : Nat) := rfl
theorem t128 : (128 : UInt8).toNat % 64 = 0 := rfl
theorem t191 : (191 : UInt8).toNat % 64 = 63 := rfl
theorem tails1 (a : UInt8) : tailsR [a] = true := rfl
theorem tails2 (a b : UInt8) : tailsR [a, b] = tailB b := by simp [tailsR]
theorem tails3 (a b c : UInt8) : tailsR [a, b, c] = (tailB b && tailB c) := by simp [tailsR]
theorem tails4 (a b c d : UInt8) : tailsR [a, b, c, d] = (tailB b && (tailB c && tailB d)) := by simp [tailsR]
theorem lenR_2 {c : Nat} (h : 194 ≤ c) (h2 : c < 224) : lenR c = 2 := by unfold lenR; rw [if_neg (by omega), if_neg (by omega), if_pos h2]
theorem lenR_3 {c : Nat} (h : 224 ≤ c) (h2 : c < 240) : lenR c = 3 := by unfold lenR; rw [if_neg (by omega), if_neg (by omega), if_neg (by omega), if_pos h2]
theorem lenR_4 {c : Nat} (h : 240 ≤ c) (h2 : c < 245) : lenR c = 4 := by unfold lenR; rw [if_neg (by omega), if_neg (by omega), if_neg (by omega), if_neg (by omega), if_pos h2]
theorem shp_2 {c : Nat} (h : 194 ≤ c) (h2 : c < 224) : shp c = ⟨2, 128, 191, (c % 32 : Nat)⟩ := by unfold shp; rw [if_neg (by omega), if_neg (by omega), if_pos h2]
/-- The bounds of the second byte. -/
def lo3 (c : Nat) : Nat := if c = 224 then 160 else 128
def hi3 (c : Nat) : Nat := if c = 237 then 159 else 191
def lo4 (c : Nat) : Nat := if c = 240 then 144 else 128
def hi4 (c : Nat) : Nat := if c = 244 then 143 else 191
theorem shp_3 {c : Nat} (h : 224 ≤ c) (h2 : c < 240) : shp c = ⟨3, lo3 c, hi3 c, (c : Int) - 224⟩ := by
  have hall : ∀ c : Fin 240, 224 ≤ c.1 → shp c.1 = ⟨3, lo3 c.1, hi3 c.1, (c.1 : Int) - 224⟩ := by decide +kernel
  exact hall ⟨c, h2⟩ h
theorem shp_4 {c : Nat} (h : 240 ≤ c) (h2 : c < 245) : shp c = ⟨4, lo4 c, hi4 c, (c : Int) - 240⟩ := by
  have hall : ∀ c : Fin 245, 240 ≤ c.1 → shp c.1 = ⟨4, lo4 c.1, hi4 c.1, (c.1 : Int) - 240⟩ := by decide +kernel
  exact hall ⟨c, h2⟩ h
theorem beg_of {l : Bs} {n : Nat} (h : lenR (l.getD 0 0).toNat = n) (hl : l.length ≤ n) : begR l = (tailsR l && decide (frR n ≤ numR (fillB l 191 n) ∧ numR (fillB l 128 n) ≤ 1114111 ∧ (numR (fillB l 128 n) < 55296 ∨ 57343 < numR (fillB l 191 n)))) := by
  rw [begR_eq, h]
  cases ht : tailsR l
  · rw [if_pos (.inr rfl)]; rfl
  · rw [if_neg (by simp; omega)]; rfl
theorem tailB_iff (d : UInt8) : tailB d = true ↔ 128 ≤ d.toNat ∧ d.toNat ≤ 191 := by unfold tailB; rw [decide_eq_true_iff]
theorem beg2_1 (c : UInt8) (h : 194 ≤ c.toNat) (h2 : c.toNat < 224) : begR [c] = true := by
  rw [beg_of (l := [c]) (lenR_2 h h2) (by simp), tails1, Bool.true_and, decide_eq_true_iff, show fillB [c] 191 2 = [c, 191] from rfl, show fillB [c] 128 2 = [c, 128] from rfl, num2, num2, t128, t191]
  simp only [frR]
  simp
  omega
theorem beg2_2 (c d : UInt8) (h : 194 ≤ c.toNat) (h2 : c.toNat < 224) : begR [c, d] = tailB d := by
  rw [beg_of (l := [c, d]) (lenR_2 h h2) (by simp), tails2, show fillB [c, d] 191 2 = [c, d] from rfl, show fillB [c, d] 128 2 = [c, d] from rfl, num2, Bool.eq_iff_iff, Bool.and_eq_true, decide_eq_true_iff, tailB_iff]
  simp only [frR]
  simp
  omega
theorem beg3_1 (c : UInt8) (h : 224 ≤ c.toNat) (h2 : c.toNat < 240) : begR [c] = true := by
  rw [beg_of (l := [c]) (lenR_3 h h2) (by simp), tails1, Bool.true_and, decide_eq_true_iff, show fillB [c] 191 3 = [c, 191, 191] from rfl, show fillB [c] 128 3 = [c, 128, 128] from rfl, num3, num3, t128, t191]
  simp only [frR]
  simp
  omega
theorem beg3_2 (c d : UInt8) (h : 224 ≤ c.toNat) (h2 : c.toNat < 240) : begR [c, d] = decide (lo3 c.toNat ≤ d.toNat ∧ d.toNat ≤ hi3 c.toNat) := by
  rw [beg_of (l := [c, d]) (lenR_3 h h2) (by simp), tails2, show fillB [c, d] 191 3 = [c, d, 191] from rfl, show fillB [c, d] 128 3 = [c, d, 128] from rfl, num3, num3, t128, t191, Bool.eq_iff_iff, Bool.and_eq_true, decide_eq_true_iff, decide_eq_true_iff, tailB_iff]
  simp only [frR, lo3, hi3]
  simp
  split <;> split <;> omega
theorem beg3_3 (c d e : UInt8) (h : 224 ≤ c.toNat) (h2 : c.toNat < 240) : begR [c, d, e] = (decide (lo3 c.toNat ≤ d.toNat ∧ d.toNat ≤ hi3 c.toNat) && tailB e) := by
  rw [beg_of (l := [c, d, e]) (lenR_3 h h2) (by simp), tails3, show fillB [c, d, e] 191 3 = [c, d, e] from rfl, show fillB [c, d, e] 128 3 = [c, d, e] from rfl, num3, Bool.eq_iff_iff, Bool.and_eq_true, Bool.and_eq_true, Bool.and_eq_true, decide_eq_true_iff, decide_eq_true_iff, tailB_iff, tailB_iff]
  simp only [frR, lo3, hi3]
  simp
  split <;> split <;> omega
theorem beg4_1 (c : UInt8) (h : 240 ≤ c.toNat) (h2 : c.toNat < 245) : begR [c] = true := by
  rw [beg_of (l := [c]) (lenR_4 h h2) (by simp), tails1, Bool.true_and, decide_eq_true_iff, show fillB [c] 191 4 = [c, 191, 191, 191] from rfl, show fillB [c] 128 4 = [c, 128, 128, 128] from rfl, num4, num4, t128, t191]
  simp only [frR]
  simp
  omega
theorem beg4_2 (c d : UInt8) (h : 240 ≤ c.toNat) (h2 : c.toNat < 245) : begR [c, d] = decide (lo4 c.toNat ≤ d.toNat ∧ d.toNat ≤ hi4 c.toNat) := by
  rw [beg_of (l := [c, d]) (lenR_4 h h2) (by simp), tails2, show fillB [c, d] 191 4 = [c, d, 191, 191] from rfl, show fillB [c, d] 128 4 = [c, d, 128, 128] from rfl, num4, num4, t128, t191, Bool.eq_iff_iff, Bool.and_eq_true, decide_eq_true_iff, decide_eq_true_iff, tailB_iff]
  simp only [frR, lo4, hi4]
  simp
  split <;> split <;> omega
theorem beg4_3 (c d e : UInt8) (h : 240 ≤ c.toNat) (h2 : c.toNat < 245) : begR [c, d, e] = (decide (lo4 c.toNat ≤ d.toNat ∧ d.toNat ≤ hi4 c.toNat) && tailB e) := by
  rw [beg_of (l := [c, d, e]) (lenR_4 h h2) (by simp), tails3, show fillB [c, d, e] 191 4 = [c, d, e, 191] from rfl, show fillB [c, d, e] 128 4 = [c, d, e, 128] from rfl, num4, num4, t128, t191, Bool.eq_iff_iff, Bool.and_eq_true, Bool.and_eq_true, Bool.and_eq_true, decide_eq_true_iff, decide_eq_true_iff, tailB_iff, tailB_iff]
  simp only [frR, lo4, hi4]
  simp
  split <;> split <;> omega
theorem beg4_4 (c d e f : UInt8) (h : 240 ≤ c.toNat) (h2 : c.toNat < 245) : begR [c, d, e, f] = (decide (lo4 c.toNat ≤ d.toNat ∧ d.toNat ≤ hi4 c.toNat) && (tailB e && tailB f)) := by
  rw [beg_of (l := [c, d, e, f]) (lenR_4 h h2) (by simp), tails4, show fillB [c, d, e, f] 191 4 = [c, d, e, f] from rfl, show fillB [c, d, e, f] 128 4 = [c, d, e, f] from rfl, num4, Bool.eq_iff_iff, Bool.and_eq_true, Bool.and_eq_true, Bool.and_eq_true, Bool.and_eq_true, Bool.and_eq_true, decide_eq_true_iff, decide_eq_true_iff, tailB_iff, tailB_iff, tailB_iff]
  simp only [frR, lo4, hi4]
  simp
  split <;> split <;> omega
theorem in_iff {d lo hi : Nat} : (d < lo ∨ hi < d) ↔ ¬ (lo ≤ d ∧ d ≤ hi) := by omega
theorem tl_step (k lo hi : Nat) (c : UInt8) (t : Bs) (r : Int) : tl (k + 1) lo hi (c :: t) r = if decide (lo ≤ c.toNat ∧ c.toNat ≤ hi) = true then tl k 128 191 t (r * 64 + (c.toNat % 64 : Nat)) else some none := by
  show (if c.toNat < lo ∨ hi < c.toNat then some none else tl k 128 191 t (r * 64 + (c.toNat % 64 : Nat))) = _
  by_cases h : lo ≤ c.toNat ∧ c.toNat ≤ hi
  · rw [if_neg (by omega), decide_eq_true h, if_pos rfl]
  · rw [if_pos (by omega), decide_eq_false h, if_neg (by simp)]
theorem nxtR_of {l : Bs} {n : Nat} (h : lenR (l.getD 0 0).toNat = n) (hn : 0 < n) : nxtR l = if n ≤ l.length then (if begR (l.take n) = true then (numR (l.take n), n, false) else (65533, 1, false)) else if begR l = true then (0, 0, true) else (65533, 1, false) := by
  unfold nxtR
  rw [h]
  by_cases h1 : n ≤ l.length
  · rw [if_pos ⟨h1, hn⟩, if_pos h1]
  · rw [if_neg (by omega), if_neg h1]
    simp only [hn, true_and]
theorem nxt_of {c : UInt8} {t : Bs} {m lo hi : Nat} {r : Int} (h : shp c.toNat = ⟨m, lo, hi, r⟩) (hm : m ≠ 0) : nxt (c :: t) = nxtT m (tl (m - 1) lo hi t r) := by
  show (if (shp c.toNat).m = 0 then (65533, 1, false) else nxtT (shp c.toNat).m (tl ((shp c.toNat).m - 1) (shp c.toNat).lo (shp c.toNat).hi t (shp c.toNat).r)) = _
  rw [h, if_neg hm]
theorem tailB_dec (d : UInt8) : decide (128 ≤ d.toNat ∧ d.toNat ≤ 191) = tailB d := rfl
theorem nxt_eq (l : Bs) (hl : l ≠ []) : nxtR l = nxt l := by
  obtain ⟨c, t, rfl⟩ := List.exists_cons_of_ne_nil hl
  have hc : c.toNat < 256 := UInt8.toNat_lt _
  have hg : ((c :: t).getD 0 0).toNat = c.toNat := rfl
  by_cases h1 : c.toNat < 128
  · have hs : shp c.toNat = ⟨1, 0, 0, c.toNat⟩ := by unfold shp; rw [if_pos h1]
    have hn : lenR c.toNat = 1 := by unfold lenR; rw [if_pos h1]
    rw [nxtR_of (l := c :: t) hn (by omega), nxt_of hs (by omega), if_pos (by simp)]
    have hb : begR [c] = true := by
      rw [beg_of (l := [c]) hn (by simp), tails1, Bool.true_and, decide_eq_true_iff, show fillB [c] 191 1 = [c] from rfl, show fillB [c] 128 1 = [c] from rfl, num1]
      simp [frR]
      omega
    rw [show (c :: t).take 1 = [c] from rfl, if_pos hb, num1]
    simp [tl, nxtT]
  · by_cases h2 : c.toNat < 194
    · have hs : shp c.toNat = ⟨0, 0, 0, 0⟩ := by unfold shp; rw [if_neg h1, if_pos h2]
      have hn : lenR c.toNat = 0 := by unfold lenR; rw [if_neg h1, if_pos h2]
      unfold nxtR
      rw [hg, hn, if_neg (by omega), if_neg (by omega)]
      show _ = (if (shp c.toNat).m = 0 then (65533, 1, false) else _)
      rw [hs, if_pos rfl]
    · by_cases h3 : c.toNat < 224
      · have a1 : 194 ≤ c.toNat := by omega
        rw [nxtR_of (l := c :: t) (lenR_2 a1 h3) (by omega), nxt_of (shp_2 a1 h3) (by omega)]
        cases t with
        | nil => rw [if_neg (by simp), beg2_1 c a1 h3]; rfl
        | cons d t =>
          rw [if_pos (by simp), show (c :: d :: t).take 2 = [c, d] from rfl, beg2_2 c d a1 h3, num2, tl_step, tailB_dec]
          cases tailB d
          · rfl
          · simp [tl, nxtT]
            omega
      · by_cases h4 : c.toNat < 240
        · have a1 : 224 ≤ c.toNat := by omega
          rw [nxtR_of (l := c :: t) (lenR_3 a1 h4) (by omega), nxt_of (shp_3 a1 h4) (by omega)]
          match t with
          | [] => rw [if_neg (by simp), beg3_1 c a1 h4]; rfl
          | [d] =>
            rw [if_neg (by simp), beg3_2 c d a1 h4, tl_step]
            cases decide (lo3 c.toNat ≤ d.toNat ∧ d.toNat ≤ hi3 c.toNat)
            · rfl
            · rfl
          | d :: e :: t =>
            rw [if_pos (by simp), show (c :: d :: e :: t).take 3 = [c, d, e] from rfl, beg3_3 c d e a1 h4, num3, tl_step]
            cases decide (lo3 c.toNat ≤ d.toNat ∧ d.toNat ≤ hi3 c.toNat)
            · rfl
            · rw [if_pos rfl, tl_step, tailB_dec, Bool.true_and]
              cases tailB e <;> rfl
        · by_cases h5 : c.toNat < 245
          · have a1 : 240 ≤ c.toNat := by omega
            rw [nxtR_of (l := c :: t) (lenR_4 a1 h5) (by omega), nxt_of (shp_4 a1 h5) (by omega)]
            match t with
            | [] => rw [if_neg (by simp), beg4_1 c a1 h5]; rfl
            | [d] =>
              rw [if_neg (by simp), beg4_2 c d a1 h5, tl_step]
              cases decide (lo4 c.toNat ≤ d.toNat ∧ d.toNat ≤ hi4 c.toNat)
              · rfl
              · rfl
            | [d, e] =>
              rw [if_neg (by simp), beg4_3 c d e a1 h5, tl_step]
              cases decide (lo4 c.toNat ≤ d.toNat ∧ d.toNat ≤ hi4 c.toNat)
              · rfl
              · rw [if_pos rfl, tl_step, tailB_dec, Bool.true_and]
                cases tailB e <;> rfl
            | d :: e :: f :: t =>
              rw [if_pos (by simp), show (c :: d :: e :: f :: t).take 4 = [c, d, e, f] from rfl, beg4_4 c d e f a1 h5, num4, tl_step]
              cases decide (lo4 c.toNat ≤ d.toNat ∧ d.toNat ≤ hi4 c.toNat)
              · rfl
              · rw [if_pos rfl, tl_step, tailB_dec, Bool.true_and]
                cases tailB e
                · rfl
                · rw [if_pos rfl, tl_step, tailB_dec, Bool.true_and]
                  cases tailB f <;> rfl
          · have hs : shp c.toNat = ⟨0, 0, 0, 0⟩ := by
              unfold shp
              repeat rw [if_neg (by omega)]
            have hn : lenR c.toNat = 0 := by
              unfold lenR
              rw [if_neg h1, if_neg h2, if_neg h3, if_neg h4, if_neg h5]
            unfold nxtR
            rw [hg, hn, if_neg (by omega), if_neg (by omega)]
            show _ = (if (shp c.toNat).m = 0 then (65533, 1, false) else _)
            rw [hs, if_pos rfl]
end Go.Proofs.YtdehjofmangmbaaGreat
