/- The library's sort at uint64: what a round of pdqsort stands on, in plain terms. -/
import Derived.Sort.AssemblyPlain
import Derived.Sort.Walk13a
namespace Go.Proofs.Ytepjdnokkgmhoaa
open Go.Sort Go.Proofs
/-- A round's values Q ahead of the partition, and what the round's ways make of the result R. -/
structure RdF (D : Array Int) (a b lim : Nat) (wb wp : Bool) (Q : Rd Int) (R : Array Int) : Prop where
  f1 : wb = false → Q.d1 = breakPatterns D a b ∧ Q.lim = lim - 1
  f2 : wb = true → Q.d1 = D ∧ Q.lim = lim
  f3 : Q.c = choosePivot ltInt Q.d1 a b
  f4 : Q.c.2 = .decreasing → Q.d2 = reverseRange Q.d1 a b ∧ Q.pivot = (b - 1) - (Q.c.1 - a) ∧ Q.hint = .increasing
  f5 : Q.c.2 ≠ .decreasing → Q.d2 = Q.d1 ∧ Q.pivot = Q.c.1 ∧ Q.hint = Q.c.2
  f6 : (wb && wp && decide (Q.hint = .increasing)) = true → Q.pi = partialInsertionSort ltInt Q.d2 a b
  f7 : (wb && wp && decide (Q.hint = .increasing)) = false → Q.pi = (Q.d2, false)
  ll : Q.lim ≤ lim
  s1 : Q.d1.size = D.size
  cr : a ≤ Q.c.1 ∧ Q.c.1 < b
  s2 : Q.d2.size = D.size
  pr : a ≤ Q.pivot ∧ Q.pivot < b
  s3 : Q.pi.1.size = D.size
  b3 : Below ltInt a b Q.pi.1
  done : Q.pi.2 = true → R = Q.pi.1
  eq : Q.pi.2 = false → (decide (a > 0) && !ltInt Q.pi.1[a - 1]! Q.pi.1[Q.pivot]!) = true → ∀ mid d4, partitionEqual ltInt Q.pi.1 a b Q.pivot = (mid, d4) → a < mid ∧ mid ≤ b ∧ d4.size = D.size ∧ Below ltInt mid b d4 ∧ R = pdq ltInt d4 mid b Q.lim wb wp
  part : Q.pi.2 = false → (decide (a > 0) && !ltInt Q.pi.1[a - 1]! Q.pi.1[Q.pivot]!) = false → ∀ mid ap d4, partition ltInt Q.pi.1 a b Q.pivot = (mid, ap, d4) →
    a ≤ mid ∧ mid < b ∧ d4.size = D.size ∧ Below ltInt a mid d4 ∧ Below ltInt (mid + 1) b d4 ∧
    (mid - a < b - mid → ∀ L, L = pdq ltInt d4 a mid Q.lim true true → L.size = D.size ∧ Below ltInt (mid + 1) b L ∧ R = pdq ltInt L (mid + 1) b Q.lim (decide (mid - a ≥ (b - a) / 8)) ap) ∧
    (¬ mid - a < b - mid → ∀ L, L = pdq ltInt d4 (mid + 1) b Q.lim true true → L.size = D.size ∧ Below ltInt a mid L ∧ R = pdq ltInt L a mid Q.lim (decide (b - mid ≥ (b - a) / 8)) ap)
theorem rdF {D R : Array Int} {a b lim : Nat} {wb wp : Bool} (h12 : ¬ b - a ≤ 12) (h0 : ¬ lim = 0) (hb : b ≤ D.size) (hB : Below ltInt a b D) (hR : pdq ltInt D a b lim wb wp = R) : ∃ Q, RdF D a b lim wb wp Q R := by
  obtain ⟨s1, B1, hc1, s2, B2, hpv, s3, B3⟩ := rd_facts (limit := lim) (wb := wb) (wp := wp) swo_ltInt partialInsertionSort_holds reverseRange_holds (show a < b by omega) hb hB
  refine ⟨rd ltInt D a b lim wb wp, ?_⟩
  constructor
  · rintro rfl; exact rd_false
  · rintro rfl; exact rd_true
  · exact rd_c
  · exact rd_dec
  · exact rd_not
  · exact rd_pi_yes
  · exact rd_pi_no
  · exact rd_lim_le
  · exact s1
  · exact hc1
  · exact s2
  · exact hpv
  · exact s3
  · exact B3
  · intro h; rw [← hR, pdq_done h12 h0 h]
  · intro h1 h2 mid d4 hx
    have h2' := h2
    simp only [Bool.and_eq_true, decide_eq_true_eq, Bool.not_eq_true'] at h2'
    obtain ⟨r1, r2, r3, r4, _⟩ := round_eq swo_ltInt (partitionEqual_holds _) h2'.1 hpv.1 hpv.2 (by omega) B3 h2'.2 hx
    exact ⟨r1, r2, r3.trans s3, r4, by rw [← hR, pdq_eq h12 h0 h1 h2 (by rw [hx]; exact ⟨r1, r2⟩), hx]⟩
  · intro h1 h2 mid ap d4 hx
    obtain ⟨r1, r2, r3, r4, r5, r6, r7⟩ := round_part swo_ltInt (partition_holds _) hpv.1 hpv.2 (by omega) B3 hx
    have e4 := r3.trans s3
    refine ⟨r1, r2, e4, r4, r5, fun h4 L hL => ?_, fun h4 L hL => ?_⟩
    · obtain ⟨pL, sL⟩ := pdq_sorts _ swo_ltInt d4 a mid (rd ltInt D a b lim wb wp).lim true true (by omega) (by omega) r4
      subst hL
      exact ⟨pL.1.trans e4, (r6 _ pL sL).1, by rw [← hR, pdq_left h12 h0 h1 h2 (by rw [hx]; exact ⟨r1, r2⟩) (by rw [hx]; exact h4), hx]⟩
    · obtain ⟨pL, sL⟩ := pdq_sorts _ swo_ltInt d4 (mid + 1) b (rd ltInt D a b lim wb wp).lim true true (by omega) (by omega) r5
      subst hL
      exact ⟨pL.1.trans e4, (r7 _ pL sL).1, by rw [← hR, pdq_right h12 h0 h1 h2 (by rw [hx]; exact ⟨r1, r2⟩) (by rw [hx]; exact h4), hx]⟩
end Go.Proofs.Ytepjdnokkgmhoaa
