/- Runs: what is noted, as plain data; and maps by the names of kinds. -/
import Derived.Test.YtcbdmaffcjdnbaaN1
import Derived.Maps.OwnOps
import Derived.Maps.OwnSet
import Derived.Maps.Views
import Derived.Maps.AppendAt
import Derived.OwnWalk
import Derived.ShutString
namespace Go.Proofs.Ytcbdmaffcjdnbaa
open Go.RowKit Go.Shelf Go.Maps Go.ChangeMaps
structure Kd where
  s : ByteArray
  c : Int
  a : Int
  t : Int
structure TS where
  bound : Int
  over : Int
  c : Int
  a : Int
  t : Int
  ks : List Kd
def more (k : Kd) (n : Int) : Kd := ⟨k.s, k.c + 1, min 1152921504606846976 (k.a + n), max k.t n⟩
/-- The place of a name; none: the length. -/
def plc : List Kd → ByteArray → Nat
  | [], _ => 0
  | k :: ks, s => if k.s = s then 0 else plc ks s + 1
theorem plc_le (ks : List Kd) (s : ByteArray) : plc ks s ≤ ks.length := by
  induction ks with
  | nil => simp [plc]
  | cons k ks ih => simp only [plc]; split <;> simp <;> omega
def kz : Kd := ⟨ByteArray.empty, 0, 0, 0⟩
def kn (ks : List Kd) (i : Nat) : Kd := ks.getD i kz
theorem plc_at (ks : List Kd) (s : ByteArray) (h : plc ks s < ks.length) : (kn ks (plc ks s)).s = s := by
  induction ks with
  | nil => simp at h
  | cons k ks ih =>
    simp only [plc] at h ⊢
    split
    · rename_i q; simpa [kn] using q
    · rename_i q
      rw [if_neg q] at h
      have := ih (by simp at h; omega)
      simpa [kn] using this
theorem plc_before (ks : List Kd) (s : ByteArray) (i : Nat) (h : i < plc ks s) : (kn ks i).s ≠ s := by
  induction ks generalizing i with
  | nil => simp [plc] at h
  | cons k ks ih =>
    simp only [plc] at h
    split at h
    · omega
    · rename_i q
      cases i with
      | zero => simpa [kn] using q
      | succ i => simpa [kn] using ih i (by omega)
theorem plc_eq (ks : List Kd) (s : ByteArray) (i : Nat) (hi : i ≤ ks.length) (h1 : ∀ j, j < i → (kn ks j).s ≠ s) (h2 : i = ks.length ∨ (kn ks i).s = s) : plc ks s = i := by
  rcases Nat.lt_trichotomy (plc ks s) i with q | q | q
  · exact absurd (plc_at ks s (by omega)) (h1 _ q)
  · exact q
  · rcases h2 with h2 | h2
    · have := plc_le ks s; omega
    · exact absurd h2 (plc_before ks s i q)
/-- What is noted of a name. -/
def kof (ks : List Kd) (s : ByteArray) : Kd := if plc ks s < ks.length then kn ks (plc ks s) else kz
def noteK (ks : List Kd) (s : ByteArray) (n : Int) : List Kd :=
  if plc ks s < ks.length then ks.set (plc ks s) (more (kn ks (plc ks s)) n) else ks ++ [more ⟨s, 0, 0, 0⟩ n]
def badNote (s : ByteArray) (n : Int) : Bool := decide (s = ByteArray.empty) || (decide (32 < s.size) || (decide (n < 0) || decide (1099511627776 < n)))
def noteE (S : TS) (s : ByteArray) (n : Int) : Int := if badNote s n then 1 else if plc S.ks s = S.ks.length ∧ 100 ≤ S.ks.length then 3 else 0
def noteS (S : TS) (s : ByteArray) (n : Int) : TS :=
  if noteE S s n = 0 then ⟨S.bound, if S.bound < n then S.over + 1 else S.over, S.c + 1, min 1152921504606846976 (S.a + n), max S.t n, noteK S.ks s n⟩ else S
/-- Numbers in their bounds; names each once. -/
def KOk (m : Nat) (k : Kd) : Prop := 0 ≤ k.c ∧ k.c ≤ m ∧ 0 ≤ k.a ∧ k.a ≤ 1152921504606846976 ∧ 0 ≤ k.t ∧ k.t ≤ 1099511627776 ∧ k.s.size ≤ 32
def sumC : List Kd → Int
  | [] => 0
  | k :: ks => k.c + sumC ks
structure TOk (m : Nat) (S : TS) : Prop where
  o0 : 0 ≤ S.over
  o1 : S.over ≤ m
  c0 : 0 ≤ S.c
  c1 : S.c ≤ m
  a0 : 0 ≤ S.a
  a1 : S.a ≤ 1152921504606846976
  t0 : 0 ≤ S.t
  t1 : S.t ≤ 1099511627776
  len : S.ks.length ≤ 100
  each : ∀ i, i < S.ks.length → KOk m (kn S.ks i)
  once : ∀ i j, i < j → j < S.ks.length → (kn S.ks i).s ≠ (kn S.ks j).s
  sum : sumC S.ks = S.c
theorem kn_set (ks : List Kd) (i j : Nat) (k : Kd) (hi : i < ks.length) : kn (ks.set i k) j = if i = j then k else kn ks j := by
  unfold kn
  by_cases h : i = j
  · subst h; simp [List.getD, hi]
  · simp [List.getD, h]
theorem kn_snoc (ks : List Kd) (j : Nat) (k : Kd) : kn (ks ++ [k]) j = if j = ks.length then k else kn ks j := by
  unfold kn
  by_cases h : j = ks.length
  · subst h; simp [List.getD]
  · rw [if_neg h]
    rcases Nat.lt_or_ge j ks.length with q | q
    · simp [List.getD, List.getElem?_append_left q]
    · simp [List.getD, List.getElem?_append_right q, List.getElem?_eq_none (show ks.length ≤ j from q), List.getElem?_eq_none (show [k].length ≤ j - ks.length by simp; omega)]
theorem sumC_set (ks : List Kd) (i : Nat) (k : Kd) (hi : i < ks.length) : sumC (ks.set i k) = sumC ks + k.c - (kn ks i).c := by
  induction ks generalizing i with
  | nil => simp at hi
  | cons x ks ih =>
    cases i with
    | zero => simp [sumC, kn]; omega
    | succ i =>
      have := ih i (by simpa using hi)
      simp only [List.set_cons_succ, sumC, this]
      simp [kn]; omega
theorem sumC_snoc (ks : List Kd) (k : Kd) : sumC (ks ++ [k]) = sumC ks + k.c := by
  induction ks with
  | nil => simp [sumC]
  | cons x ks ih => simp only [List.cons_append, sumC, ih]; omega
theorem more_ok {m : Nat} {k : Kd} {n : Int} (h : KOk m k) (h0 : 0 ≤ n) (h1 : n ≤ 1099511627776) : KOk (m + 1) (more k n) := by
  obtain ⟨a, b, c, d, e, f, g⟩ := h
  unfold KOk more
  dsimp only
  refine ⟨by omega, by omega, by omega, by omega, by omega, by omega, g⟩
theorem KOk.mono {m : Nat} {k : Kd} (h : KOk m k) : KOk (m + 1) k := by
  obtain ⟨a, b, c, d, e, f, g⟩ := h
  exact ⟨a, by omega, c, d, e, f, g⟩
theorem note_len (ks : List Kd) (s : ByteArray) (n : Int) : (noteK ks s n).length = if plc ks s < ks.length then ks.length else ks.length + 1 := by
  unfold noteK; split <;> simp
theorem badNote_no {s : ByteArray} {n : Int} (h : badNote s n = false) : s ≠ ByteArray.empty ∧ s.size ≤ 32 ∧ 0 ≤ n ∧ n ≤ 1099511627776 := by
  simp only [badNote, Bool.or_eq_false_iff, decide_eq_false_iff_not] at h
  obtain ⟨a, b, c, d⟩ := h
  exact ⟨a, by omega, by omega, by omega⟩
theorem note_ok {m : Nat} {S : TS} (h : TOk m S) (s : ByteArray) (n : Int) : TOk (m + 1) (noteS S s n) := by
  unfold noteS
  by_cases he : noteE S s n = 0
  · rw [if_pos he]
    unfold noteE at he
    cases hb : badNote s n
    case true => rw [hb] at he; simp at he
    rw [hb] at he
    simp only [Bool.false_eq_true, if_false] at he
    obtain ⟨b1, b2, b3, b4⟩ := badNote_no hb
    have hk : ¬ (plc S.ks s = S.ks.length ∧ 100 ≤ S.ks.length) := by intro q; rw [if_pos q] at he; omega
    have hl := h.len
    have hle := plc_le S.ks s
    have hsum := h.sum
    have h1 := h.o0
    have h2 := h.o1
    have h3 := h.c0
    have h4 := h.c1
    have h5 := h.a0
    have h6 := h.a1
    have h7 := h.t0
    have h8 := h.t1
    refine ⟨by dsimp only; split <;> omega, by dsimp only; split <;> omega, by dsimp only; omega, by dsimp only; omega, by dsimp only; omega, by dsimp only; omega, by dsimp only; omega, by dsimp only; omega, ?_, ?_, ?_, ?_⟩
    · dsimp only; rw [note_len]; split <;> omega
    · dsimp only
      intro i hi
      rw [note_len] at hi
      unfold noteK
      by_cases q : plc S.ks s < S.ks.length
      · rw [if_pos q] at hi ⊢
        rw [kn_set _ _ _ _ q]
        split
        · exact more_ok (h.each _ q) b3 b4
        · exact (h.each i hi).mono
      · rw [if_neg q] at hi ⊢
        rw [kn_snoc]
        split
        · unfold KOk more; dsimp only; refine ⟨by omega, by omega, by omega, by omega, by omega, by omega, b2⟩
        · exact (h.each i (by omega)).mono
    · dsimp only
      intro i j hij hj
      rw [note_len] at hj
      unfold noteK
      by_cases q : plc S.ks s < S.ks.length
      · rw [if_pos q] at hj ⊢
        rw [kn_set _ _ _ _ q, kn_set _ _ _ _ q]
        have e : ∀ x, (if plc S.ks s = x then more (kn S.ks (plc S.ks s)) n else kn S.ks x).s = (kn S.ks x).s := by
          intro x; split
          · rename_i e; rw [← e]; rfl
          · rfl
        rw [e, e]
        exact h.once i j hij hj
      · rw [if_neg q] at hj ⊢
        rw [kn_snoc, kn_snoc, if_neg (by omega)]
        split
        · exact plc_before S.ks s i (by omega)
        · exact h.once i j hij (by omega)
    · dsimp only
      unfold noteK
      by_cases q : plc S.ks s < S.ks.length
      · rw [if_pos q, sumC_set _ _ _ q]
        unfold more; dsimp only; omega
      · rw [if_neg q, sumC_snoc]
        unfold more; dsimp only; omega
  · rw [if_neg he]
    exact ⟨h.o0, by have := h.o1; omega, h.c0, by have := h.c1; omega, h.a0, h.a1, h.t0, h.t1, h.len, fun i hi => (h.each i hi).mono, h.once, h.sum⟩
end Go.Proofs.Ytcbdmaffcjdnbaa
