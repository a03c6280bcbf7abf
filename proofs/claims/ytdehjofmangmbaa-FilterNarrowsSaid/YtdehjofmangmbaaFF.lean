/- What find gives, in bounds; walks: gaps, Rank of both sides. -/
import Derived.Test.YtdehjofmangmbaaFE
namespace Go.Proofs.Ytdehjofmangmbaa
open Go.RowKit Go.Shelf
theorem runN_get {i n j : Nat} (h : j < n) : (runN i n).getD j 0 = i + j := by
  unfold runN
  rw [List.getD_eq_getElem?_getD, List.getElem?_map, List.getElem?_range h]
  rfl
theorem run_gap {i n : Nat} (h : 0 < n) : gapN (runN i n) = 0 := by
  unfold gapN
  rw [runN_len, runN_get (by omega), runN_get h]
  omega
/-- A struct of rank, gaps and places, as find may give it. -/
structure FOk (o : List Bs) (f : Fnd) : Prop where
  at_ : ∀ x ∈ f.at_, x < o.length
  rank : f.rank ≤ 4
  gaps : f.gaps ≤ o.length
  len : f.at_.length ≤ o.length
  gap : (if f.at_.length = 0 then 0 else gapN f.at_) = f.gaps
  inc : f.at_.Pairwise (· < ·)
theorem run_ok {o wd : List Bs} {i r : Nat} (h : isAt o wd i = true) (hr : r ≤ 4) : FOk o ⟨r, 0, runN i wd.length⟩ := by
  have hb : i + wd.length ≤ o.length := by unfold isAt at h; exact (of_decide_eq_true h).1
  refine ⟨fun x hx => ?_, hr, Nat.zero_le _, by rw [runN_len]; omega, ?_, ?_⟩
  · unfold runN at hx
    obtain ⟨q, hq, rfl⟩ := List.mem_map.1 hx
    have := List.mem_range.1 hq
    omega
  · simp only [runN_len]
    split
    · rfl
    · exact run_gap (by omega)
  · unfold runN
    rw [List.pairwise_map]
    exact List.Pairwise.imp (fun h => by omega) List.pairwise_lt_range
theorem inc_len {l : List Nat} {n : Nat} (h : l.Pairwise (· < ·)) (hb : ∀ x ∈ l, x < n) : l.length ≤ n := by
  rcases Nat.eq_zero_or_pos l.length with e | e
  · omega
  · have h1 := inc_span h (l.length - 1) (by omega)
    have h2 := hb (l.getD (l.length - 1) 0) (getD_mem (by omega))
    omega
theorem fnd_ok {o wd : List Bs} {f : Fnd} (h : fndS o wd = some f) : FOk o f := by
  cases hb : besS o wd with
  | nil =>
    rw [fnd_nil hb] at h
    obtain ⟨i, hc, hg, hr⟩ := spr_inv o wd _ f h
    obtain ⟨h1, h2, h3⟩ := chn_facts hc
    have hw : wd ≠ [] := fun e => by rw [e] at hb; exact besS_nil o hb
    have hwl := List.length_pos_iff.2 hw
    have hlt := inc_span h3 (f.at_.length - 1) (by omega)
    have hmx := (h2 (f.at_.getD (f.at_.length - 1) 0) (getD_mem (by omega))).2
    refine ⟨fun x hx => (h2 x hx).2, by omega, ?_, inc_len h3 (fun x hx => (h2 x hx).2), ?_, h3⟩
    · rw [hg]; unfold gapN; omega
    · rw [if_neg (by omega), hg]
  | cons p r =>
    have hp : 0 < (besS o wd).length := by rw [hb]; simp
    by_cases h0 : (besS o wd).getD 0 0 = 0
    · rw [fnd_zero hp h0] at h
      cases h
      have ha := besS_iff.1 (getD_mem hp)
      rw [h0] at ha
      exact run_ok ha (by split <;> omega)
    · by_cases hq : ∃ j, j < (besS o wd).length ∧ ltr (o.getD ((besS o wd).getD j 0 - 1) []) = false ∧ ∀ q, q < j → ltr (o.getD ((besS o wd).getD q 0 - 1) []) = true
      · obtain ⟨j, hj, h1, h2⟩ := hq
        rw [fnd_hit hj h0 h1 h2] at h
        cases h
        exact run_ok (besS_iff.1 (getD_mem hj)) (by omega)
      · have hall : ∀ q, q < (besS o wd).length → ltr (o.getD ((besS o wd).getD q 0 - 1) []) = true := by
          intro q
          induction q using Nat.strongRecOn with
          | ind q ih =>
            intro hql
            cases hl : ltr (o.getD ((besS o wd).getD q 0 - 1) []) with
            | true => rfl
            | false => exact absurd ⟨q, hql, hl, fun q' h' => ih q' h' (by omega)⟩ hq
        rw [fnd_last hp h0 hall] at h
        cases h
        exact run_ok (besS_iff.1 (getD_mem hp)) (by omega)
def rkS (opt wd : Bs) : Option Fnd := fndS (clS opt) (clS wd)
def RkEnd (b : Option Fnd) (w : World) (e : Ending) (w' : World) : Prop := e = .returned (.tuple #[.int .i64 (fnd0 b).rank, .int .i64 (fnd0 b).gaps, .bool b.isSome]) ∧ Below w.heap.size w w'
theorem ClEnd.view {l : Bs} {w : World} {e : Ending} {w' : World} (h : ClEnd l w e w') (hl : l.length ≤ 10000) : ∃ v, e = .returned v ∧ TxV w' v (clS l) ∧ Below w.heap.size w w' := by
  obtain ⟨v, h1, h2, h3⟩ := h
  exact ⟨v, h1, TxV.of_row h2 (by have := clS_len l; omega), h3⟩
end Go.Proofs.Ytdehjofmangmbaa
