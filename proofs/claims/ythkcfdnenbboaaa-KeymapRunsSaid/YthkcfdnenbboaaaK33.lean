/- The reference's rows made anew: appends, as equations. -/
import Derived.Test.YthkcfdnenbboaaaK32
namespace Go.Proofs.Ythkcfdnenbboaaa
open Go.RowKit Go.Shelf Go.Maps Go.Sort Go.ChangeMaps
def flat (L : List Bd) : List Value := L.flatMap fun b => [.string b.1, .int .i64 b.2]
theorem flat_app (A B : List Bd) : flat (A ++ B) = flat A ++ flat B := by simp [flat]
theorem flat_len (L : List Bd) : (flat L).length = L.length * 2 := by
  induction L with
  | nil => rfl
  | cons b L ih => simp only [flat, List.flatMap_cons, List.length_append, List.length_cons, List.length_nil] at ih ⊢; rw [ih]; omega
theorem flat_get (L : List Bd) (i : Nat) (hi : i < L.length) : (flat L)[i * 2]? = some (.string (bn L i).1) ∧ (flat L)[i * 2 + 1]? = some (.int .i64 (bn L i).2) := by
  induction L generalizing i with
  | nil => simp at hi
  | cons b L ih =>
    have e : flat (b :: L) = [.string b.1, .int .i64 b.2] ++ flat L := by simp [flat]
    rw [e]
    cases i with
    | zero => exact ⟨rfl, rfl⟩
    | succ i =>
      have := ih i (by simpa using hi)
      have e2 : bn (b :: L) (i + 1) = bn L i := by simp [bn]
      rw [List.getElem?_append_right (by simp; omega), List.getElem?_append_right (by simp; omega), e2]
      simp only [List.length_cons, List.length_nil]
      rw [show (i + 1) * 2 - 2 = i * 2 by omega, show (i + 1) * 2 + 1 - 2 = i * 2 + 1 by omega]
      exact this
theorem flat_one (L : List Bd) : ∀ u ∈ flat L, u.oneCell' = true := by
  intro u hu
  simp only [flat, List.mem_flatMap] at hu
  obtain ⟨b, _, hb⟩ := hu
  simp at hb
  rcases hb with rfl | rfl <;> rfl
theorem run_app {w : World} {base : Nat} {v : Value} {k : Nat} {xs : List Value} (hown : w.ownsRow base 91 2 v k xs) (x : Option Addr) (m c : Nat) (news : List Value) (hl : news.length = m * 2)
    (hsrc : (x = none ∧ m = 0 ∧ c = 0) ∨ ∃ a, x = some a ∧ ∀ j u, news[j]? = some u → w.cell? (a.add j) = some u) (h1 : ∀ u ∈ news, u.oneCell' = true) (hk : k + m ≤ 200000) (hb : base ≤ w.heap.size) (ty : TypeId) :
    ∃ v' w', (Builtin.append_ #[42, 42] ty #[v, .slice x m c]).run Try.prog w = .ok v' w' ∧ w'.ownsRow base 91 2 v' (k + m) (xs ++ news) ∧ w.grownBy w' v.ownBlock := by
  obtain ⟨i0, hi0, hz0, hz1, hz2⟩ := info_parts91
  rcases hsrc with ⟨rfl, rfl, rfl⟩ | ⟨a, rfl, hc⟩
  · have : news = [] := by cases news with | nil => rfl | cons a l => simp at hl
    subst this
    refine ⟨v, w, run_append_owned_none (P := Try.prog) (w := w) base 42 ty 91 i0 2 Try.underlying42 hi0 v k xs hown, by simpa using hown, ?_⟩
    exact ⟨rfl, rfl, rfl, Nat.le_refl _, fun _ _ _ => rfl⟩
  · obtain ⟨v', w', r1, r2, r3, _⟩ := run_append_own (P := Try.prog) w base 42 ty 91 i0 (.agg #[.string ByteArray.empty, .int .i64 0]) 2 24 Try.underlying42 hi0 hz0 hz1 hz2 rfl (by decide) v k xs hown a m c news hl hc h1 (by unfold maxLen; omega) (by omega) hb
    exact ⟨v', w', r1, r2, r3⟩
theorem src_at {w : World} {g o : Nat} {L : List Bd} (h : ∀ i, i < L.length → w.cell? ⟨g, o + i * 2, none⟩ = some (.string (bn L i).1) ∧ w.cell? ⟨g, o + i * 2 + 1, none⟩ = some (.int .i64 (bn L i).2)) :
    ∀ j u, (flat L)[j]? = some u → w.cell? ((⟨g, o, none⟩ : Addr).add j) = some u := fun j u hu => by
  have hj : j < (flat L).length := by
    rcases Nat.lt_or_ge j (flat L).length with q | q
    · exact q
    · rw [List.getElem?_eq_none q] at hu; cases hu
  rw [flat_len] at hj
  have ea : (⟨g, o, none⟩ : Addr).add j = ⟨g, o + j, none⟩ := by
    by_cases h0 : j = 0
    · subst h0; rfl
    · simp [Addr.add, h0]
  rw [ea]
  obtain ⟨a, b⟩ := h (j / 2) (by omega)
  obtain ⟨c, d⟩ := flat_get L (j / 2) (by omega)
  rcases (by omega : j = j / 2 * 2 ∨ j = j / 2 * 2 + 1) with q | q
  · rw [← q] at a c
    rw [c] at hu; cases hu; exact a
  · rw [Nat.add_assoc, ← q] at b
    rw [← q] at d
    rw [d] at hu; cases hu; exact b
theorem bn_take (L : List Bd) (i j : Nat) (h : j < i) : bn (L.take i) j = bn L j := by simp [bn, List.getD, h]
theorem bn_drop (L : List Bd) (i j : Nat) : bn (L.drop i) j = bn L (i + j) := by simp [bn, List.getD, List.getElem?_drop]
theorem RowB.take {w : World} {x : Option Addr} {n cap : Nat} {L : List Bd} (h : RowB w x n cap L) {i : Nat} (hi : i ≤ n) :
    (x = none ∧ i = 0 ∧ cap = 0) ∨ ∃ a, x = some a ∧ ∀ j u, (flat (L.take i))[j]? = some u → w.cell? (a.add j) = some u := by
  obtain ⟨h1, h2, ⟨rfl, rfl⟩ | ⟨g, rfl, hg, hc⟩⟩ := h
  · exact .inl ⟨rfl, by omega, rfl⟩
  · refine .inr ⟨_, rfl, src_at (fun j hj => ?_)⟩
    rw [List.length_take] at hj
    rw [bn_take L i j (by omega), Nat.zero_add]
    exact hc j (by omega)
theorem RowB.drop {w : World} {g : Nat} {n cap : Nat} {L : List Bd} (h : RowB w (some ⟨g, 0, none⟩) n cap L) {i : Nat} (hi : i ≤ n) :
    ∀ j u, (flat (L.drop i))[j]? = some u → w.cell? ((⟨g, i * 2, none⟩ : Addr).add j) = some u := by
  obtain ⟨h1, h2, ⟨hx, _⟩ | ⟨g', hg', hg, hc⟩⟩ := h
  · cases hx
  · cases hg'
    refine src_at (fun j hj => ?_)
    rw [List.length_drop] at hj
    rw [bn_drop, show i * 2 + j * 2 = (i + j) * 2 by omega]
    exact hc (i + j) (by omega)
theorem rowB_of {w : World} {base : Nat} {x : Option Addr} {n cap : Nat} {L : List Bd} (h : w.ownsRow base 91 2 (.slice x n cap) n (flat L)) (hl : L.length = n) : RowB w x n cap L := by
  refine ⟨hl.symm, owns_cap h, ?_⟩
  have h' := h
  rcases h.2 with ⟨hv, h0⟩ | ⟨g, cp, cur, hv, hb, hg, hnc, hcm, hcs, htake⟩
  · cases hv; exact .inl ⟨rfl, rfl⟩
  · cases hv
    refine .inr ⟨g, rfl, (Array.getElem?_eq_some_iff.1 hg).1, fun i hi => ?_⟩
    obtain ⟨c, d⟩ := flat_get L i (by omega)
    exact ⟨(h'.cellAt (i * 2) (by omega)).trans c, (h'.cellAt (i * 2 + 1) (by omega)).trans d⟩
end Go.Proofs.Ythkcfdnenbboaaa
