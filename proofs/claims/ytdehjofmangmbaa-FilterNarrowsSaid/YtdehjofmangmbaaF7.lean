/- Walks: the reference's Words. -/
import Derived.Test.YtdehjofmangmbaaF6
namespace Go.Proofs.Ytdehjofmangmbaa
open Go.RowKit Go.Shelf
theorem wd_blank {cs : List Bs} {i : Nat} (hi : i < cs.length) (h : isBl (cs.getD i []) = true) : wdF (cs.take (i + 1)) = ((wdF (cs.take i)).1, false) := by
  rw [take_snocB cs i hi, wdF_snoc]
  unfold wdR
  rw [if_pos h]
theorem wd_run {cs : List Bs} {i : Nat} (h0 : (wdF (cs.take i)).2 = false) : ∀ m, i + m < cs.length → (∀ q, i ≤ q → q < i + m + 1 → isBl (cs.getD q []) = false) → wdF (cs.take (i + m + 1)) = ((wdF (cs.take i)).1 ++ [(cs.drop i).take (m + 1)], true)
  | 0, hm, hq => by
    rw [take_snocB cs (i + 0) hm, wdF_snoc]
    unfold wdR
    rw [Nat.add_zero, if_neg (by rw [hq i (Nat.le_refl _) (by omega)]; simp)]
    rw [h0]
    simp only [Bool.false_eq_true, if_false]
    rw [List.drop_eq_getElem_cons (by omega), List.getD_eq_getElem?_getD, List.getElem?_eq_getElem (by omega)]
    rfl
  | m + 1, hm, hq => by
    have ih := wd_run h0 m (by omega) (fun q h1 h2 => hq q h1 (by omega))
    rw [show i + (m + 1) + 1 = (i + m + 1) + 1 by omega, take_snocB cs (i + m + 1) (by omega), wdF_snoc, ih]
    unfold wdR
    rw [if_neg (by rw [hq (i + m + 1) (by omega) (by omega)]; simp)]
    simp only [if_true]
    have h1 : (cs.drop i).take (m + 1 + 1) = (cs.drop i).take (m + 1) ++ [cs.getD (i + m + 1) []] := by
      rw [take_snocB (cs.drop i) (m + 1) (by rw [List.length_drop]; omega)]
      simp only [List.getD_eq_getElem?_getD, List.getElem?_drop]
      rw [show i + (m + 1) = i + m + 1 by omega]
    rw [h1]
    simp [List.getD_eq_getElem?_getD]
theorem TxV.sub {W : World} {g c : Nat} {L : List Bs} (hg : g < W.heap.size) (hget : ∀ i, i < L.length → W.cell? ⟨g, i, none⟩ = some (.string (tx (L.getD i [])))) {i k : Nat} (hk : k ≤ L.length) (hc : L.length ≤ c) (hL : L.length ≤ 1000000) : TxV W (.slice (some ⟨g, i, none⟩) (k - i) (c - i)) ((L.drop i).take (k - i)) := by
  have hl : ((L.drop i).take (k - i)).length = k - i := by rw [List.length_take, List.length_drop]; omega
  refine ⟨by rw [hl]; omega, .inr ⟨g, i, c - i, by rw [hl], by rw [hl]; omega, hg, fun j hj => ?_⟩⟩
  rw [hl] at hj
  rw [hget (i + j) (by omega)]
  congr 3
  rw [List.getD_eq_getElem?_getD, List.getD_eq_getElem?_getD, List.getElem?_take_of_lt hj, List.getElem?_drop]
end Go.Proofs.Ytdehjofmangmbaa
