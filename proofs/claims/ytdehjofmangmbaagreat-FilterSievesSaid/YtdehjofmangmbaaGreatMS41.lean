/- Own texts, merged: FL. -/
import Derived.Test.YtdehjofmangmbaaGreatMS39
import Derived.Test.YtdehjofmangmbaaGreatShelfB
/- Walks: Marks of both sides. -/
namespace Go.Proofs.YtdehjofmangmbaaGreat
open Go.RowKit Go.Shelf
/-- A row of numbers that may be read. -/
def IntV (W : World) (v : Value) (l : List Nat) : Prop := ∃ x c, v = .slice x l.length c ∧ l.length ≤ c ∧ (l ≠ [] → ∃ g, x = some ⟨g, 0, none⟩ ∧ g < W.heap.size ∧ ∀ i, i < l.length → W.cell? ⟨g, i, none⟩ = some (.int .i64 (l.getD i 0 : Nat)))
theorem IntV.below {W W' : World} {v : Value} {l : List Nat} (h : IntV W v l) (hB : Below W.heap.size W W') : IntV W' v l := by
  obtain ⟨x, c, h1, h2, h3⟩ := h
  refine ⟨x, c, h1, h2, fun hne => ?_⟩
  obtain ⟨g, e, hg, hc⟩ := h3 hne
  exact ⟨g, e, Nat.lt_of_lt_of_le hg hB.size, fun i hi => (hB.cell (p := ⟨g, i, none⟩) hg).trans (hc i hi)⟩
theorem IntO.view {b : Nat} {W : World} {v : Value} {l : List Nat} (h : IntO b W v l) : IntV W v l := by
  obtain ⟨x, c, rfl⟩ := h.is
  by_cases h0 : l.length = 0
  · obtain rfl := List.length_eq_zero_iff.1 h0
    exact ⟨x, c, rfl, by simp, fun q => absurd rfl q⟩
  · obtain ⟨_, g, e, hg, hc, hget⟩ := h.get 0 (by omega)
    exact ⟨x, c, rfl, hc, fun _ => ⟨g, e, hg, hget⟩⟩
/-- Numbers put in order. -/
def srt (l : List Nat) : List Int := (l.map Int.ofNat).mergeSort fun x y => decide (x ≤ y)
theorem srt_len (l : List Nat) : (srt l).length = l.length := by unfold srt; rw [List.length_mergeSort, List.length_map]
theorem srt_mem (l : List Nat) (x : Int) : x ∈ srt l ↔ ∃ n ∈ l, x = (n : Int) := by
  unfold srt
  rw [(List.mergeSort_perm _ _).mem_iff, List.mem_map]
  exact ⟨fun ⟨n, h, e⟩ => ⟨n, h, e.symm⟩, fun ⟨n, h, e⟩ => ⟨n, h, e.symm⟩⟩
theorem srt_rise (l : List Nat) : (srt l).Pairwise (· ≤ ·) := by
  have h := List.pairwise_mergeSort (le := fun x y : Int => decide (x ≤ y)) (fun a b c h1 h2 => by simp at *; omega) (fun a b => by simp; omega) (l.map Int.ofNat)
  exact h.imp (fun h => of_decide_eq_true h)
theorem bang_get (zs : List Int) {i : Nat} (hi : i < zs.length) : zs.toArray[i]! = zs[i] := by
  rw [getElem!_pos zs.toArray i (by simpa using hi)]
  simp
theorem compact_rise {zs : List Int} (h : zs.Pairwise (· ≤ ·)) : (Lib.compact zs).Pairwise (· < ·) := by
  unfold Lib.compact Lib.compactUpTo
  rw [List.pairwise_map]
  have h1 : ((List.range zs.length).filter (Lib.keeps zs.toArray)).Pairwise (· < ·) := List.Pairwise.filter _ List.pairwise_lt_range
  refine h1.imp_of_mem (fun {i j} hi hj hij => ?_)
  obtain ⟨h2, h3⟩ := List.mem_filter.1 hj
  have hjl := List.mem_range.1 h2
  unfold Lib.keeps at h3
  have h4 := of_decide_eq_true h3
  rcases h4 with e | e
  · omega
  · rw [bang_get zs (by omega), bang_get zs hjl]
    rw [bang_get zs hjl, bang_get zs (by omega)] at e
    have a1 : zs[i] ≤ zs[j - 1] := by
      rcases Nat.lt_or_ge i (j - 1) with q | q
      · exact List.pairwise_iff_getElem.1 h i (j - 1) (by omega) (by omega) q
      · have : i = j - 1 := by omega
        subst this
        exact Int.le_refl _
    have a2 : zs[j - 1] ≤ zs[j] := List.pairwise_iff_getElem.1 h (j - 1) j (by omega) hjl (by omega)
    omega
theorem compact_mem {zs : List Int} (x : Int) : x ∈ Lib.compact zs ↔ x ∈ zs := by
  unfold Lib.compact Lib.compactUpTo
  rw [List.mem_map]
  constructor
  · rintro ⟨i, hi, rfl⟩
    have := List.mem_range.1 (List.mem_filter.1 hi).1
    rw [bang_get zs this]
    exact List.getElem_mem _
  · intro hx
    obtain ⟨j, hj, e⟩ := List.getElem_of_mem hx
    have : ∀ j, (hj : j < zs.length) → zs[j] = x → ∃ k, k < zs.length ∧ Lib.keeps zs.toArray k = true ∧ zs.toArray[k]! = x := by
      intro j
      induction j with
      | zero => intro hj e; exact ⟨0, hj, by simp [Lib.keeps], by rw [bang_get zs hj]; exact e⟩
      | succ j ih =>
        intro hj e
        by_cases q : zs[j] = x
        · exact ih (by omega) q
        · refine ⟨j + 1, hj, ?_, by rw [bang_get zs hj]; exact e⟩
          unfold Lib.keeps
          refine decide_eq_true (.inr ?_)
          rw [Nat.add_sub_cancel, bang_get zs hj, bang_get zs (by omega), e]
          exact fun r => q r.symm
    obtain ⟨k, h1, h2, h3⟩ := this j hj e
    exact ⟨k, List.mem_filter.2 ⟨List.mem_range.2 h1, h2⟩, h3⟩
theorem inc_unique : ∀ {A B : List Int}, A.Pairwise (· < ·) → B.Pairwise (· < ·) → (∀ x, x ∈ A ↔ x ∈ B) → A = B
  | [], [], _, _, _ => rfl
  | [], b :: B, _, _, h => absurd ((h b).2 (by simp)) (by simp)
  | a :: A, [], _, _, h => absurd ((h a).1 (by simp)) (by simp)
  | a :: A, b :: B, hA, hB, h => by
    obtain ⟨a1, a2⟩ := List.pairwise_cons.1 hA
    obtain ⟨b1, b2⟩ := List.pairwise_cons.1 hB
    have e : a = b := by
      rcases List.mem_cons.1 ((h a).1 (by simp)) with q | q
      · exact q
      · rcases List.mem_cons.1 ((h b).2 (by simp)) with q2 | q2
        · exact q2.symm
        · have := b1 a q; have := a1 b q2; omega
    subst e
    congr 1
    refine inc_unique a2 b2 (fun x => ⟨fun hx => ?_, fun hx => ?_⟩)
    · rcases List.mem_cons.1 ((h x).1 (by simp [hx])) with q | q
      · have := a1 x hx; omega
      · exact q
    · rcases List.mem_cons.1 ((h x).2 (by simp [hx])) with q | q
      · have := b1 x hx; omega
      · exact q
/-- What is left of marked places in order: each once. -/
theorem marks_is (l : List Nat) (n : Nat) (h : ∀ x ∈ l, x < n) : Lib.compact (srt l) = ((List.range n).filter (fun i => l.contains i)).map Int.ofNat := by
  refine inc_unique (compact_rise (srt_rise l)) ?_ (fun x => ?_)
  · rw [List.pairwise_map]
    exact (List.Pairwise.filter _ List.pairwise_lt_range).imp (fun {a b} h => by simp only [Int.ofNat_eq_natCast]; omega)
  · rw [compact_mem, srt_mem, List.mem_map]
    constructor
    · rintro ⟨m, hm, rfl⟩
      exact ⟨m, List.mem_filter.2 ⟨List.mem_range.2 (h m hm), by simpa using hm⟩, rfl⟩
    · rintro ⟨m, hm, rfl⟩
      exact ⟨m, by simpa using (List.mem_filter.1 hm).2, rfl⟩
theorem put_below {W wc : World} {B q n : Nat} {T : Array Int} {os : Array Obj} (hb : Below B W wc) (hB : B ≤ W.heap.size) (hq : B ≤ q) : Below B W (Sort.grow (Sort.putRow (Value.int .i64) (Sort.ahead wc n) q 0 T) os) := by
  refine hb.trans ⟨rfl, rfl, rfl, by simp, fun k hk => ?_⟩
  rw [Sort.heap_grow_old _ _ (by have := hb.size; simp; omega)]
  simp only [Sort.putRow, Sort.mapBlock, Sort.heap_ahead, Array.getElem?_modify]
  rw [if_neg (by omega)]
theorem holds_ints {b : Nat} {W : World} {q c : Nat} {l : List Nat} (h : IntO b W (.slice (some ⟨q, 0, none⟩) l.length c) l) : Sort.Holds (Value.int .i64) W q 0 (l.map Int.ofNat).toArray := by
  have hh : W.ownsRow b 3 1 (.slice (some ⟨q, 0, none⟩) l.length c) l.length (ints l) := h
  rcases h.2 with ⟨hv, h0⟩ | ⟨g, cap', cur, hv, _, hg, hnc, _⟩
  · simp at hv
  · obtain ⟨rfl, rfl⟩ : q = g ∧ c = cap' := by simpa using hv
    intro j hj
    have hj' : j < l.length := by simpa using hj
    have h3 := hh.cellAt j (by omega)
    rw [Nat.zero_add]
    refine ⟨?_, by simp [World.frozen?, hg]⟩
    rw [getElem!_pos _ j hj, h3, ints, List.getElem?_map, List.getElem?_eq_getElem hj']
    simp
theorem wsorti {W : World} {b c : Nat} {x : Option Addr} {l : List Nat} (h : IntO b W (.slice x l.length c) l) (hl : l.length ≤ 490000000000) (hb : b ≤ W.heap.size) :
    Calls Tryz.prog 40 #[.slice x l.length c] W fun e w' => e = .returned (.tuple #[]) ∧ Below b W w' ∧ (∀ j, j < W.heap.size → some j ≠ (Value.slice x l.length c).ownBlock → w'.heap[j]? = W.heap[j]?) ∧ (l ≠ [] → ∃ q, x = some ⟨q, 0, none⟩ ∧ q < W.heap.size ∧ b ≤ q ∧ l.length ≤ c ∧ Sort.Holds (Value.int .i64) w' q 0 (srt l).toArray) := by
  by_cases h0 : l = []
  · subst h0
    refine (Tryz.slices_Sort_int_none x c W).mono ?_
    rintro e w' ⟨rfl, rfl⟩
    exact ⟨rfl, Below.refl _ _, fun _ _ _ => rfl, fun q => absurd rfl q⟩
  · have hp : 0 < l.length := List.length_pos_iff.2 h0
    have hh := h
    rcases h.2 with ⟨hv, h1⟩ | ⟨g, cap', cur, hv, hge, hg, hnc, _⟩
    · omega
    · obtain ⟨rfl, rfl⟩ : x = some ⟨g, 0, none⟩ ∧ c = cap' := by simpa using hv
      have hlt : g < W.heap.size := (Array.getElem?_eq_some_iff.1 hg).1
      have hH := holds_ints hh
      have hs := Tryz.slices_Sort_int g 0 c (l.map Int.ofNat) W hH hlt (by rw [List.length_map]; omega)
      rw [List.length_map] at hs
      refine hs.mono ?_
      rintro e w' ⟨rfl, n, os, rfl⟩
      refine ⟨rfl, put_below (Below.refl _ _) hb hge, fun j hj hne => ?_, fun _ => ⟨g, rfl, hlt, hge, hnc, ?_⟩⟩
      · rw [Sort.heap_grow_old _ _ (by simpa using hj)]
        simp only [Sort.putRow, Sort.mapBlock, Sort.heap_ahead, Array.getElem?_modify]
        rw [if_neg (fun e => hne (by rw [e]; rfl))]
      have hp := Sort.holds_putRow (Value.int .i64) (Sort.ahead W n) g 0 (l.map Int.ofNat).toArray (srt l).toArray hH (by simp [srt_len])
      intro j hj
      obtain ⟨k1, k2⟩ := hp j hj
      have hgs : g < (Sort.putRow (Value.int .i64) (Sort.ahead W n) g 0 (srt l).toArray).heap.size := by simpa using hlt
      refine ⟨?_, ?_⟩
      · rw [← k1]; exact Sort.cell?_grow _ _ _ hgs
      · rw [← k2]; exact Sort.frozen?_grow _ _ _ hgs
theorem wcompi {W : World} {b c q n : Nat} {l : List Nat} (hH : Sort.Holds (Value.int .i64) W q 0 (srt l).toArray) (hl : l.length ≤ 490000000000) (hc : l.length ≤ c) (hq : b ≤ q) (hqs : q < W.heap.size) (hb : b ≤ W.heap.size) (hn : ∀ x ∈ l, x < n) :
    Calls Tryz.prog 41 #[.slice (some ⟨q, 0, none⟩) l.length c] W fun e w' => ∃ v, e = .returned v ∧ IntV w' v ((List.range n).filter (fun i => l.contains i)) ∧ Below b W w' := by
  have hs := Tryz.slices_Compact_int q 0 c (srt l) W hH (by rw [srt_len]; omega) (by rw [srt_len]; exact hc)
  rw [srt_len] at hs
  refine hs.mono ?_
  rintro e w' ⟨rfl, k, rfl⟩
  have hm := marks_is l n hn
  have hlen : (Lib.compact (srt l)).length ≤ l.length := by have := Lib.compact_length_le (srt l); rwa [srt_len] at this
  have hlm : ((List.range n).filter (fun i => l.contains i)).length = (Lib.compact (srt l)).length := by rw [hm, List.length_map]
  refine ⟨_, rfl, ⟨some ⟨q, 0, none⟩, c, by rw [hlm], by omega, fun _ => ⟨q, rfl, by simpa using hqs, fun i hi => ?_⟩⟩, ?_⟩
  · have h1 := Sort.cell?_putRow (Value.int .i64) (Sort.ahead W k) q 0 (srt l).toArray (Lib.compact (srt l) ++ List.replicate (l.length - (Lib.compact (srt l)).length) 0).toArray hH (by simp [srt_len]; omega) i (by simp; omega)
    rw [Nat.zero_add] at h1
    rw [h1, bang_get _ (by simp; omega)]
    rw [List.getElem_append_left (by omega)]
    have h2 : (Lib.compact (srt l))[i]'(by omega) = Int.ofNat (((List.range n).filter (fun i => l.contains i))[i]'hi) := by
      have := congrArg (fun L : List Int => L[i]?) hm
      have h5 : (Lib.compact (srt l))[i]? = (((List.range n).filter (fun i => l.contains i)).map Int.ofNat)[i]? := this
      rw [List.getElem?_eq_getElem (by omega), List.getElem?_map, List.getElem?_eq_getElem hi] at h5
      simpa using h5
    rw [h2, List.getD_eq_getElem?_getD, List.getElem?_eq_getElem hi]
    rfl
  · have := put_below (os := #[]) (n := k) (q := q) (T := (Lib.compact (srt l) ++ List.replicate (l.length - (Lib.compact (srt l)).length) 0).toArray) (Below.refl b W) hb hq
    rwa [Sort.grow_empty] at this
end Go.Proofs.YtdehjofmangmbaaGreat
