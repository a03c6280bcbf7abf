/- Walks: Equal, SameAll, beside of both sides. -/
import Derived.Test.YtdehjofmangmbaaGreatF7
namespace Go.Proofs.YtdehjofmangmbaaGreat
open Go.RowKit Go.Shelf
theorem txmap_inj : ∀ {A B : List Bs}, A.map tx = B.map tx → A = B
  | [], [], _ => rfl
  | [], b :: B, h => by simp at h
  | a :: A, [], h => by simp at h
  | a :: A, b :: B, h => by
    simp only [List.map_cons, List.cons.injEq] at h
    have h1 : a = b := by have := congrArg (·.data.toList) h.1; simpa [tx] using this
    rw [h1, txmap_inj h.2]
theorem wequal (v1 v2 : Value) (A B : List Bs) (w : World) (h1 : TxV w v1 A) (h2 : TxV w v2 B) : Calls Tryz.prog 74 #[v1, v2] w fun e w' => e = .returned (.bool (decide (A = B))) ∧ Below w.heap.size w w' := by
  obtain ⟨x1, c1, rfl, _, k1, f1⟩ := h1.old
  obtain ⟨x2, c2, rfl, _, k2, f2⟩ := h2.old
  by_cases hl : A.length = B.length
  · rcases Nat.eq_zero_or_pos A.length with e | e
    · have hA : A = [] := List.length_eq_zero_iff.1 e
      have hB : B = [] := List.length_eq_zero_iff.1 (by omega)
      subst hA; subst hB
      refine (Tryz.slices_Equal_string_empty x1 x2 c1 0 c2 w (by omega)).mono ?_
      rintro e w' ⟨rfl, rfl⟩
      exact ⟨rfl, Below.refl _ _⟩
    · obtain ⟨g1, o1, rfl, _, q1⟩ := f1 (List.ne_nil_of_length_pos e)
      obtain ⟨g2, o2, rfl, _, q2⟩ := f2 (List.ne_nil_of_length_pos (by omega))
      have cell : ∀ (L : List Bs) (g o : Nat), (∀ i, i < L.length → w.cell? ⟨g, o + i, none⟩ = some (.string (tx (L.getD i [])))) → ∀ j, j < (L.map tx).length → w.cell? ⟨g, o + j, none⟩ = some (.string ((L.map tx).getD j ByteArray.empty)) := fun L g o h j hj => by
        rw [List.length_map] at hj
        rw [h j hj, List.getD_eq_getElem?_getD, List.getD_eq_getElem?_getD, List.getElem?_map, List.getElem?_eq_getElem hj]
        rfl
      refine (Tryz.slices_Equal_string g1 o1 A.length c1 g2 o2 B.length c2 (A.map tx) (B.map tx) w (by simp) (by simp) (by omega) (by omega) (cell A g1 o1 q1) (cell B g2 o2 q2)).mono ?_
      rintro e w' ⟨rfl, q, rfl⟩
      refine ⟨?_, below_drewN (Below.refl _ _) _⟩
      rw [List.take_of_length_le (by simp), List.take_of_length_le (by simp)]
      congr 2
      exact decide_eq_decide.2 ⟨txmap_inj, fun h => by rw [h]⟩
  · refine (Tryz.slices_Equal_string_lens x1 x2 A.length c1 B.length c2 w hl).mono ?_
    rintro e w' ⟨rfl, rfl⟩
    exact ⟨by rw [decide_eq_false (fun e => hl (by rw [e]))], Below.refl _ _⟩
theorem same_upto {A B : List Bs} (hl : A.length = B.length) (h : ∀ i, i < A.length → A.getD i [] = B.getD i []) : A = B := by
  refine List.ext_getElem hl (fun i h1 h2 => ?_)
  have := h i h1
  rw [List.getD_eq_getElem?_getD, List.getD_eq_getElem?_getD, List.getElem?_eq_getElem h1, List.getElem?_eq_getElem h2] at this
  exact this
set_option maxHeartbeats 2000000 in
theorem rsame (v1 v2 : Value) (A B : List Bs) (w : World) (h1 : TxV w v1 A) (h2 : TxV w v2 B) : Calls Tryz.prog 12 #[v1, v2] w fun e w' => e = .returned (.bool (decide (A = B))) ∧ Below w.heap.size w w' := by
  obtain ⟨x1, c1, rfl, _, k1, f1⟩ := h1.old
  obtain ⟨x2, c2, rfl, _, k2, f2⟩ := h2.old
  have HX := Lib.hid f1
  have HY := Lib.hid f2
  obtain ⟨V, hV⟩ : ∃ V, V = decide (A = B) := ⟨_, rfl⟩
  have HV := Lib.hid hV
  rw [← hV]
  by_cases hl : A.length = B.length
  · obtain ⟨n, hn⟩ : ∃ n, n = A.length := ⟨_, rfl⟩
    have HN := Lib.hid hn
    have HNB := Lib.hid (hn.trans hl)
    rw [← hl, ← hn]
    rw [← hn] at k1
    have bn : ((n : Int) != (n : Int)) = false := by simp
    clear f1 f2 h1 h2 hV hl hn k2
    go_enter Tryz.func12, Tryz.ntmps12
    go_wp2
    go_loopw [5] (fun i wr => ∃ k : Nat, k ≤ n ∧ i = .int .i64 (k : Int) ∧ Hid (∀ q, q < k → A.getD q [] = B.getD q []) ∧ Hid (∃ m, wr = w.drewN m)) (fun i _ => n - (intOf i).toNat)
    case atStart => exact ⟨0, by omega, rfl, Lib.hid (fun q h => by omega), Lib.hid ⟨0, rfl⟩⟩
    case round =>
      obtain ⟨k, hk, rfl, HQ, HW⟩ := hrel
      have i1 : (0 : Int) ≤ (k : Int) := by omega
      by_cases hlt : k < n
      · obtain ⟨g, o, rfl, _, hg⟩ := HX.out (List.ne_nil_of_length_pos (by have := HN.out; omega))
        obtain ⟨g2, o2, rfl, _, hg2⟩ := HY.out (List.ne_nil_of_length_pos (by have := HNB.out; omega))
        have ce : wr.cell? ⟨g, o + k, none⟩ = some (.string (tx (A.getD k []))) := by
          obtain ⟨m, rfl⟩ := HW.out
          have := hg k (by have := HN.out; omega)
          simpa [go_sem] using this
        have ce2 : wr.cell? ⟨g2, o2 + k, none⟩ = some (.string (tx (B.getD k []))) := by
          obtain ⟨m, rfl⟩ := HW.out
          have := hg2 k (by have := HNB.out; omega)
          simpa [go_sem] using this
        have i2 : (k : Int) < (n : Int) := by omega
        obtain ⟨X, hX⟩ : ∃ X, X = tx (A.getD k []) := ⟨_, rfl⟩
        obtain ⟨Y, hY⟩ : ∃ X, X = tx (B.getD k []) := ⟨_, rfl⟩
        rw [← hX] at ce
        rw [← hY] at ce2
        by_cases he : A.getD k [] = B.getD k []
        · have hxy : X = Y := by rw [hX, hY, he]
          subst hxy
          have HE := Lib.hid he
          clear hg hg2 hX hY he
          go_wp2
          go_quiet (fail)
          go_wp2
          go_roundw
          case rel =>
            obtain ⟨m, rfl⟩ := HW.out
            exact ⟨k + 1, by omega, by go_num, Lib.hid (fun q h => by
              by_cases e : q = k
              · rw [e]; exact HE.out
              · exact HQ.out q (by omega)), Lib.hid ⟨m + nq, World.drewN_drewN _ _ _⟩⟩
          case measure => simp [intOf]; omega
        · have hxy : (X.toList == Y.toList) = false := by rw [beq_bytes, decide_eq_false (fun e => he (by have := congrArg (·.data.toList) (hX.symm.trans (e.trans hY)); simpa [tx] using this))]
          have HF : Hid (V = false) := Lib.hid (by rw [HV.out]; exact decide_eq_false (fun e => he (by rw [e])))
          clear hg hg2 hX hY he
          go_wp2
          go_quiet (fail)
          go_wp2
          go_ret
          obtain ⟨m, rfl⟩ := HW.out
          exact ⟨ret_bool HF.out.symm, below_drewN (below_drewN (Below.refl _ _) m) _⟩
      · have i2 : ¬ (k : Int) < (n : Int) := by omega
        have HF : Hid (V = true) := Lib.hid (by rw [HV.out]; exact decide_eq_true (same_upto (by rw [← HN.out, ← HNB.out]) (fun i hi => HQ.out i (by have := HN.out; omega))))
        go_wp2
        go_ret
        obtain ⟨m, rfl⟩ := HW.out
        exact ⟨ret_bool HF.out.symm, below_drewN (Below.refl _ _) m⟩
  · have HF : Hid (V = false) := Lib.hid (by rw [hV]; exact decide_eq_false (fun e => hl (by rw [e])))
    have bn : ((A.length : Int) != (B.length : Int)) = true := by rw [bne_iff_ne]; omega
    generalize A.length = n at *
    generalize B.length = n2 at *
    clear f1 f2 h1 h2 hV HX HY HV
    go_enter Tryz.func12, Tryz.ntmps12
    go_wp2
    go_ret
    exact ⟨ret_bool HF.out.symm, Below.refl _ _⟩
end Go.Proofs.YtdehjofmangmbaaGreat
