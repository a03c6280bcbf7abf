/- Own texts, merged: V8. -/
import Derived.BigQuiet
import Derived.Deep.QuietTactic
import Derived.Test.YtfalcmbjjlgoaaaGreatDoorShelfC
import Derived.Test.YtfalcmbjjlgoaaaGreatDoorMT42
import Derived.Test.YtfalcmbjjlgoaaaGreatDoorMT43
/- Walks: Names: the program's; rows of texts, are two alike. -/
namespace Go.Proofs.YtfalcmbjjlgoaaaGreatDoor
open Go.RowKit Go.Shelf Go.Lib
/-- A row of texts that may be read. -/
def TxV (W : World) (v : Value) (L : List Bs) : Prop := L.length ≤ 1000000 ∧ (v = .slice none 0 0 ∧ L = [] ∨ ∃ g o c, v = .slice (some ⟨g, o, none⟩) L.length c ∧ L.length ≤ c ∧ g < W.heap.size ∧ ∀ i, i < L.length → W.cell? ⟨g, o + i, none⟩ = some (.string (tx (L.getD i []))))
theorem TxV.old {W : World} {v : Value} {L : List Bs} (h : TxV W v L) : ∃ x c, v = .slice x L.length c ∧ L.length ≤ c ∧ L.length ≤ 1000000 ∧ (L ≠ [] → ∃ g o, x = some ⟨g, o, none⟩ ∧ g < W.heap.size ∧ ∀ i, i < L.length → W.cell? ⟨g, o + i, none⟩ = some (.string (tx (L.getD i [])))) := by
  obtain ⟨h1, ⟨rfl, rfl⟩ | ⟨g, o, c, rfl, h2, h3, h4⟩⟩ := h
  · exact ⟨none, 0, rfl, Nat.le_refl _, by simp, fun h => absurd rfl h⟩
  · exact ⟨_, c, rfl, h2, h1, fun _ => ⟨g, o, rfl, h3, h4⟩⟩
theorem TxV.below {W W' : World} {v : Value} {L : List Bs} (h : TxV W v L) (hB : Below W.heap.size W W') : TxV W' v L := by
  obtain ⟨h1, ⟨rfl, rfl⟩ | ⟨g, o, c, rfl, h2, h3, h4⟩⟩ := h
  · exact ⟨h1, .inl ⟨rfl, rfl⟩⟩
  · exact ⟨h1, .inr ⟨g, o, c, rfl, h2, Nat.lt_of_lt_of_le h3 hB.size, fun i hi => (hB.cell (p := ⟨g, o + i, none⟩) h3).trans (h4 i hi)⟩⟩
theorem TxV.nil (W : World) : TxV W (.slice none 0 0) [] := ⟨by simp, .inl ⟨rfl, rfl⟩⟩
theorem TxV.of_row {W : World} {b : Nat} {v : Value} {L : List Bs} (h : W.ownsRow b 9 1 v L.length (strs L)) (hL : L.length ≤ 1000000) : TxV W v L := by
  have hcl := fun g (hg : v.ownBlock = some g) => h.cells hg
  rcases h.2 with ⟨hv, h0⟩ | ⟨g, cap, cur, hv, _, hg, hnc, _⟩
  · exact ⟨hL, .inl ⟨hv, List.length_eq_zero_iff.1 h0⟩⟩
  · subst hv
    refine ⟨hL, .inr ⟨g, 0, cap, rfl, hnc, (Array.getElem?_eq_some_iff.1 hg).1, fun i hi => ?_⟩⟩
    rw [Nat.zero_add, h.cellAt i (by omega), strs, List.getElem?_map, List.getElem?_eq_getElem hi, List.getD_eq_getElem?_getD, List.getElem?_eq_getElem hi]
    rfl
/-- A row of texts that was put in order. -/
theorem sorted_below {W wc : World} {B q n : Nat} {T : Array Bs} {os : Array Obj} (hb : Below B W wc) (hB : B ≤ W.heap.size) (hq : B ≤ q) : Below B W (Sort.grow (Sort.putRow encStr (Sort.ahead wc n) q 0 T) os) := by
  refine hb.trans ⟨rfl, rfl, rfl, by simp, fun k hk => ?_⟩
  rw [Sort.heap_grow_old _ _ (by have := hb.size; simp; omega)]
  simp only [Sort.putRow, Sort.mapBlock, Sort.heap_ahead, Array.getElem?_modify]
  rw [if_neg (by omega)]
theorem sorted_cells {wc : World} {q n : Nat} {L T : List Bs} {os : Array Obj} (hH : Sort.Holds encStr wc q 0 L.toArray) (hq : q < wc.heap.size) (hl : T.length = L.length) (j : Nat) (hj : j < T.length) :
    (Sort.grow (Sort.putRow encStr (Sort.ahead wc n) q 0 T.toArray) os).cell? ⟨q, j, none⟩ = some (.string (tx (T.getD j []))) := by
  rw [Sort.cell?_grow _ _ _ (by simpa using hq)]
  have := Sort.cell?_putRow encStr (Sort.ahead wc n) q 0 L.toArray T.toArray hH (by simpa using hl) j (by simpa using hj)
  rw [Nat.zero_add] at this
  rw [this, List.getD_eq_getElem?_getD, List.getElem?_eq_getElem hj]
  rw [getElem!_pos _ _ (by simpa using hj)]
  rfl
theorem holds_of_row {W : World} {base q cap : Nat} {L : List Bs} (h : W.ownsRow base 9 1 (.slice (some ⟨q, 0, none⟩) L.length cap) L.length (strs L)) : Sort.Holds encStr W q 0 L.toArray := by
  have h2 := h.2
  rcases h2 with ⟨hv, h0⟩ | ⟨g, cap', cur, hv, _, hg, hnc, _, hcs, _⟩
  · simp at hv
  · obtain ⟨rfl, rfl⟩ : q = g ∧ cap = cap' := by simpa using hv
    intro j hj
    have hj' : j < L.length := by simpa using hj
    have h3 := h.cellAt j (by omega)
    rw [Nat.zero_add]
    refine ⟨?_, by simp [World.frozen?, hg]⟩
    rw [getElem!_pos L.toArray j hj, h3, strs, List.getElem?_map, List.getElem?_eq_getElem hj']
    rfl
theorem same_upto {A B : List Bs} (hl : A.length = B.length) (h : ∀ i, i < A.length → A.getD i [] = B.getD i []) : A = B := by
  refine List.ext_getElem hl (fun i h1 h2 => ?_)
  have := h i h1
  rw [List.getD_eq_getElem?_getD, List.getD_eq_getElem?_getD, List.getElem?_eq_getElem h1, List.getElem?_eq_getElem h2] at this
  exact this
set_option maxHeartbeats 2000000 in
theorem rsame (v1 v2 : Value) (A B : List Bs) (w : World) (h1 : TxV w v1 A) (h2 : TxV w v2 B) : Calls Tryz.prog 15 #[v1, v2] w fun e w' => e = .returned (.bool (decide (A = B))) ∧ Below w.heap.size w w' := by
  obtain ⟨x1, c1, rfl, _, k1, f1⟩ := h1.old
  obtain ⟨x2, c2, rfl, _, k2, f2⟩ := h2.old
  have HX := Lib.hid f1
  have HY := Lib.hid f2
  obtain ⟨V, hV⟩ : ∃ V, V = decide (A = B) := ⟨_, rfl⟩
  have HV := Lib.hid hV
  rw [← hV]
  by_cases hl : A.length = B.length
  · obtain ⟨n, hn⟩ : ∃ n, n = A.length := ⟨_, rfl⟩
    have HN := Lib.hid hn
    have HNB := Lib.hid (hn.trans hl)
    rw [← hl, ← hn]
    rw [← hn] at k1
    have bn : ((n : Int) != (n : Int)) = false := by simp
    clear f1 f2 h1 h2 hV hl hn k2
    go_enter Tryz.func15, Tryz.ntmps15
    go_wp2
    go_loopw [5] (fun i wr => ∃ k : Nat, k ≤ n ∧ i = .int .i64 (k : Int) ∧ Hid (∀ q, q < k → A.getD q [] = B.getD q []) ∧ Hid (∃ m, wr = w.drewN m)) (fun i _ => n - (intOf i).toNat)
    case atStart => exact ⟨0, by omega, rfl, Lib.hid (fun q h => by omega), Lib.hid ⟨0, rfl⟩⟩
    case round =>
      obtain ⟨k, hk, rfl, HQ, HW⟩ := hrel
      have i1 : (0 : Int) ≤ (k : Int) := by omega
      by_cases hlt : k < n
      · obtain ⟨g, o, rfl, _, hg⟩ := HX.out (List.ne_nil_of_length_pos (by have := HN.out; omega))
        obtain ⟨g2, o2, rfl, _, hg2⟩ := HY.out (List.ne_nil_of_length_pos (by have := HNB.out; omega))
        have ce : wr.cell? ⟨g, o + k, none⟩ = some (.string (tx (A.getD k []))) := by
          obtain ⟨m, rfl⟩ := HW.out
          have := hg k (by have := HN.out; omega)
          simpa [go_sem] using this
        have ce2 : wr.cell? ⟨g2, o2 + k, none⟩ = some (.string (tx (B.getD k []))) := by
          obtain ⟨m, rfl⟩ := HW.out
          have := hg2 k (by have := HNB.out; omega)
          simpa [go_sem] using this
        have i2 : (k : Int) < (n : Int) := by omega
        obtain ⟨X, hX⟩ : ∃ X, X = tx (A.getD k []) := ⟨_, rfl⟩
        obtain ⟨Y, hY⟩ : ∃ X, X = tx (B.getD k []) := ⟨_, rfl⟩
        rw [← hX] at ce
        rw [← hY] at ce2
        by_cases he : A.getD k [] = B.getD k []
        · have hxy : X = Y := by rw [hX, hY, he]
          subst hxy
          have HE := Lib.hid he
          clear hg hg2 hX hY he
          go_wp2
          go_quiet (fail)
          go_wp2
          go_roundw
          case rel =>
            obtain ⟨m, rfl⟩ := HW.out
            exact ⟨k + 1, by omega, by go_num, Lib.hid (fun q h => by
              by_cases e : q = k
              · rw [e]; exact HE.out
              · exact HQ.out q (by omega)), Lib.hid ⟨m + nq, World.drewN_drewN _ _ _⟩⟩
          case measure => simp [intOf]; omega
        · have hxy : (X.toList == Y.toList) = false := by rw [beq_bytes, decide_eq_false (fun e => he (by have := congrArg (·.data.toList) (hX.symm.trans (e.trans hY)); simpa [tx] using this))]
          have HF : Hid (V = false) := Lib.hid (by rw [HV.out]; exact decide_eq_false (fun e => he (by rw [e])))
          clear hg hg2 hX hY he
          go_wp2
          go_quiet (fail)
          go_wp2
          go_ret
          obtain ⟨m, rfl⟩ := HW.out
          exact ⟨ret_bool HF.out.symm, below_drewN (below_drewN (Below.refl _ _) m) _⟩
      · have i2 : ¬ (k : Int) < (n : Int) := by omega
        have HF : Hid (V = true) := Lib.hid (by rw [HV.out]; exact decide_eq_true (same_upto (by rw [← HN.out, ← HNB.out]) (fun i hi => HQ.out i (by have := HN.out; omega))))
        go_wp2
        go_ret
        obtain ⟨m, rfl⟩ := HW.out
        exact ⟨ret_bool HF.out.symm, below_drewN (Below.refl _ _) m⟩
  · have HF : Hid (V = false) := Lib.hid (by rw [hV]; exact decide_eq_false (fun e => hl (by rw [e])))
    have bn : ((A.length : Int) != (B.length : Int)) = true := by rw [bne_iff_ne]; omega
    generalize A.length = n at *
    generalize B.length = n2 at *
    clear f1 f2 h1 h2 hV HX HY HV
    go_enter Tryz.func15, Tryz.ntmps15
    go_wp2
    go_ret
    exact ⟨ret_bool HF.out.symm, Below.refl _ _⟩
theorem put_below {W wc : World} {B q n : Nat} {T : Array Bs} (hb : Below B W wc) (hq : B ≤ q) : Below B W (Sort.putRow encStr (Sort.ahead wc n) q 0 T) := by
  refine hb.trans ⟨rfl, rfl, rfl, by simp, fun k hk => ?_⟩
  simp only [Sort.putRow, Sort.mapBlock, Sort.heap_ahead, Array.getElem?_modify]
  rw [if_neg (by omega)]
theorem nmP_nil {t : Tree} (h : namT t = []) : nmP t = [] := by unfold nmP; rw [h, List.mergeSort_nil]; rfl
theorem nmP_len (t : Tree) : (nmP t).length ≤ szT t := by
  have h1 : (nmP t).length ≤ ((namT t).mergeSort (fun x y => decide (x ≤ y))).length := compact_length_le _
  rw [(List.mergeSort_perm (namT t) _).length_eq] at h1
  have := namT_len t
  omega
set_option maxRecDepth 100000 in
set_option maxHeartbeats 4000000 in
theorem wNames (t : Tree) (hz : szT t ≤ 1000000) (A : Nat → Prop) (v : Value) (w : World) (hv : NodeV A w v t) :
    Calls Tryz.prog 16 #[v] w fun e w' => ∃ u, e = .returned u ∧ TxV w' u (nmP t) ∧ Below w.heap.size w w' := by
  have HCO := Lib.hid (fun W (hb : Below w.heap.size w W) => wcollect w.heap.size _ t (Nat.le_refl _) v (.slice none 0 0) [] W hb.size (by simp; omega) ((hv.sub (fun b _ h => h) : NodeV (fun b => b < w.heap.size) w v t).low hb) (World.ownsRow_nil _ _ _ _))
  obtain ⟨o, n, s, x, l, c, rfl⟩ := hv.agg
  have HB0 := Lib.hid (bel1 w (.cells #[.string o, .float .f64 n, .string s, .slice x l c] 25))
  have HL := Lib.hid (namT_len t)
  have HZ := Lib.hid hz
  clear hv hz
  go_enter Tryz.func16, Tryz.ntmps16
  go_wp2_with (first | (go_at_call 30; fail))
  generalize w.alloc (.cells #[.string o, .float .f64 n, .string s, .slice x l c] 25) = W0 at HB0 ⊢
  go_at_call 30
  refine (HCO.out W0 HB0.out).mono ?_
  rintro e w2 ⟨u, rfl, hu, hb2⟩
  have HB2 := Lib.hid (HB0.out.trans hb2)
  clear hb2 HB0 HCO
  rw [List.nil_append] at hu
  obtain ⟨y, cap, rfl⟩ := ownsRow_is hu
  obtain ⟨D, hD⟩ : ∃ D, D = namT t := ⟨_, rfl⟩
  rw [← hD] at hu HL ⊢
  have HDT := Lib.hid hD
  obtain ⟨K, hK⟩ : ∃ K, K = D.length := ⟨_, rfl⟩
  have hu' := hu
  rw [← hK] at hu ⊢
  have HK := Lib.hid hK
  by_cases q : D = []
  · obtain rfl : K = 0 := by rw [hK, q]; rfl
    have HN := Lib.hid (nmP_nil (t := t) (by rw [← HDT.out]; exact q))
    have HV : Hid (TxV w2 (.slice y 0 cap) (nmP t)) := Lib.hid (by
      rw [HN.out]
      rcases hu.2 with ⟨hv, _⟩ | ⟨g, cap', cur, hv, _, hg, hnc, _⟩
      · cases hv; exact TxV.nil w2
      · cases hv
        exact ⟨by simp, .inr ⟨g, 0, cap, rfl, Nat.zero_le _, (Array.getElem?_eq_some_iff.1 hg).1, fun i hi => by simp at hi⟩⟩)
    have HS := Lib.hid (fun W => Tryz.slices_Sort_string_none y cap W)
    have HC := Lib.hid (fun W => Tryz.slices_Compact_string_empty y cap W)
    clear hu hu' hK hD q
    go_wp2_with (first | (go_at_call 31; refine (HS.out _).mono ?_; rintro e w3 ⟨rfl, rfl⟩) | (go_at_call 32; refine (HC.out _).mono ?_; rintro e w3 ⟨rfl, rfl⟩))
    go_ret
    exact ⟨_, rfl, HV.out, HB2.out⟩
  · have hp : 0 < D.length := List.length_pos_iff.2 q
    have hrow : (Value.slice y K cap = Value.slice none 0 0 ∧ K = 0) ∨ ∃ g c cur, Value.slice y K cap = .slice (some ⟨g, 0, none⟩) K c ∧ w.heap.size ≤ g ∧ w2.heap[g]? = some (.cells cur 9 (0, 0)) ∧ K ≤ c := by
      rcases hu.2 with ⟨hv, h0⟩ | ⟨g, cap', cur, hv, hge, hg, hnc, _⟩
      · exact .inl ⟨hv, h0⟩
      · exact .inr ⟨g, cap', cur, hv, hge, hg, hnc⟩
    rcases hrow with ⟨_, h0⟩ | ⟨g, cap', cur, hv, hge, hg, hnc⟩
    · omega
    · obtain ⟨rfl, rfl⟩ : y = some ⟨g, 0, none⟩ ∧ cap = cap' := by simpa using hv
      have hlt : g < w2.heap.size := (Array.getElem?_eq_some_iff.1 hg).1
      have hH := holds_of_row hu'
      obtain ⟨S, hS⟩ : ∃ S, S = D.mergeSort (fun x y => decide (x ≤ y)) := ⟨_, rfl⟩
      have hSl : S.length = D.length := by rw [hS]; exact (List.mergeSort_perm D _).length_eq
      have HSO := Lib.hid (Tryz.slices_Sort_string g 0 cap D w2 hH hlt (by have := HL.out; have := HZ.out; omega))
      rw [← hS, ← hK] at HSO
      have HCO := Lib.hid (fun W (h : Sort.Holds encStr W g 0 S.toArray) => Tryz.slices_Compact_string g 0 cap S W h (by have := HL.out; have := HZ.out; omega) (by omega))
      have HCC : Hid (Lib.compact S = nmP t) := Lib.hid (by unfold nmP; rw [← HDT.out, hS])
      rw [hSl, ← hK, HCC.out] at HCO
      have HNL := Lib.hid (nmP_len t)
      obtain ⟨M, hM⟩ : ∃ M, M = nmP t := ⟨_, rfl⟩
      rw [← hM] at HCO HCC HNL
      have HMM := Lib.hid hM
      have HML : Hid (M.length ≤ K) := Lib.hid (by
        have h1 : (Lib.compact S).length ≤ S.length := Lib.compact_length_le S
        rw [HCC.out, hSl, ← hK] at h1
        exact h1)
      have HF : Hid (∀ n os m, TxV (Sort.putRow encStr (Sort.ahead (Sort.grow (Sort.putRow encStr (Sort.ahead w2 n) g 0 S.toArray) os) m) g 0 (M ++ List.replicate (K - M.length) []).toArray) (.slice (some ⟨g, 0, none⟩) M.length cap) M ∧ Below w.heap.size w (Sort.putRow encStr (Sort.ahead (Sort.grow (Sort.putRow encStr (Sort.ahead w2 n) g 0 S.toArray) os) m) g 0 (M ++ List.replicate (K - M.length) []).toArray)) := Lib.hid (fun n os m => by
        have h1 : Sort.Holds encStr (Sort.grow (Sort.putRow encStr (Sort.ahead w2 n) g 0 S.toArray) os) g 0 S.toArray :=
          Sort.holds_grow _ _ _ _ _ _ (by simpa using hlt) (Sort.holds_putRow encStr (Sort.ahead w2 n) g 0 D.toArray S.toArray (Sort.holds_ahead _ _ _ _ _ _ hH) (by simpa using hSl))
        have hml := HML.out
        refine ⟨⟨by have := HNL.out; have := HZ.out; omega, .inr ⟨g, 0, cap, rfl, by omega, by simp; omega, fun i hi => ?_⟩⟩, put_below (sorted_below HB2.out (Nat.le_refl _) hge) hge⟩
        have h2 := Sort.cell?_putRow encStr (Sort.ahead (Sort.grow (Sort.putRow encStr (Sort.ahead w2 n) g 0 S.toArray) os) m) g 0 S.toArray (M ++ List.replicate (K - M.length) []).toArray (Sort.holds_ahead _ _ _ _ _ _ h1) (by simp; omega) i (by simp; omega)
        rw [h2, getElem!_pos _ _ (by simp; omega)]
        rw [List.getD_eq_getElem?_getD, List.getElem?_eq_getElem hi]
        simp [List.getElem_append_left hi]
        rfl)
      have HH1 : Hid (∀ n os, Sort.Holds encStr (Sort.grow (Sort.putRow encStr (Sort.ahead w2 n) g 0 S.toArray) os) g 0 S.toArray) := Lib.hid (fun n os =>
          Sort.holds_grow _ _ _ _ _ _ (by simpa using hlt) (Sort.holds_putRow encStr (Sort.ahead w2 n) g 0 D.toArray S.toArray (Sort.holds_ahead _ _ _ _ _ _ hH) (by simpa using hSl)))
      clear hu hu' hK hD q hp hv hge hg hnc hlt hH hS hSl hM
      go_wp2_with (first | (go_at_call 31; fail))
      go_at_call 31
      refine HSO.out.mono ?_
      rintro e w3 ⟨rfl, n, os, rfl⟩
      have HF2 := Lib.hid (HF.out n os)
      have HC2 := Lib.hid (HCO.out _ (HH1.out n os))
      clear HSO HCO HF HH1
      generalize Sort.grow (Sort.putRow encStr (Sort.ahead w2 n) g 0 S.toArray) os = W3 at HF2 HC2 ⊢
      go_wp2_with (first | (go_at_call 32; fail))
      go_at_call 32
      refine HC2.out.mono ?_
      rintro e w4 ⟨rfl, m, rfl⟩
      have HF3 := Lib.hid (HF2.out m)
      clear HF2 HC2
      generalize Sort.putRow encStr (Sort.ahead W3 m) g 0 (M ++ List.replicate (K - M.length) []).toArray = W4 at HF3 ⊢
      generalize M.length = ML at HF3 ⊢
      go_wp2
      go_ret
      exact ⟨_, rfl, by rw [← HMM.out]; exact HF3.out.1, HF3.out.2⟩
end Go.Proofs.YtfalcmbjjlgoaaaGreatDoor
