/- Rows of texts that may be read; walks: letter, run, text, cut. -/
import Derived.Test.YtdehjofmangmbaaGreatF2
import Derived.Test.YtdehjofmangmbaaGreatKA
namespace Go.Proofs.YtdehjofmangmbaaGreat
open Go.RowKit Go.Shelf
/-- A row of texts that may be read. -/
def TxV (W : World) (v : Value) (L : List Bs) : Prop := L.length ≤ 1000000 ∧ (v = .slice none 0 0 ∧ L = [] ∨ ∃ g o c, v = .slice (some ⟨g, o, none⟩) L.length c ∧ L.length ≤ c ∧ g < W.heap.size ∧ ∀ i, i < L.length → W.cell? ⟨g, o + i, none⟩ = some (.string (tx (L.getD i []))))
theorem TxV.old {W : World} {v : Value} {L : List Bs} (h : TxV W v L) : ∃ x c, v = .slice x L.length c ∧ L.length ≤ c ∧ L.length ≤ 1000000 ∧ (L ≠ [] → ∃ g o, x = some ⟨g, o, none⟩ ∧ g < W.heap.size ∧ ∀ i, i < L.length → W.cell? ⟨g, o + i, none⟩ = some (.string (tx (L.getD i [])))) := by
  obtain ⟨h1, ⟨rfl, rfl⟩ | ⟨g, o, c, rfl, h2, h3, h4⟩⟩ := h
  · exact ⟨none, 0, rfl, Nat.le_refl _, by simp, fun h => absurd rfl h⟩
  · exact ⟨_, c, rfl, h2, h1, fun _ => ⟨g, o, rfl, h3, h4⟩⟩
theorem TxV.below {W W' : World} {v : Value} {L : List Bs} (h : TxV W v L) (hB : Below W.heap.size W W') : TxV W' v L := by
  obtain ⟨h1, ⟨rfl, rfl⟩ | ⟨g, o, c, rfl, h2, h3, h4⟩⟩ := h
  · exact ⟨h1, .inl ⟨rfl, rfl⟩⟩
  · exact ⟨h1, .inr ⟨g, o, c, rfl, h2, Nat.lt_of_lt_of_le h3 hB.size, fun i hi => (hB.cell (p := ⟨g, o + i, none⟩) h3).trans (h4 i hi)⟩⟩
theorem TxV.nil (W : World) : TxV W (.slice none 0 0) [] := ⟨by simp, .inl ⟨rfl, rfl⟩⟩
theorem TxV.of_row {W : World} {b : Nat} {v : Value} {L : List Bs} (h : W.ownsRow b 9 1 v L.length (strs L)) (hL : L.length ≤ 1000000) : TxV W v L := by
  have hcl := fun g (hg : v.ownBlock = some g) => h.cells hg
  rcases h.2 with ⟨hv, h0⟩ | ⟨g, cap, cur, hv, _, hg, hnc, _⟩
  · exact ⟨hL, .inl ⟨hv, List.length_eq_zero_iff.1 h0⟩⟩
  · subst hv
    refine ⟨hL, .inr ⟨g, 0, cap, rfl, hnc, (Array.getElem?_eq_some_iff.1 hg).1, fun i hi => ?_⟩⟩
    rw [Nat.zero_add, h.cellAt i (by omega), strs, List.getElem?_map, List.getElem?_eq_getElem hi, List.getD_eq_getElem?_getD, List.getElem?_eq_getElem hi]
    rfl
/-- A row of numbers of one's own. -/
def ints (l : List Nat) : List Value := l.map fun (n : Nat) => Value.int .i64 n
theorem ints_app (a b : List Nat) : ints (a ++ b) = ints a ++ ints b := by simp [ints]
def IntO (b : Nat) (W : World) (v : Value) (l : List Nat) : Prop := W.ownsRow b 3 1 v l.length (ints l)
theorem IntO.nil (b : Nat) (W : World) : IntO b W (.slice none 0 0) [] := World.ownsRow_nil _ _ _ _
theorem IntO.below {b : Nat} {W W' : World} {v : Value} {l : List Nat} (h : IntO b W v l) (hB : Below W.heap.size W W') : IntO b W' v l := row_kept h (fun j hj => hB.block j (h.lt j hj).2)
theorem IntO.get {b : Nat} {W : World} {x : Option Addr} {n c : Nat} {l : List Nat} (h : IntO b W (.slice x n c) l) (j : Nat) (hj : j < l.length) : n = l.length ∧ ∃ g, x = some ⟨g, 0, none⟩ ∧ g < W.heap.size ∧ l.length ≤ c ∧ ∀ i, i < l.length → W.cell? ⟨g, i, none⟩ = some (.int .i64 (l.getD i 0 : Nat)) := by
  have hl := h.1
  have h2 : W.ownsRow b 3 1 (.slice x n c) l.length (ints l) := h
  rcases h.2 with ⟨hv, h0⟩ | ⟨g, cap', cur, hv, hb, hg, hnc, _⟩
  · omega
  · obtain ⟨rfl, rfl, rfl⟩ : x = some ⟨g, 0, none⟩ ∧ n = l.length ∧ c = cap' := by simpa using hv
    refine ⟨rfl, g, rfl, (Array.getElem?_eq_some_iff.1 hg).1, hnc, fun i hi => ?_⟩
    have := h2.cellAt i (by omega)
    rw [this, ints, List.getElem?_map, List.getElem?_eq_getElem hi, List.getD_eq_getElem?_getD, List.getElem?_eq_getElem hi]
    rfl
theorem IntO.is {b : Nat} {W : World} {v : Value} {l : List Nat} (h : IntO b W v l) : ∃ x c, v = .slice x l.length c := ownsRow_is h
theorem run_ints (a j : Nat) : ints (runN a (j + 1)) = ints (runN a j) ++ [.int .i64 ((a : Int) + (j : Int))] := by
  unfold ints runN
  rw [List.range_succ, List.map_append, List.map_append]
  simp
set_option maxHeartbeats 4000000 in
theorem wletter (c : Bs) (h0 : c ≠ []) (w : World) : Calls Tryz.prog 53 #[.string (tx c)] w fun e w' => e = .returned (.bool (ltr c)) ∧ w = w' := by
  obtain ⟨b, t, rfl⟩ := List.exists_cons_of_ne_nil h0
  have hs : (tx (b :: t)).size = t.length + 1 := by simp [tx, ByteArray.size]
  have hx : (tx (b :: t))[0]'(by rw [hs]; omega) = b := by simp [tx, ByteArray.getElem_eq_getElem_data]
  obtain ⟨V, hV⟩ : ∃ V, V = decide (48 ≤ b.toNat ∧ b.toNat ≤ 57 ∨ 97 ≤ b.toNat ∧ b.toNat ≤ 122 ∨ 128 ≤ b.toNat) := ⟨_, rfl⟩
  have HR : Hid (ltr (b :: t) = V) := Lib.hid (by rw [hV]; rfl)
  have hb8 : b.toNat < 256 := b.toNat_lt
  rw [HR.out]
  clear HR
  generalize tx (b :: t) = T at hs hx ⊢
  have i0 : (0 : Int) < (T.size : Int) := by omega
  have hT : 0 < T.size := by omega
  by_cases a1 : 48 ≤ b.toNat
  · by_cases a2 : b.toNat ≤ 57
    · skip
      have HV : Hid (V = true) := Lib.hid (by rw [hV]; exact decide_eq_true (by omega))
      clear hV
      go_enter Tryz.func53, Tryz.ntmps53
      go_wp2
      go_ret
      exact ⟨ret_bool (by rw [HV.out]; try (simp <;> omega)), rfl⟩
    · by_cases a3 : 97 ≤ b.toNat
      · by_cases a4 : b.toNat ≤ 122
        · skip
          have HV : Hid (V = true) := Lib.hid (by rw [hV]; exact decide_eq_true (by omega))
          clear hV
          go_enter Tryz.func53, Tryz.ntmps53
          go_wp2
          go_ret
          exact ⟨ret_bool (by rw [HV.out]; try (simp <;> omega)), rfl⟩
        · by_cases a5 : 128 ≤ b.toNat
          · skip
            have HV : Hid (V = true) := Lib.hid (by rw [hV]; exact decide_eq_true (by omega))
            clear hV
            go_enter Tryz.func53, Tryz.ntmps53
            go_wp2
            go_ret
            exact ⟨ret_bool (by rw [HV.out]; try (simp <;> omega)), rfl⟩
          · skip
            have HV : Hid (V = false) := Lib.hid (by rw [hV]; exact decide_eq_false (by omega))
            clear hV
            go_enter Tryz.func53, Tryz.ntmps53
            go_wp2
            go_ret
            exact ⟨ret_bool (by rw [HV.out]; try (simp <;> omega)), rfl⟩
      · have a5 : ¬ 128 ≤ b.toNat := by omega
        have HV : Hid (V = false) := Lib.hid (by rw [hV]; exact decide_eq_false (by omega))
        clear hV
        go_enter Tryz.func53, Tryz.ntmps53
        go_wp2
        go_ret
        exact ⟨ret_bool (by rw [HV.out]; try (simp <;> omega)), rfl⟩
  · have a3 : ¬ 97 ≤ b.toNat := by omega
    have a5 : ¬ 128 ≤ b.toNat := by omega
    have HV : Hid (V = false) := Lib.hid (by rw [hV]; exact decide_eq_false (by omega))
    clear hV
    go_enter Tryz.func53, Tryz.ntmps53
    go_wp2
    go_ret
    exact ⟨ret_bool (by rw [HV.out]; try (simp <;> omega)), rfl⟩
set_option maxHeartbeats 4000000 in
theorem rletter (c : Bs) (h0 : c ≠ []) (w : World) : Calls Tryz.prog 57 #[.string (tx c)] w fun e w' => e = .returned (.bool (ltr c)) ∧ w = w' := by
  obtain ⟨b, t, rfl⟩ := List.exists_cons_of_ne_nil h0
  have hs : (tx (b :: t)).size = t.length + 1 := by simp [tx, ByteArray.size]
  have hx : (tx (b :: t))[0]'(by rw [hs]; omega) = b := by simp [tx, ByteArray.getElem_eq_getElem_data]
  obtain ⟨V, hV⟩ : ∃ V, V = decide (48 ≤ b.toNat ∧ b.toNat ≤ 57 ∨ 97 ≤ b.toNat ∧ b.toNat ≤ 122 ∨ 128 ≤ b.toNat) := ⟨_, rfl⟩
  have HR : Hid (ltr (b :: t) = V) := Lib.hid (by rw [hV]; rfl)
  have hb8 : b.toNat < 256 := b.toNat_lt
  rw [HR.out]
  clear HR
  generalize tx (b :: t) = T at hs hx ⊢
  have i0 : (0 : Int) < (T.size : Int) := by omega
  have hT : 0 < T.size := by omega
  by_cases a1 : 48 ≤ b.toNat
  · by_cases a2 : b.toNat ≤ 57
    · skip
      have HV : Hid (V = true) := Lib.hid (by rw [hV]; exact decide_eq_true (by omega))
      clear hV
      go_enter Tryz.func57, Tryz.ntmps57
      go_wp2
      go_ret
      exact ⟨ret_bool (by rw [HV.out]; try (simp <;> omega)), rfl⟩
    · by_cases a3 : 97 ≤ b.toNat
      · by_cases a4 : b.toNat ≤ 122
        · skip
          have HV : Hid (V = true) := Lib.hid (by rw [hV]; exact decide_eq_true (by omega))
          clear hV
          go_enter Tryz.func57, Tryz.ntmps57
          go_wp2
          go_ret
          exact ⟨ret_bool (by rw [HV.out]; try (simp <;> omega)), rfl⟩
        · by_cases a5 : 128 ≤ b.toNat
          · skip
            have HV : Hid (V = true) := Lib.hid (by rw [hV]; exact decide_eq_true (by omega))
            clear hV
            go_enter Tryz.func57, Tryz.ntmps57
            go_wp2
            go_ret
            exact ⟨ret_bool (by rw [HV.out]; try (simp <;> omega)), rfl⟩
          · skip
            have HV : Hid (V = false) := Lib.hid (by rw [hV]; exact decide_eq_false (by omega))
            clear hV
            go_enter Tryz.func57, Tryz.ntmps57
            go_wp2
            go_ret
            exact ⟨ret_bool (by rw [HV.out]; try (simp <;> omega)), rfl⟩
      · have a5 : ¬ 128 ≤ b.toNat := by omega
        have HV : Hid (V = false) := Lib.hid (by rw [hV]; exact decide_eq_false (by omega))
        clear hV
        go_enter Tryz.func57, Tryz.ntmps57
        go_wp2
        go_ret
        exact ⟨ret_bool (by rw [HV.out]; try (simp <;> omega)), rfl⟩
  · have a3 : ¬ 97 ≤ b.toNat := by omega
    have a5 : ¬ 128 ≤ b.toNat := by omega
    have HV : Hid (V = false) := Lib.hid (by rw [hV]; exact decide_eq_false (by omega))
    clear hV
    go_enter Tryz.func57, Tryz.ntmps57
    go_wp2
    go_ret
    exact ⟨ret_bool (by rw [HV.out]; try (simp <;> omega)), rfl⟩
set_option maxHeartbeats 4000000 in
theorem wrun (a n : Nat) (ha : a ≤ 1000000) (hn : n ≤ 1000000) (w : World) : Calls Tryz.prog 52 #[.int .i64 a, .int .i64 n] w fun e w' => ∃ v, e = .returned v ∧ IntO w.heap.size w' v (runN a n) ∧ Below w.heap.size w w' := by
  obtain ⟨i3, hi, hi0, hi1, hi2⟩ := info_parts3
  have HP := Lib.hid (And.intro hi (And.intro hi0 (And.intro hi1 hi2)))
  clear hi hi0 hi1 hi2
  go_enter Tryz.func52, Tryz.ntmps52
  go_wp2
  go_loopw [5, 8] (fun v i wr => ∃ j : Nat, i = .int .i64 (j : Int) ∧ j ≤ n ∧ Hid (IntO w.heap.size wr v (runN a j)) ∧ Hid (Below w.heap.size w wr)) (fun _ i _ => n - (intOf i).toNat)
  case atStart => exact ⟨0, rfl, Nat.zero_le _, Lib.hid (IntO.nil _ _), Lib.hid (Below.refl _ _)⟩
  case round =>
    obtain ⟨j, rfl, hj, HO, HB⟩ := hrel
    obtain ⟨x, c, rfl⟩ := HO.out.is
    have hlr : (runN a j).length = j := by simp [runN]
    have i1 : (0 : Int) ≤ (j : Int) := by omega
    by_cases hlt : j < n
    · have i2 : (j : Int) < (n : Int) := by omega
      have HTK := Lib.hid (run_ints a j)
      have HO' : Hid (wr.ownsRow w.heap.size 3 1 (.slice x j c) j (ints (runN a j))) := Lib.hid (by have := HO.out; unfold IntO at this; rwa [hlr] at this)
      rw [hlr]
      have hbs := HB.out.size
      clear hlr
      go_wp2_with (at_builtin; go_loud (refine wpList_append_own _ rfl _ _ 30 rfl w.heap.size 3 i3 (.int .i64 0) 1 8 Tryz.underlying30 HP.out.1 HP.out.2.1 HP.out.2.2.1 HP.out.2.2.2 rfl (by decide) _ _ _ rfl (HO'.out.alloc _) ⟨wr.heap.size, 0, none⟩ 1 1 [.int .i64 ((a : Int) + (j : Int))] rfl rfl (cell_one_new _ _ _) (by simp [Value.oneCell']) (by unfold maxLen; omega) (by omega) (by simp; omega) ?_))
      intro v' w4 ho hg4 _
      have HO4 : Hid (IntO w.heap.size w4 v' (runN a (j + 1))) := Lib.hid (by unfold IntO; rw [HTK.out, show (runN a (j + 1)).length = j + 1 by simp [runN]]; exact ho)
      have HB4 : Hid (Below w.heap.size w w4) := Lib.hid ((HB.out.alloc HB.out.size _).grown hg4 (by simp; omega) (fun k e => (HO'.out.lt k e).1))
      clear ho hg4
      go_wp2
      go_roundw
      case rel => exact ⟨j + 1, by go_num, by omega, HO4, HB4⟩
      case measure => simp [intOf]; omega
    · obtain rfl : j = n := by omega
      have i2 : ¬ (j : Int) < (j : Int) := by omega
      have HO2 : Hid (IntO w.heap.size wr (.slice x j c) (runN a j)) := Lib.hid (by have := HO.out; rwa [hlr] at this)
      go_wp2
      go_ret
      exact ⟨_, rfl, HO2.out, HB.out⟩
set_option maxHeartbeats 4000000 in
theorem rrun (a n : Nat) (ha : a ≤ 1000000) (hn : n ≤ 1000000) (w : World) : Calls Tryz.prog 55 #[.int .i64 a, .int .i64 n] w fun e w' => ∃ v, e = .returned v ∧ IntO w.heap.size w' v (runN a n) ∧ Below w.heap.size w w' := by
  obtain ⟨i3, hi, hi0, hi1, hi2⟩ := info_parts3
  have HP := Lib.hid (And.intro hi (And.intro hi0 (And.intro hi1 hi2)))
  clear hi hi0 hi1 hi2
  go_enter Tryz.func55, Tryz.ntmps55
  go_wp2
  go_loopw [5, 6] (fun v i wr => ∃ j : Nat, i = .int .i64 (j : Int) ∧ j ≤ n ∧ Hid (IntO w.heap.size wr v (runN a j)) ∧ Hid (Below w.heap.size w wr)) (fun _ i _ => n - (intOf i).toNat)
  case atStart => exact ⟨0, rfl, Nat.zero_le _, Lib.hid (IntO.nil _ _), Lib.hid (Below.refl _ _)⟩
  case round =>
    obtain ⟨j, rfl, hj, HO, HB⟩ := hrel
    obtain ⟨x, c, rfl⟩ := HO.out.is
    have hlr : (runN a j).length = j := by simp [runN]
    have i1 : (0 : Int) ≤ (j : Int) := by omega
    by_cases hlt : j < n
    · have i2 : (j : Int) < (n : Int) := by omega
      have HTK := Lib.hid (run_ints a j)
      have HO' : Hid (wr.ownsRow w.heap.size 3 1 (.slice x j c) j (ints (runN a j))) := Lib.hid (by have := HO.out; unfold IntO at this; rwa [hlr] at this)
      rw [hlr]
      have hbs := HB.out.size
      clear hlr
      go_wp2_with (at_builtin; go_loud (refine wpList_append_own _ rfl _ _ 30 rfl w.heap.size 3 i3 (.int .i64 0) 1 8 Tryz.underlying30 HP.out.1 HP.out.2.1 HP.out.2.2.1 HP.out.2.2.2 rfl (by decide) _ _ _ rfl (HO'.out.alloc _) ⟨wr.heap.size, 0, none⟩ 1 1 [.int .i64 ((a : Int) + (j : Int))] rfl rfl (cell_one_new _ _ _) (by simp [Value.oneCell']) (by unfold maxLen; omega) (by omega) (by simp; omega) ?_))
      intro v' w4 ho hg4 _
      have HO4 : Hid (IntO w.heap.size w4 v' (runN a (j + 1))) := Lib.hid (by unfold IntO; rw [HTK.out, show (runN a (j + 1)).length = j + 1 by simp [runN]]; exact ho)
      have HB4 : Hid (Below w.heap.size w w4) := Lib.hid ((HB.out.alloc HB.out.size _).grown hg4 (by simp; omega) (fun k e => (HO'.out.lt k e).1))
      clear ho hg4
      go_wp2
      go_roundw
      case rel => exact ⟨j + 1, by go_num, by omega, HO4, HB4⟩
      case measure => simp [intOf]; omega
    · obtain rfl : j = n := by omega
      have i2 : ¬ (j : Int) < (j : Int) := by omega
      have HO2 : Hid (IntO w.heap.size wr (.slice x j c) (runN a j)) := Lib.hid (by have := HO.out; rwa [hlr] at this)
      go_wp2
      go_ret
      exact ⟨_, rfl, HO2.out, HB.out⟩
set_option maxHeartbeats 4000000 in
theorem wtext (v : Value) (L : List Bs) (hS : L.flatten.length ≤ 1000000000) (w : World) (h : TxV w v L) : Calls Tryz.prog 36 #[v] w fun e w' => e = .returned (.string (tx L.flatten)) ∧ w = w' := by
  obtain ⟨x, c, rfl, hc, hn6, hg⟩ := h.old
  have HG := Lib.hid hg
  have HS := Lib.hid hS
  obtain ⟨n, hn⟩ : ∃ n, n = L.length := ⟨_, rfl⟩
  have HN := Lib.hid hn
  rw [← hn] at hn6 hc ⊢
  clear hg hn hS
  go_enter Tryz.func36, Tryz.ntmps36
  go_wp2
  have e0 : (⟨#[]⟩ : ByteArray) = tx (L.take 0).flatten := rfl
  rw [e0]
  clear e0
  generalize hZ : tx (L.take 0).flatten = Z
  have HZ := Lib.hid hZ
  clear hZ
  go_loopw [3, 8] (fun t i wr => ∃ (j : Nat) (S : ByteArray), i = .int .i64 (j : Int) ∧ j ≤ n ∧ t = .string S ∧ Hid (S = tx (L.take j).flatten) ∧ w = wr) (fun _ i _ => n - (intOf i).toNat)
  case atStart => exact ⟨0, Z, rfl, Nat.zero_le _, rfl, Lib.hid HZ.out.symm, rfl⟩
  case round =>
    obtain ⟨j, S, rfl, hj, rfl, HQ, rfl⟩ := hrel
    have i1 : (0 : Int) ≤ (j : Int) := by omega
    by_cases hlt : j < n
    · have i2 : (j : Int) < (n : Int) := by omega
      have hjl : j < L.length := by have := HN.out; omega
      obtain ⟨g, o, rfl, hgl, hget⟩ := HG.out (List.ne_nil_of_length_pos (by omega))
      have ce := hget j hjl
      have HF := Lib.hid (flatten_take L j hjl)
      have hsz : S.size + (tx (L.getD j [])).size ≤ 1000000000 := by
        rw [HQ.out, tx_sizeK, tx_sizeK]
        have h1 := flatten_take L j hjl
        have h2 : (L.take (j + 1)).flatten.length ≤ L.flatten.length := by
          have h3 : L.flatten = (L.take (j + 1)).flatten ++ (L.drop (j + 1)).flatten := by rw [← List.flatten_append, List.take_append_drop]
          rw [h3, List.length_append]; omega
        have h4 := HS.out
        rw [h1, List.length_append] at h2
        omega
      obtain ⟨X, hX⟩ : ∃ X, X = tx (L.getD j []) := ⟨_, rfl⟩
      have HX := Lib.hid hX
      rw [← hX] at ce hsz
      clear hX hget hgl
      go_wp2
      go_roundw
      case rel => exact ⟨j + 1, _, by go_num, by omega, rfl, Lib.hid (by rw [HF.out, HQ.out, HX.out]; apply ByteArray.ext; simp [tx]), by trivial⟩
      case measure => simp [intOf]; omega
    · have i2 : ¬ (j : Int) < (n : Int) := by omega
      have HE : Hid (S = tx L.flatten) := Lib.hid (by rw [HQ.out, List.take_of_length_le (by have := HN.out; omega)])
      go_wp2
      go_ret
      exact ⟨ret_str HE.out, rfl⟩
set_option maxHeartbeats 4000000 in
theorem rjoin (v : Value) (L : List Bs) (hS : L.flatten.length ≤ 1000000000) (w : World) (h : TxV w v L) : Calls Tryz.prog 37 #[v] w fun e w' => e = .returned (.string (tx L.flatten)) ∧ w = w' := by
  obtain ⟨x, c, rfl, hc, hn6, hg⟩ := h.old
  have HG := Lib.hid hg
  have HS := Lib.hid hS
  obtain ⟨n, hn⟩ : ∃ n, n = L.length := ⟨_, rfl⟩
  have HN := Lib.hid hn
  rw [← hn] at hn6 hc ⊢
  clear hg hn hS
  go_enter Tryz.func37, Tryz.ntmps37
  go_wp2
  have e0 : (⟨#[]⟩ : ByteArray) = tx (L.take 0).flatten := rfl
  rw [e0]
  clear e0
  generalize hZ : tx (L.take 0).flatten = Z
  have HZ := Lib.hid hZ
  clear hZ
  go_loopw [3, 4] (fun t i wr => ∃ (j : Nat) (S : ByteArray), i = .int .i64 (j : Int) ∧ j ≤ n ∧ t = .string S ∧ Hid (S = tx (L.take j).flatten) ∧ w = wr) (fun _ i _ => n - (intOf i).toNat)
  case atStart => exact ⟨0, Z, rfl, Nat.zero_le _, rfl, Lib.hid HZ.out.symm, rfl⟩
  case round =>
    obtain ⟨j, S, rfl, hj, rfl, HQ, rfl⟩ := hrel
    have i1 : (0 : Int) ≤ (j : Int) := by omega
    by_cases hlt : j < n
    · have i2 : (j : Int) < (n : Int) := by omega
      have hjl : j < L.length := by have := HN.out; omega
      obtain ⟨g, o, rfl, hgl, hget⟩ := HG.out (List.ne_nil_of_length_pos (by omega))
      have ce := hget j hjl
      have HF := Lib.hid (flatten_take L j hjl)
      have hsz : S.size + (tx (L.getD j [])).size ≤ 1000000000 := by
        rw [HQ.out, tx_sizeK, tx_sizeK]
        have h1 := flatten_take L j hjl
        have h2 : (L.take (j + 1)).flatten.length ≤ L.flatten.length := by
          have h3 : L.flatten = (L.take (j + 1)).flatten ++ (L.drop (j + 1)).flatten := by rw [← List.flatten_append, List.take_append_drop]
          rw [h3, List.length_append]; omega
        have h4 := HS.out
        rw [h1, List.length_append] at h2
        omega
      obtain ⟨X, hX⟩ : ∃ X, X = tx (L.getD j []) := ⟨_, rfl⟩
      have HX := Lib.hid hX
      rw [← hX] at ce hsz
      clear hX hget hgl
      go_wp2
      go_roundw
      case rel => exact ⟨j + 1, _, by go_num, by omega, rfl, Lib.hid (by rw [HF.out, HQ.out, HX.out]; apply ByteArray.ext; simp [tx]), by trivial⟩
      case measure => simp [intOf]; omega
    · have i2 : ¬ (j : Int) < (n : Int) := by omega
      have HE : Hid (S = tx L.flatten) := Lib.hid (by rw [HQ.out, List.take_of_length_le (by have := HN.out; omega)])
      go_wp2
      go_ret
      exact ⟨ret_str HE.out, rfl⟩
end Go.Proofs.YtdehjofmangmbaaGreat
