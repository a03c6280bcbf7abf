/- Own texts, merged: DB, DA, DC. -/
import Derived.Test.YtdomglkcfecnnaaGreatMP19
import Derived.Test.YtdomglkcfecnnaaGreatMP27
/- Walk: desc: only. -/
namespace Go.Proofs.YtdomglkcfecnnaaGreat
open Go.RowKit Go.Shelf
/-- A value, as the letters of it lie. -/
def Vle.v (v : Vle) (x : Option Addr) (c : Nat) : Value := dvlV (tx v.s) v.n v.b x v.l.length c v.f
theorem only_parts (k : Int) (v : Vle) : onlyP k v =
    !((((((decide (v.s ≠ []) && !decide (k = 1 ∨ k = 2 ∨ k = 4)) || (decide (v.n ≠ 0) && !decide (k = 3 ∨ k = 6 ∨ k = 8))) || (v.b && !decide (k = 5))) || (decide (0 < v.l.length) && !decide (k = 7))) || ((!zF v.f) && !decide (k = 9)))) := by
  unfold onlyP
  rw [show decide (0 < v.l.length) = !decide (v.l = []) from by rw [Bool.eq_iff_iff]; simp [List.length_pos_iff], show decide (v.s ≠ []) = !decide (v.s = []) from by rw [Bool.eq_iff_iff]; simp, show decide (v.n ≠ 0) = !decide (v.n = 0) from by rw [Bool.eq_iff_iff]; simp]
  generalize decide (v.s = []) = a1
  generalize decide (v.n = 0) = a2
  generalize v.b = a3
  generalize decide (v.l = []) = a4
  generalize zF v.f = a5
  generalize decide (k = 1 ∨ k = 2 ∨ k = 4) = m1
  generalize decide (k = 3 ∨ k = 6 ∨ k = 8) = m2
  generalize decide (k = 5) = m3
  generalize decide (k = 7) = m4
  generalize decide (k = 9) = m5
  revert a1 a2 a3 a4 a5 m1 m2 m3 m4 m5
  decide
set_option maxRecDepth 100000 in
set_option maxHeartbeats 16000000 in
theorem donly (k : Int) (v : Vle) (x : Option Addr) (c : Nat) (w : World) : Calls Tryz.prog 61 #[.int .i64 k, v.v x c] w fun e w' => e = .returned (.bool (onlyP k v)) ∧ Below w.heap.size w w' := by
  have HS := Lib.hid (fun W => dset v.s v.n v.b x v.l.length c v.f W)
  have HM := Lib.hid (fun W => dmine k W)
  obtain ⟨R, hR⟩ : ∃ R, R = onlyP k v := ⟨_, rfl⟩
  rw [← hR]
  rw [only_parts] at hR
  unfold mineV ptV at HM
  unfold ptV at HS
  unfold Vle.v
  generalize decide (v.s ≠ []) = a1 at hR HS
  generalize decide (v.n ≠ 0) = a2 at hR HS
  generalize hb3 : v.b = a3 at hR HS ⊢
  generalize decide (0 < v.l.length) = a4 at hR HS
  generalize (!zF v.f) = a5 at hR HS
  generalize decide (k = 1 ∨ k = 2 ∨ k = 4) = m1 at hR HM
  generalize decide (k = 3 ∨ k = 6 ∨ k = 8) = m2 at hR HM
  generalize decide (k = 5) = m3 at hR HM
  generalize decide (k = 7) = m4 at hR HM
  generalize decide (k = 9) = m5 at hR HM
  generalize v.l.length = nl at HS ⊢
  generalize v.n = vn at HS ⊢
  generalize v.f = vf at HS ⊢
  generalize tx v.s = vs at HS ⊢
  unfold dvlV at HS ⊢
  have HP := Lib.hid hR
  clear hR hb3
  have HAL := Lib.hid (fun o => (Below.refl w.heap.size w).alloc (Nat.le_refl _) o)
  go_enter Tryz.func61, Tryz.ntmps61
  go_wp2_with (first | (go_at_call 74; refine (HS.out _).mono ?_; rintro e w1 ⟨rfl, hb1⟩; have HB1 := Lib.hid hb1; clear hb1) | (go_at_call 75; fail))
  go_at_call 75
  refine (HM.out _).mono ?_
  rintro e w2 ⟨rfl, hb2⟩
  have HB : Hid (∀ o1 o2, Below w.heap.size w ((w2.alloc o1).alloc o2)) := Lib.hid (fun o1 o2 => by
    have h1 := (HAL.out _).trans (below_le HB1.out (HAL.out _).size)
    have h2 := h1.trans (below_le hb2 h1.size)
    exact (h2.alloc h2.size _).alloc (by have := h2.size; simp; omega) _)
  clear HS HM HAL HB1 hb2
  go_upto_region 2 with (fail)
  obtain ⟨W, hW⟩ : ∃ W, W = ((w2.alloc (.cells #[.bool a1, .bool a2, .bool a3, .bool a4, .bool a5] 144)).alloc (.cells #[.bool m1, .bool m2, .bool m3, .bool m4, .bool m5] 144)) := ⟨_, rfl⟩
  rw [← hW]
  have HBW : Hid (Below w.heap.size w W) := Lib.hid (by rw [hW]; exact HB.out _ _)
  have hc : ∀ j u, #[Value.bool a1, .bool a2, .bool a3, .bool a4, .bool a5][j]? = some u → W.cell? ⟨w2.heap.size, j, none⟩ = some u := fun j u h => by
    have : W.heap[w2.heap.size]? = some (.cells #[.bool a1, .bool a2, .bool a3, .bool a4, .bool a5] 144 (0, 0)) := by rw [hW]; exact (heap_alloc_old _ _ (by simp)).trans (heap_alloc_new _ _)
    simp only [World.cell?, this]
    simpa using h
  have hd : ∀ j u, #[Value.bool m1, .bool m2, .bool m3, .bool m4, .bool m5][j]? = some u → W.cell? ⟨w2.heap.size + 1, j, none⟩ = some u := fun j u h => by
    have : W.heap[w2.heap.size + 1]? = some (.cells #[.bool m1, .bool m2, .bool m3, .bool m4, .bool m5] 144 (0, 0)) := by rw [hW]; exact heap_at (heap_alloc_new _ _) (by simp)
    simp only [World.cell?, this]
    simpa using h
  have c0 := hc 0 _ rfl
  have c1 := hc 1 _ rfl
  have c2 := hc 2 _ rfl
  have c3 := hc 3 _ rfl
  have c4 := hc 4 _ rfl
  have d0 := hd 0 _ rfl
  have d1 := hd 1 _ rfl
  have d2 := hd 2 _ rfl
  have d3 := hd 3 _ rfl
  have d4 := hd 4 _ rfl
  clear hc hd hW HB
  cases a1
  · skip
    cases a2
    · skip
      cases a3
      · skip
        cases a4
        · skip
          cases a5
          · skip
            have HR : Hid (R = true) := Lib.hid (by rw [HP.out]; rfl)
            clear HP
            go_wp2
            go_ret
            exact ⟨ret_bool HR.out.symm, HBW.out⟩
          · cases m5
            · skip
              have HR : Hid (R = false) := Lib.hid (by rw [HP.out]; rfl)
              clear HP
              go_wp2
              go_ret
              exact ⟨ret_bool HR.out.symm, HBW.out⟩
            · skip
              have HR : Hid (R = true) := Lib.hid (by rw [HP.out]; rfl)
              clear HP
              go_wp2
              go_ret
              exact ⟨ret_bool HR.out.symm, HBW.out⟩
        · cases m4
          · skip
            have HR : Hid (R = false) := Lib.hid (by rw [HP.out]; rfl)
            clear HP
            go_wp2
            go_ret
            exact ⟨ret_bool HR.out.symm, HBW.out⟩
          · skip
            cases a5
            · skip
              have HR : Hid (R = true) := Lib.hid (by rw [HP.out]; rfl)
              clear HP
              go_wp2
              go_ret
              exact ⟨ret_bool HR.out.symm, HBW.out⟩
            · cases m5
              · skip
                have HR : Hid (R = false) := Lib.hid (by rw [HP.out]; rfl)
                clear HP
                go_wp2
                go_ret
                exact ⟨ret_bool HR.out.symm, HBW.out⟩
              · skip
                have HR : Hid (R = true) := Lib.hid (by rw [HP.out]; rfl)
                clear HP
                go_wp2
                go_ret
                exact ⟨ret_bool HR.out.symm, HBW.out⟩
      · cases m3
        · skip
          have HR : Hid (R = false) := Lib.hid (by rw [HP.out]; rfl)
          clear HP
          go_wp2
          go_ret
          exact ⟨ret_bool HR.out.symm, HBW.out⟩
        · skip
          cases a4
          · skip
            cases a5
            · skip
              have HR : Hid (R = true) := Lib.hid (by rw [HP.out]; rfl)
              clear HP
              go_wp2
              go_ret
              exact ⟨ret_bool HR.out.symm, HBW.out⟩
            · cases m5
              · skip
                have HR : Hid (R = false) := Lib.hid (by rw [HP.out]; rfl)
                clear HP
                go_wp2
                go_ret
                exact ⟨ret_bool HR.out.symm, HBW.out⟩
              · skip
                have HR : Hid (R = true) := Lib.hid (by rw [HP.out]; rfl)
                clear HP
                go_wp2
                go_ret
                exact ⟨ret_bool HR.out.symm, HBW.out⟩
          · cases m4
            · skip
              have HR : Hid (R = false) := Lib.hid (by rw [HP.out]; rfl)
              clear HP
              go_wp2
              go_ret
              exact ⟨ret_bool HR.out.symm, HBW.out⟩
            · skip
              cases a5
              · skip
                have HR : Hid (R = true) := Lib.hid (by rw [HP.out]; rfl)
                clear HP
                go_wp2
                go_ret
                exact ⟨ret_bool HR.out.symm, HBW.out⟩
              · cases m5
                · skip
                  have HR : Hid (R = false) := Lib.hid (by rw [HP.out]; rfl)
                  clear HP
                  go_wp2
                  go_ret
                  exact ⟨ret_bool HR.out.symm, HBW.out⟩
                · skip
                  have HR : Hid (R = true) := Lib.hid (by rw [HP.out]; rfl)
                  clear HP
                  go_wp2
                  go_ret
                  exact ⟨ret_bool HR.out.symm, HBW.out⟩
    · cases m2
      · skip
        have HR : Hid (R = false) := Lib.hid (by rw [HP.out]; rfl)
        clear HP
        go_wp2
        go_ret
        exact ⟨ret_bool HR.out.symm, HBW.out⟩
      · skip
        cases a3
        · skip
          cases a4
          · skip
            cases a5
            · skip
              have HR : Hid (R = true) := Lib.hid (by rw [HP.out]; rfl)
              clear HP
              go_wp2
              go_ret
              exact ⟨ret_bool HR.out.symm, HBW.out⟩
            · cases m5
              · skip
                have HR : Hid (R = false) := Lib.hid (by rw [HP.out]; rfl)
                clear HP
                go_wp2
                go_ret
                exact ⟨ret_bool HR.out.symm, HBW.out⟩
              · skip
                have HR : Hid (R = true) := Lib.hid (by rw [HP.out]; rfl)
                clear HP
                go_wp2
                go_ret
                exact ⟨ret_bool HR.out.symm, HBW.out⟩
          · cases m4
            · skip
              have HR : Hid (R = false) := Lib.hid (by rw [HP.out]; rfl)
              clear HP
              go_wp2
              go_ret
              exact ⟨ret_bool HR.out.symm, HBW.out⟩
            · skip
              cases a5
              · skip
                have HR : Hid (R = true) := Lib.hid (by rw [HP.out]; rfl)
                clear HP
                go_wp2
                go_ret
                exact ⟨ret_bool HR.out.symm, HBW.out⟩
              · cases m5
                · skip
                  have HR : Hid (R = false) := Lib.hid (by rw [HP.out]; rfl)
                  clear HP
                  go_wp2
                  go_ret
                  exact ⟨ret_bool HR.out.symm, HBW.out⟩
                · skip
                  have HR : Hid (R = true) := Lib.hid (by rw [HP.out]; rfl)
                  clear HP
                  go_wp2
                  go_ret
                  exact ⟨ret_bool HR.out.symm, HBW.out⟩
        · cases m3
          · skip
            have HR : Hid (R = false) := Lib.hid (by rw [HP.out]; rfl)
            clear HP
            go_wp2
            go_ret
            exact ⟨ret_bool HR.out.symm, HBW.out⟩
          · skip
            cases a4
            · skip
              cases a5
              · skip
                have HR : Hid (R = true) := Lib.hid (by rw [HP.out]; rfl)
                clear HP
                go_wp2
                go_ret
                exact ⟨ret_bool HR.out.symm, HBW.out⟩
              · cases m5
                · skip
                  have HR : Hid (R = false) := Lib.hid (by rw [HP.out]; rfl)
                  clear HP
                  go_wp2
                  go_ret
                  exact ⟨ret_bool HR.out.symm, HBW.out⟩
                · skip
                  have HR : Hid (R = true) := Lib.hid (by rw [HP.out]; rfl)
                  clear HP
                  go_wp2
                  go_ret
                  exact ⟨ret_bool HR.out.symm, HBW.out⟩
            · cases m4
              · skip
                have HR : Hid (R = false) := Lib.hid (by rw [HP.out]; rfl)
                clear HP
                go_wp2
                go_ret
                exact ⟨ret_bool HR.out.symm, HBW.out⟩
              · skip
                cases a5
                · skip
                  have HR : Hid (R = true) := Lib.hid (by rw [HP.out]; rfl)
                  clear HP
                  go_wp2
                  go_ret
                  exact ⟨ret_bool HR.out.symm, HBW.out⟩
                · cases m5
                  · skip
                    have HR : Hid (R = false) := Lib.hid (by rw [HP.out]; rfl)
                    clear HP
                    go_wp2
                    go_ret
                    exact ⟨ret_bool HR.out.symm, HBW.out⟩
                  · skip
                    have HR : Hid (R = true) := Lib.hid (by rw [HP.out]; rfl)
                    clear HP
                    go_wp2
                    go_ret
                    exact ⟨ret_bool HR.out.symm, HBW.out⟩
  · cases m1
    · skip
      have HR : Hid (R = false) := Lib.hid (by rw [HP.out]; rfl)
      clear HP
      go_wp2
      go_ret
      exact ⟨ret_bool HR.out.symm, HBW.out⟩
    · skip
      cases a2
      · skip
        cases a3
        · skip
          cases a4
          · skip
            cases a5
            · skip
              have HR : Hid (R = true) := Lib.hid (by rw [HP.out]; rfl)
              clear HP
              go_wp2
              go_ret
              exact ⟨ret_bool HR.out.symm, HBW.out⟩
            · cases m5
              · skip
                have HR : Hid (R = false) := Lib.hid (by rw [HP.out]; rfl)
                clear HP
                go_wp2
                go_ret
                exact ⟨ret_bool HR.out.symm, HBW.out⟩
              · skip
                have HR : Hid (R = true) := Lib.hid (by rw [HP.out]; rfl)
                clear HP
                go_wp2
                go_ret
                exact ⟨ret_bool HR.out.symm, HBW.out⟩
          · cases m4
            · skip
              have HR : Hid (R = false) := Lib.hid (by rw [HP.out]; rfl)
              clear HP
              go_wp2
              go_ret
              exact ⟨ret_bool HR.out.symm, HBW.out⟩
            · skip
              cases a5
              · skip
                have HR : Hid (R = true) := Lib.hid (by rw [HP.out]; rfl)
                clear HP
                go_wp2
                go_ret
                exact ⟨ret_bool HR.out.symm, HBW.out⟩
              · cases m5
                · skip
                  have HR : Hid (R = false) := Lib.hid (by rw [HP.out]; rfl)
                  clear HP
                  go_wp2
                  go_ret
                  exact ⟨ret_bool HR.out.symm, HBW.out⟩
                · skip
                  have HR : Hid (R = true) := Lib.hid (by rw [HP.out]; rfl)
                  clear HP
                  go_wp2
                  go_ret
                  exact ⟨ret_bool HR.out.symm, HBW.out⟩
        · cases m3
          · skip
            have HR : Hid (R = false) := Lib.hid (by rw [HP.out]; rfl)
            clear HP
            go_wp2
            go_ret
            exact ⟨ret_bool HR.out.symm, HBW.out⟩
          · skip
            cases a4
            · skip
              cases a5
              · skip
                have HR : Hid (R = true) := Lib.hid (by rw [HP.out]; rfl)
                clear HP
                go_wp2
                go_ret
                exact ⟨ret_bool HR.out.symm, HBW.out⟩
              · cases m5
                · skip
                  have HR : Hid (R = false) := Lib.hid (by rw [HP.out]; rfl)
                  clear HP
                  go_wp2
                  go_ret
                  exact ⟨ret_bool HR.out.symm, HBW.out⟩
                · skip
                  have HR : Hid (R = true) := Lib.hid (by rw [HP.out]; rfl)
                  clear HP
                  go_wp2
                  go_ret
                  exact ⟨ret_bool HR.out.symm, HBW.out⟩
            · cases m4
              · skip
                have HR : Hid (R = false) := Lib.hid (by rw [HP.out]; rfl)
                clear HP
                go_wp2
                go_ret
                exact ⟨ret_bool HR.out.symm, HBW.out⟩
              · skip
                cases a5
                · skip
                  have HR : Hid (R = true) := Lib.hid (by rw [HP.out]; rfl)
                  clear HP
                  go_wp2
                  go_ret
                  exact ⟨ret_bool HR.out.symm, HBW.out⟩
                · cases m5
                  · skip
                    have HR : Hid (R = false) := Lib.hid (by rw [HP.out]; rfl)
                    clear HP
                    go_wp2
                    go_ret
                    exact ⟨ret_bool HR.out.symm, HBW.out⟩
                  · skip
                    have HR : Hid (R = true) := Lib.hid (by rw [HP.out]; rfl)
                    clear HP
                    go_wp2
                    go_ret
                    exact ⟨ret_bool HR.out.symm, HBW.out⟩
      · cases m2
        · skip
          have HR : Hid (R = false) := Lib.hid (by rw [HP.out]; rfl)
          clear HP
          go_wp2
          go_ret
          exact ⟨ret_bool HR.out.symm, HBW.out⟩
        · skip
          cases a3
          · skip
            cases a4
            · skip
              cases a5
              · skip
                have HR : Hid (R = true) := Lib.hid (by rw [HP.out]; rfl)
                clear HP
                go_wp2
                go_ret
                exact ⟨ret_bool HR.out.symm, HBW.out⟩
              · cases m5
                · skip
                  have HR : Hid (R = false) := Lib.hid (by rw [HP.out]; rfl)
                  clear HP
                  go_wp2
                  go_ret
                  exact ⟨ret_bool HR.out.symm, HBW.out⟩
                · skip
                  have HR : Hid (R = true) := Lib.hid (by rw [HP.out]; rfl)
                  clear HP
                  go_wp2
                  go_ret
                  exact ⟨ret_bool HR.out.symm, HBW.out⟩
            · cases m4
              · skip
                have HR : Hid (R = false) := Lib.hid (by rw [HP.out]; rfl)
                clear HP
                go_wp2
                go_ret
                exact ⟨ret_bool HR.out.symm, HBW.out⟩
              · skip
                cases a5
                · skip
                  have HR : Hid (R = true) := Lib.hid (by rw [HP.out]; rfl)
                  clear HP
                  go_wp2
                  go_ret
                  exact ⟨ret_bool HR.out.symm, HBW.out⟩
                · cases m5
                  · skip
                    have HR : Hid (R = false) := Lib.hid (by rw [HP.out]; rfl)
                    clear HP
                    go_wp2
                    go_ret
                    exact ⟨ret_bool HR.out.symm, HBW.out⟩
                  · skip
                    have HR : Hid (R = true) := Lib.hid (by rw [HP.out]; rfl)
                    clear HP
                    go_wp2
                    go_ret
                    exact ⟨ret_bool HR.out.symm, HBW.out⟩
          · cases m3
            · skip
              have HR : Hid (R = false) := Lib.hid (by rw [HP.out]; rfl)
              clear HP
              go_wp2
              go_ret
              exact ⟨ret_bool HR.out.symm, HBW.out⟩
            · skip
              cases a4
              · skip
                cases a5
                · skip
                  have HR : Hid (R = true) := Lib.hid (by rw [HP.out]; rfl)
                  clear HP
                  go_wp2
                  go_ret
                  exact ⟨ret_bool HR.out.symm, HBW.out⟩
                · cases m5
                  · skip
                    have HR : Hid (R = false) := Lib.hid (by rw [HP.out]; rfl)
                    clear HP
                    go_wp2
                    go_ret
                    exact ⟨ret_bool HR.out.symm, HBW.out⟩
                  · skip
                    have HR : Hid (R = true) := Lib.hid (by rw [HP.out]; rfl)
                    clear HP
                    go_wp2
                    go_ret
                    exact ⟨ret_bool HR.out.symm, HBW.out⟩
              · cases m4
                · skip
                  have HR : Hid (R = false) := Lib.hid (by rw [HP.out]; rfl)
                  clear HP
                  go_wp2
                  go_ret
                  exact ⟨ret_bool HR.out.symm, HBW.out⟩
                · skip
                  cases a5
                  · skip
                    have HR : Hid (R = true) := Lib.hid (by rw [HP.out]; rfl)
                    clear HP
                    go_wp2
                    go_ret
                    exact ⟨ret_bool HR.out.symm, HBW.out⟩
                  · cases m5
                    · skip
                      have HR : Hid (R = false) := Lib.hid (by rw [HP.out]; rfl)
                      clear HP
                      go_wp2
                      go_ret
                      exact ⟨ret_bool HR.out.symm, HBW.out⟩
                    · skip
                      have HR : Hid (R = true) := Lib.hid (by rw [HP.out]; rfl)
                      clear HP
                      go_wp2
                      go_ret
                      exact ⟨ret_bool HR.out.symm, HBW.out⟩
end Go.Proofs.YtdomglkcfecnnaaGreat
/- Walks: date: number, Leap, Days. -/
namespace Go.Proofs.YtdomglkcfecnnaaGreat
open Go.RowKit Go.Shelf
theorem numN_snoc (l : Bs) (c : UInt8) : numN (l ++ [c]) = 10 * numN l + (c.toNat - 48) := by simp [numN]
theorem take_snoc {l : Bs} {j : Nat} (h : j < l.length) : l.take (j + 1) = l.take j ++ [l.getD j 0] := by
  rw [List.take_succ_eq_append_getElem h, List.getD_eq_getElem?_getD, List.getElem?_eq_getElem h]
  rfl
theorem numN_lt (l : Bs) (j : Nat) (hj : j ≤ l.length) (h : ∀ i, i < j → digA (l.getD i 0) = true) : numN (l.take j) < 10 ^ j := by
  induction j with
  | zero => simp [numN]
  | succ j ih =>
    rw [take_snoc (by omega), numN_snoc, Nat.pow_succ]
    have h1 := ih (by omega) (fun i hi => h i (by omega))
    have h2 := h j (by omega)
    unfold digA at h2
    rw [decide_eq_true_iff] at h2
    omega
theorem digs_no {l : Bs} {i : Nat} (hi : i < l.length) (h : digA (l.getD i 0) = false) : l.all digA = false := by
  rw [List.all_eq_false]
  exact ⟨l.getD i 0, by rw [List.getD_eq_getElem?_getD, List.getElem?_eq_getElem hi]; exact List.getElem_mem hi, by rw [h]; simp⟩
theorem digs_yes {l : Bs} (h : ∀ i, i < l.length → digA (l.getD i 0) = true) : l.all digA = true := by
  rw [List.all_eq_true]
  intro c hc
  obtain ⟨i, hi, e⟩ := List.mem_iff_getElem.1 hc
  have := h i hi
  rw [List.getD_eq_getElem?_getD, List.getElem?_eq_getElem hi] at this
  rw [← e]
  exact this
/-- The number of a text of digits alone. -/
def digN (l : Bs) : Nat := if l.all digA = true then numN l else 0
set_option maxHeartbeats 2000000 in
theorem dnumber (l : Bs) (hl : l.length ≤ 10) (w : World) : Calls Tryz.prog 91 #[.string (tx l)] w fun e w' => e = .returned (.tuple #[.int .i64 (digN l : Nat), .bool (l.all digA)]) ∧ w = w' := by
  have HS := Lib.hid (tx_size' l)
  have HT := Lib.hid (fun i (hi : i < l.length) => tx_at l i hi)
  have HNO := Lib.hid (fun i (hi : i < l.length) h => (show digN l = 0 ∧ l.all digA = false from by have := digs_no hi h; exact ⟨by unfold digN; rw [this]; rfl, this⟩))
  have HYE := Lib.hid (fun h => (show digN l = numN (l.take l.length) ∧ l.all digA = true from by have := digs_yes (l := l) h; exact ⟨by unfold digN; rw [this, List.take_length]; rfl, this⟩))
  obtain ⟨V, hV⟩ : ∃ V, V = digN l := ⟨_, rfl⟩
  obtain ⟨B, hB⟩ : ∃ B, B = l.all digA := ⟨_, rfl⟩
  rw [← hV, ← hB] at HNO HYE ⊢
  clear hV hB
  have HLT := Lib.hid (fun j (hj : j ≤ l.length) h => (show numN (l.take j) ≤ 9999999999 from by
    have h1 := numN_lt l j hj h
    have h2 : 10 ^ j ≤ 10 ^ 10 := Nat.pow_le_pow_right (by omega) (by omega)
    omega))
  have HSN := Lib.hid (fun j (hj : j < l.length) => (show numN (l.take (j + 1)) = 10 * numN (l.take j) + ((l.getD j 0).toNat - 48) from by rw [take_snoc hj, numN_snoc]))
  go_enter Tryz.func91, Tryz.ntmps91
  go_wp2
  go_loop [4, 5] (fun n i => ∃ j N : Nat, i = .int .i64 j ∧ n = .int .i64 N ∧ j ≤ l.length ∧ Hid (N = numN (l.take j) ∧ ∀ i, i < j → digA (l.getD i 0) = true)) (fun n i => l.length - (intOf i).toNat)
  case atStart => exact ⟨0, 0, rfl, rfl, Nat.zero_le _, Lib.hid ⟨by simp [numN], fun i hi => absurd hi (by omega)⟩⟩
  case round =>
    obtain ⟨j, N, rfl, rfl, hj, HI⟩ := hrel
    have jl : j ≤ 1000000 := by omega
    by_cases q1 : j < (tx l).size
    · have q1' : j < l.length := by have := HS.out; omega
      have hx := HT.out j q1'
      have hN : N ≤ 9999999999 := by rw [HI.out.1]; exact HLT.out j hj HI.out.2
      have HSJ := Lib.hid (HSN.out j q1')
      have HNJ := Lib.hid (HNO.out j q1')
      obtain ⟨c, hcd⟩ : ∃ c, c = l.getD j 0 := ⟨_, rfl⟩
      rw [← hcd] at hx HSJ HNJ
      have HC := Lib.hid hcd
      have HDG : Hid (digA c = decide (48 ≤ c.toNat ∧ c.toNat ≤ 57)) := Lib.hid rfl
      clear hcd HSN HLT HNO HT
      by_cases a : 48 ≤ (c.toNat : Int)
      · by_cases b : (c.toNat : Int) ≤ 57
        · have HD : Hid (digA c = true) := Lib.hid (by rw [HDG.out]; simp; omega)
          go_wp2
          go_round
          case rel => exact ⟨j + 1, 10 * N + (c.toNat - 48), by go_num, by go_num, by omega, Lib.hid ⟨by rw [HSJ.out, HI.out.1], fun i hi => by
            rcases Nat.lt_or_ge i j with z | z
            · exact HI.out.2 i z
            · obtain rfl : i = j := by omega
              rw [← HC.out]; exact HD.out⟩⟩
          case measure => simp [intOf]; omega
        · have HR := Lib.hid (HNJ.out (by rw [HDG.out]; simp; omega))
          clear HNJ
          go_wp2
          go_ret2
          exact ⟨by rw [HR.out.1, HR.out.2]; rfl, rfl⟩
      · have HR := Lib.hid (HNJ.out (by rw [HDG.out]; simp; omega))
        clear HNJ
        go_wp2
        go_ret2
        exact ⟨by rw [HR.out.1, HR.out.2]; rfl, rfl⟩
    · obtain rfl : j = l.length := by have := HS.out; omega
      have HR := Lib.hid (HYE.out (fun i hi => HI.out.2 i hi))
      clear HYE HNO
      go_wp2
      go_ret2
      exact ⟨by rw [HR.out.1, HR.out.2, HI.out.1]; rfl, rfl⟩
/-- Is a year a leap one? -/
def leapZ (y : Int) : Bool := leapP y.toNat
def daysZ (y m : Int) : Nat := daysN y.toNat m.toNat
theorem leapZ_yes {y : Int} (h : 1 ≤ y ∧ y ≤ 9999) (h4 : y % 4 = 0) (h1 : y % 100 ≠ 0 ∨ y % 400 = 0) : leapZ y = true := by
  unfold leapZ leapP
  rw [decide_eq_true_iff]
  omega
theorem leapZ_no {y : Int} (h : ¬ (1 ≤ y ∧ y ≤ 9999 ∧ y % 4 = 0 ∧ (y % 100 ≠ 0 ∨ y % 400 = 0))) : leapZ y = false := by
  unfold leapZ leapP
  rw [decide_eq_false_iff_not]
  omega
/-- The classes of a year, with the tests that tell them. -/
theorem leap_cases (y : Int) :
    (decide (y < 1) = true ∧ leapZ y = false) ∨
    (decide (y < 1) = false ∧ decide (9999 < y) = true ∧ leapZ y = false) ∨
    (decide (y < 1) = false ∧ decide (9999 < y) = false ∧ (y.tmod 4 = y % 4 ∧ y.tmod 100 = y % 100 ∧ y.tmod 400 = y % 400) ∧ (y % 4 != 0) = true ∧ leapZ y = false) ∨
    (decide (y < 1) = false ∧ decide (9999 < y) = false ∧ (y.tmod 4 = y % 4 ∧ y.tmod 100 = y % 100 ∧ y.tmod 400 = y % 400) ∧ (y % 4 != 0) = false ∧ (y % 100 != 0) = true ∧ leapZ y = true) ∨
    (decide (y < 1) = false ∧ decide (9999 < y) = false ∧ (y.tmod 4 = y % 4 ∧ y.tmod 100 = y % 100 ∧ y.tmod 400 = y % 400) ∧ (y % 4 != 0) = false ∧ (y % 100 != 0) = false ∧ (y % 400 == 0) = true ∧ leapZ y = true) ∨
    (decide (y < 1) = false ∧ decide (9999 < y) = false ∧ (y.tmod 4 = y % 4 ∧ y.tmod 100 = y % 100 ∧ y.tmod 400 = y % 400) ∧ (y % 4 != 0) = false ∧ (y % 100 != 0) = false ∧ (y % 400 == 0) = false ∧ leapZ y = false) := by
  by_cases h1 : y < 1
  · exact .inl ⟨by simp [h1], leapZ_no (by omega)⟩
  have b1 : decide (y < 1) = false := by simp [h1]
  by_cases h2 : 9999 < y
  · exact .inr (.inl ⟨b1, by simp [h2], leapZ_no (by omega)⟩)
  have b2 : decide (9999 < y) = false := by simp [h2]
  have e : y.tmod 4 = y % 4 ∧ y.tmod 100 = y % 100 ∧ y.tmod 400 = y % 400 := ⟨Int.tmod_eq_emod_of_nonneg (by omega), Int.tmod_eq_emod_of_nonneg (by omega), Int.tmod_eq_emod_of_nonneg (by omega)⟩
  by_cases h4 : y % 4 = 0
  · have b4 : (y % 4 != 0) = false := by simp [h4]
    by_cases h5 : y % 100 = 0
    · have b5 : (y % 100 != 0) = false := by simp [h5]
      by_cases h6 : y % 400 = 0
      · exact .inr (.inr (.inr (.inr (.inl ⟨b1, b2, e, b4, b5, by simp [h6], leapZ_yes (by omega) h4 (.inr h6)⟩))))
      · exact .inr (.inr (.inr (.inr (.inr ⟨b1, b2, e, b4, b5, by simp [h6], leapZ_no (by omega)⟩))))
    · exact .inr (.inr (.inr (.inl ⟨b1, b2, e, b4, by simp [h5], leapZ_yes (by omega) h4 (.inl h5)⟩)))
  · exact .inr (.inr (.inl ⟨b1, b2, e, by simp [h4], leapZ_no (by omega)⟩))
set_option maxHeartbeats 2000000 in
theorem dLeap (y : Int) (w : World) : Calls Tryz.prog 121 #[.int .i64 y] w fun e w' => e = .returned (.bool (leapZ y)) ∧ w = w' := by
  rcases leap_cases y with ⟨b1, hl⟩ | ⟨b1, b2, hl⟩ | ⟨b1, b2, ⟨e1, e2, e3⟩, b4, hl⟩ | ⟨b1, b2, ⟨e1, e2, e3⟩, b4, b5, hl⟩ | ⟨b1, b2, ⟨e1, e2, e3⟩, b4, b5, b6, hl⟩ | ⟨b1, b2, ⟨e1, e2, e3⟩, b4, b5, b6, hl⟩
  all_goals
    rw [hl]
    clear hl
    go_enter Tryz.func121, Tryz.ntmps121
    go_wp2
    go_ret
    exact ⟨rfl, rfl⟩
theorem daysZ_out {y m : Int} (h : ¬ (1 ≤ y ∧ y ≤ 9999 ∧ 1 ≤ m ∧ m ≤ 12)) : daysZ y m = 0 := by
  unfold daysZ daysN
  rw [if_pos (by omega)]
theorem daysZ_in {y m : Int} (h : 1 ≤ y ∧ y ≤ 9999) (h1 : 1 ≤ m ∧ m ≤ 12) : daysZ y m = if m = 2 then (if leapZ y = true then 29 else 28) else if m = 4 ∨ m = 6 ∨ m = 9 ∨ m = 11 then 30 else 31 := by
  unfold daysZ daysN leapZ
  rw [if_neg (by omega)]
  by_cases a : m = 2
  · rw [if_pos (by omega), if_pos a]
  · rw [if_neg (by omega), if_neg a]
    by_cases b : m = 4 ∨ m = 6 ∨ m = 9 ∨ m = 11
    · rw [if_pos (by omega), if_pos b]
    · rw [if_neg (by omega), if_neg b]
theorem twelve {m : Int} (h : 1 ≤ m ∧ m ≤ 12) : m = 1 ∨ m = 2 ∨ m = 3 ∨ m = 4 ∨ m = 5 ∨ m = 6 ∨ m = 7 ∨ m = 8 ∨ m = 9 ∨ m = 10 ∨ m = 11 ∨ m = 12 := by omega
set_option maxHeartbeats 4000000 in
theorem dDays (y m : Int) (w : World) : Calls Tryz.prog 92 #[.int .i64 y, .int .i64 m] w fun e w' => e = .returned (.int .i64 (daysZ y m : Nat)) ∧ Below w.heap.size w w' := by
  have HAL := Lib.hid (fun o => (Below.refl w.heap.size w).alloc (Nat.le_refl _) o)
  have HL := Lib.hid (fun W => dLeap y W)
  obtain ⟨R, hR⟩ : ∃ R, R = daysZ y m := ⟨_, rfl⟩
  rw [← hR]
  by_cases h1 : y < 1
  · have HR : Hid (R = 0) := Lib.hid (by rw [hR]; exact daysZ_out (by omega))
    have b1 : decide (y < 1) = true := by simp [h1]
    clear hR HL h1
    go_enter Tryz.func92, Tryz.ntmps92
    go_wp2
    go_ret
    exact ⟨by rw [HR.out]; rfl, Below.refl _ _⟩
  have b1 : decide (y < 1) = false := by simp [h1]
  by_cases h2 : 9999 < y
  · have HR : Hid (R = 0) := Lib.hid (by rw [hR]; exact daysZ_out (by omega))
    have b2 : decide (9999 < y) = true := by simp [h2]
    clear hR HL h1 h2
    go_enter Tryz.func92, Tryz.ntmps92
    go_wp2
    go_ret
    exact ⟨by rw [HR.out]; rfl, Below.refl _ _⟩
  have b2 : decide (9999 < y) = false := by simp [h2]
  by_cases h3 : m < 1
  · have HR : Hid (R = 0) := Lib.hid (by rw [hR]; exact daysZ_out (by omega))
    have b3 : decide (m < 1) = true := by simp [h3]
    clear hR HL h1 h2 h3
    go_enter Tryz.func92, Tryz.ntmps92
    go_wp2
    go_ret
    exact ⟨by rw [HR.out]; rfl, Below.refl _ _⟩
  have b3 : decide (m < 1) = false := by simp [h3]
  by_cases h4 : 12 < m
  · have HR : Hid (R = 0) := Lib.hid (by rw [hR]; exact daysZ_out (by omega))
    have b4 : decide (12 < m) = true := by simp [h4]
    clear hR HL h1 h2 h3 h4
    go_enter Tryz.func92, Tryz.ntmps92
    go_wp2
    go_ret
    exact ⟨by rw [HR.out]; rfl, Below.refl _ _⟩
  have HI := Lib.hid (daysZ_in (y := y) (m := m) (by omega) (by omega))
  have hm := twelve (m := m) (by omega)
  generalize leapZ y = B at HI HL
  rw [HI.out] at hR
  clear HI h1 h2 h3 h4 b3
  rcases hm with rfl | rfl | rfl | rfl | rfl | rfl | rfl | rfl | rfl | rfl | rfl | rfl
  case inr.inl =>
    cases B
    all_goals
      have HR := Lib.hid hR
      clear hR
      go_enter Tryz.func92, Tryz.ntmps92
      go_wp2_with (first | (go_at_call 121; refine (HL.out _).mono ?_; rintro e w1 ⟨rfl, rfl⟩))
      go_ret
      exact ⟨by rw [HR.out]; rfl, HAL.out _⟩
  all_goals
    have HR := Lib.hid hR
    clear hR HL
    go_enter Tryz.func92, Tryz.ntmps92
    go_wp2
    go_ret
    exact ⟨by rw [HR.out]; rfl, HAL.out _⟩
end Go.Proofs.YtdomglkcfecnnaaGreat
/- Walks: date: read, Check. -/
namespace Go.Proofs.YtdomglkcfecnnaaGreat
open Go.RowKit Go.Shelf
theorem day_end {fn : Func} {p q : Tmp} (h : fn.results = #[.cell p 148, .tmp q]) (tmps : Array Value) (w : World) (g : Nat) (v0 v1 v2 : Value) (hp : tmps.getD p undef = .pointer (some ⟨g, 0, none⟩))
    (hg : w.heap[g]? = some (.cells #[v0, v1, v2] 148 (0, 0))) : (results fn tmps).run Tryz.prog w = .ok (.tuple #[.agg #[v0, v1, v2], tmps.getD q undef]) w :=
  results_cell_tmp h tmps w g 148 _ _ _ hp hg Tryz.underlying148 rfl (by kernel_rfl)
/-- A block of three cells. -/
def B3 (W : World) (b : Nat) (t : TypeId) (v0 v1 v2 : Value) : Prop := W.heap[b]? = some (.cells #[v0, v1, v2] t (0, 0))
theorem B3.lt {W : World} {b t : Nat} {v0 v1 v2 : Value} (h : B3 W b t v0 v1 v2) : b < W.heap.size := (Array.getElem?_eq_some_iff.1 h).1
theorem B3.below {W W' : World} {b t : Nat} {v0 v1 v2 : Value} (h : B3 W b t v0 v1 v2) (hb : Below W.heap.size W W') : B3 W' b t v0 v1 v2 := (hb.block b h.lt).trans h
theorem B3.cells {W : World} {b t : Nat} {v0 v1 v2 : Value} (h : B3 W b t v0 v1 v2) : W.cell? ⟨b, 0, none⟩ = some v0 ∧ W.cell? ⟨b, 1, none⟩ = some v1 ∧ W.cell? ⟨b, 2, none⟩ = some v2 := by
  unfold B3 at h
  exact ⟨by simp [World.cell?, h], by simp [World.cell?, h], by simp [World.cell?, h]⟩
theorem B3.fr {W : World} {b t : Nat} {v0 v1 v2 : Value} (h : B3 W b t v0 v1 v2) (j : Nat) : W.frozen? ⟨b, j, none⟩ = false := by unfold B3 at h; simp [World.frozen?, h]
theorem B3.put {W : World} {b t : Nat} {u0 u1 u2 v0 v1 v2 : Value} (h : B3 W b t u0 u1 u2) : B3 (((W.setCell ⟨b, 0, none⟩ v0).setCell ⟨b, 1, none⟩ v1).setCell ⟨b, 2, none⟩ v2) b t v0 v1 v2 := by
  unfold B3
  rw [set_block (set_block (set_block h _) _) _]
  rfl
theorem below_put3 {w W : World} {b : Nat} (h : Below w.heap.size w W) (hb : w.heap.size ≤ b) (v0 v1 v2 : Value) : Below w.heap.size w (((W.setCell ⟨b, 0, none⟩ v0).setCell ⟨b, 1, none⟩ v1).setCell ⟨b, 2, none⟩ v2) :=
  ((h.setCell (p := ⟨b, 0, none⟩) hb _).setCell (p := ⟨b, 1, none⟩) hb _).setCell (p := ⟨b, 2, none⟩) hb _
theorem date_len {l : Bs} (h : l.length ≠ 10) : dateP l = false := by unfold dateP; simp [h]
theorem date_at {l : Bs} (h : l.getD 4 0 ≠ 45 ∨ l.getD 7 0 ≠ 45) : dateP l = false := by
  unfold dateP
  rw [decide_eq_false (fun e => by rcases h with h | h; exact h e.2.1; exact h e.2.2)]
  rfl
theorem date_in {l : Bs} (h : l.length = 10) (h4 : l.getD 4 0 = 45) (h7 : l.getD 7 0 = 45) : dateP l =
    ((l.take 4).all digA && (((l.drop 5).take 2).all digA && ((l.drop 8).all digA && decide (1 ≤ digN (l.drop 8) ∧ digN (l.drop 8) ≤ daysZ (digN (l.take 4)) (digN ((l.drop 5).take 2)))))) := by
  unfold dateP daysZ
  rw [decide_eq_true ⟨h, h4, h7⟩, Bool.true_and]
  cases a : (l.take 4).all digA
  · rfl
  cases b : ((l.drop 5).take 2).all digA
  · rfl
  cases c : (l.drop 8).all digA
  · rfl
  unfold digN
  simp only [a, b, c, if_true, Bool.true_and, Int.toNat_natCast]
theorem toNat_ne {c d : UInt8} (h : c ≠ d) : ((c.toNat : Int) != (d.toNat : Int)) = true := by
  simp only [bne_iff_ne, ne_eq]
  exact fun e => h (UInt8.toNat_inj.1 (by omega))
set_option maxHeartbeats 4000000 in
theorem dread (l : Bs) (w : World) : Calls Tryz.prog 76 #[.string (tx l)] w fun e w' => (∃ y m d : Int, e = .returned (.tuple #[.agg #[.int .i64 y, .int .i64 m, .int .i64 d], .bool (dateP l)])) ∧ Below w.heap.size w w' := by
  have HAL := Lib.hid ((Below.refl w.heap.size w).alloc (Nat.le_refl _) (.cells #[.int .i64 0, .int .i64 0, .int .i64 0] 148))
  have HB3 : Hid (B3 (w.alloc (.cells #[.int .i64 0, .int .i64 0, .int .i64 0] 148)) w.heap.size 148 (.int .i64 0) (.int .i64 0) (.int .i64 0)) := Lib.hid (heap_alloc_new _ _)
  by_cases hl : l.length = 10
  · have hz : (tx l).size = 10 := by rw [tx_size', hl]
    have g4 := tx_at l 4 (by omega)
    have g7 := tx_at l 7 (by omega)
    obtain ⟨R, hR⟩ : ∃ R, R = dateP l := ⟨_, rfl⟩
    rw [← hR]
    by_cases h4 : l.getD 4 0 = 45
    · rw [h4] at g4
      by_cases h7 : l.getD 7 0 = 45
      · rw [h7] at g7
        have HN1 := Lib.hid (fun W => dnumber (l.take 4) (by simp; omega) W)
        have HN2 := Lib.hid (fun W => dnumber ((l.drop 5).take 2) (by simp; omega) W)
        have HN3 := Lib.hid (fun W => dnumber (l.drop 8) (by simp; omega) W)
        have HX1 : Hid ((tx l).extract 0 4 = tx (l.take 4)) := Lib.hid (by rw [tx_extract]; rfl)
        have HX2 : Hid ((tx l).extract 5 7 = tx ((l.drop 5).take 2)) := Lib.hid (by rw [tx_extract])
        have HX3 : Hid ((tx l).extract 8 10 = tx (l.drop 8)) := Lib.hid (by rw [tx_extract, List.take_of_length_le (by simp; omega)])
        rw [date_in hl h4 h7] at hR
        rw [← HX1.out] at HN1
        rw [← HX2.out] at HN2
        rw [← HX3.out] at HN3
        have HDY := Lib.hid (fun W => dDays (digN (l.take 4)) (digN ((l.drop 5).take 2)) W)
        generalize digN (l.take 4) = y at hR HN1 HDY
        generalize digN ((l.drop 5).take 2) = m at hR HN2 HDY
        generalize digN (l.drop 8) = d at hR HN3
        generalize (l.take 4).all digA = a at hR HN1
        generalize ((l.drop 5).take 2).all digA = b at hR HN2
        generalize (l.drop 8).all digA = c at hR HN3
        generalize daysZ y m = D at hR HDY
        have HR := Lib.hid hR
        clear hR h4 h7 HX1 HX2 HX3
        go_enter Tryz.func76, Tryz.ntmps76
        go_wp2_with (first | (go_at_call 91; (with_reducible refine (HN1.out _).mono ?_); rintro e w1 ⟨rfl, rfl⟩) | (go_at_call 91; (with_reducible refine (HN2.out _).mono ?_); rintro e w1 ⟨rfl, rfl⟩) | (go_at_call 91; fail))
        go_at_call 91
        refine (HN3.out _).mono ?_
        rintro e w1 ⟨rfl, rfl⟩
        clear HN1 HN2 HN3
        go_upto_region 6 with (fail)
        cases a
        · have HR2 : Hid (R = false) := Lib.hid (by rw [HR.out]; rfl)
          clear HR HDY
          go_wp2
          refine bodyPost_ret (day_end rfl _ _ w.heap.size _ _ _ rfl (heap_alloc_new _ _)) rfl ⟨⟨_, _, _, by rw [HR2.out]; rfl⟩, HAL.out⟩
        cases b
        · have HR2 : Hid (R = false) := Lib.hid (by rw [HR.out]; rfl)
          clear HR HDY
          go_wp2
          refine bodyPost_ret (day_end rfl _ _ w.heap.size _ _ _ rfl (heap_alloc_new _ _)) rfl ⟨⟨_, _, _, by rw [HR2.out]; rfl⟩, HAL.out⟩
        cases c
        · have HR2 : Hid (R = false) := Lib.hid (by rw [HR.out]; rfl)
          clear HR HDY
          go_wp2
          refine bodyPost_ret (day_end rfl _ _ w.heap.size _ _ _ rfl (heap_alloc_new _ _)) rfl ⟨⟨_, _, _, by rw [HR2.out]; rfl⟩, HAL.out⟩
        by_cases h1 : d < 1
        · have HR2 : Hid (R = false) := Lib.hid (by rw [HR.out]; simp; omega)
          have t1 : (d : Int) < 1 := by omega
          clear HR HDY h1
          go_wp2
          refine bodyPost_ret (day_end rfl _ _ w.heap.size _ _ _ rfl (heap_alloc_new _ _)) rfl ⟨⟨_, _, _, by rw [HR2.out]; rfl⟩, HAL.out⟩
        have t1 : ¬ (d : Int) < 1 := by omega
        go_wp2_with (first | (go_at_call 92; fail))
        go_at_call 92
        refine (HDY.out _).mono ?_
        rintro e w3 ⟨rfl, hb3⟩
        have HB := Lib.hid (HB3.out.below hb3)
        have HW := Lib.hid (HAL.out.trans (below_le hb3 HAL.out.size))
        have hlt := HB.out.lt
        obtain ⟨c0, c1, c2⟩ := HB.out.cells
        have f0 := HB.out.fr 0
        have f1 := HB.out.fr 1
        have f2 := HB.out.fr 2
        clear hb3 HDY HB3 HAL
        by_cases h2 : d ≤ D
        · have HR2 : Hid (R = true) := Lib.hid (by rw [HR.out]; simp; omega)
          have t2 : ¬ D < d := by omega
          clear HR h1 h2
          go_wp2
          refine bodyPost_ret (day_end rfl _ _ w.heap.size _ _ _ rfl HB.out.put) rfl ⟨⟨_, _, _, by rw [HR2.out]; rfl⟩, below_put3 HW.out (Nat.le_refl _) _ _ _⟩
        · have HR2 : Hid (R = false) := Lib.hid (by rw [HR.out]; simp; omega)
          have t2 : D < d := by omega
          clear HR h1 h2
          go_wp2
          refine bodyPost_ret (day_end rfl _ _ w.heap.size _ _ _ rfl HB.out.put) rfl ⟨⟨_, _, _, by rw [HR2.out]; rfl⟩, below_put3 HW.out (Nat.le_refl _) _ _ _⟩
      · have HR : Hid (R = false) := Lib.hid (by rw [hR]; exact date_at (.inr h7))
        have HNE : ((l.getD 7 0).toNat : Int) != 45 := toNat_ne h7
        generalize l.getD 7 0 = c7 at g7 HNE
        clear hR h4 h7
        go_enter Tryz.func76, Tryz.ntmps76
        go_wp2
        refine bodyPost_ret (day_end rfl _ _ w.heap.size _ _ _ rfl (heap_alloc_new _ _)) rfl ⟨⟨_, _, _, by rw [HR.out]; rfl⟩, HAL.out⟩
    · have HR : Hid (R = false) := Lib.hid (by rw [hR]; exact date_at (.inl h4))
      have HNE : ((l.getD 4 0).toNat : Int) != 45 := toNat_ne h4
      generalize l.getD 4 0 = c4 at g4 HNE
      clear hR h4 g7
      go_enter Tryz.func76, Tryz.ntmps76
      go_wp2
      refine bodyPost_ret (day_end rfl _ _ w.heap.size _ _ _ rfl (heap_alloc_new _ _)) rfl ⟨⟨_, _, _, by rw [HR.out]; rfl⟩, HAL.out⟩
  · have HR := Lib.hid (date_len hl)
    have hz : (tx l).size ≠ 10 := by rw [tx_size']; exact hl
    have hz2 : (((tx l).size : Int) != 10) = true := by simp only [bne_iff_ne, ne_eq]; omega
    rw [HR.out]
    clear hl HR
    go_enter Tryz.func76, Tryz.ntmps76
    go_wp2
    refine bodyPost_ret (day_end rfl _ _ w.heap.size _ _ _ rfl (heap_alloc_new _ _)) rfl ⟨⟨_, _, _, rfl⟩, HAL.out⟩
theorem dDate (l : Bs) (w : World) : Calls Tryz.prog 62 #[.string (tx l)] w fun e w' => e = .returned (.int .i64 (if dateP l = true then 0 else 200)) ∧ Below w.heap.size w w' := by
  have HRD := Lib.hid (fun W => dread l W)
  have HAL := Lib.hid (fun o => (Below.refl w.heap.size w).alloc (Nat.le_refl _) o)
  have HE : Hid (∀ W o, Below w.heap.size w W → Below w.heap.size w (W.alloc o)) := Lib.hid (fun W o h => h.alloc h.size o)
  cases hd : dateP l
  all_goals
    rw [hd] at HRD
    go_enter Tryz.func62, Tryz.ntmps62
    go_wp2_with (first | (go_at_call 76; refine (HRD.out _).mono ?_; rintro e w1 ⟨⟨y, m, d, rfl⟩, hb1⟩; have HB1 := Lib.hid hb1; clear hb1))
    go_ret
    exact ⟨rfl, HE.out _ _ HB1.out⟩
end Go.Proofs.YtdomglkcfecnnaaGreat
