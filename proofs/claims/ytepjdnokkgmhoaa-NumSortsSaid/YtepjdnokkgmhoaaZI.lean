/- The reference's Sort. -/
import Derived.Test.YtepjdnokkgmhoaaZH
import Derived.Laws.AppendOwnNone
import Derived.BigQuiet
namespace Go.Proofs.Ytepjdnokkgmhoaa
open Go.RowKit Go.Sort Go.Shelf
/-- How far back a number goes: behind all that do not stand behind it. -/
def posF (O : List Nat) (x : Nat) : Nat → Nat
  | 0 => 0
  | k + 1 => if keyN x < keyN (O.getD k 0) then posF O x k else k + 1
theorem posF_le (O : List Nat) (x : Nat) : ∀ k, posF O x k ≤ k
  | 0 => Nat.le_refl _
  | k + 1 => by unfold posF; split; exact Nat.le_succ_of_le (posF_le O x k); exact Nat.le_refl _
def insF (O : List Nat) (x : Nat) : List Nat := O.take (posF O x O.length) ++ x :: O.drop (posF O x O.length)
def refF (L : List Nat) (i : Nat) : List Nat := (L.take i).foldl insF []
theorem insF_len (O : List Nat) (x : Nat) : (insF O x).length = O.length + 1 := by
  have := posF_le O x O.length
  simp [insF]; omega
theorem refF_zero (L : List Nat) : refF L 0 = [] := rfl
theorem refF_succ (L : List Nat) (i : Nat) (h : i < L.length) : refF L (i + 1) = insF (refF L i) (L.getD i 0) := by
  unfold refF; rw [take_snoc L i h, List.foldl_append]; rfl
theorem refF_len (L : List Nat) : ∀ i, i ≤ L.length → (refF L i).length = i
  | 0, _ => rfl
  | i + 1, h => by rw [refF_succ L i (by omega), insF_len, refF_len L i (by omega)]
theorem insF_mem {O : List Nat} {x y : Nat} (h : y ∈ insF O x) : y = x ∨ y ∈ O := by
  unfold insF at h
  rcases List.mem_append.1 h with h | h
  · exact .inr (List.mem_of_mem_take h)
  · rcases List.mem_cons.1 h with h | h
    · exact .inl h
    · exact .inr (List.mem_of_mem_drop h)
theorem refF_mem (L : List Nat) : ∀ i, i ≤ L.length → ∀ y ∈ refF L i, y ∈ L
  | 0, _, y, h => by simp [refF_zero] at h
  | i + 1, hi, y, h => by
    rw [refF_succ L i (by omega)] at h
    rcases insF_mem h with rfl | h
    · simp [show i < L.length by omega]
    · exact refF_mem L i (by omega) y h
theorem own_cap {w : World} {base n cap : Nat} {e : TypeId} {x : Option Addr} {xs : List Value} (h : w.ownsRow base e 1 (.slice x n cap) n xs) : n ≤ cap := by
  rcases h.2 with ⟨hv, h0⟩ | ⟨g, cp, cur, hv, hb, hg, hnc, hcm, hcs, htake⟩
  · omega
  · cases hv; exact hnc
/-- A part of a row of numbers, as append takes it. -/
theorem cells_part {w : World} {g i : Nat} {O : List Nat} (hc : ∀ t, t < i → w.cell? ⟨g, t, none⟩ = some (fV (O.getD t 0))) (a m : Nat) (h : a + m ≤ i) :
    ∀ j u, (((O.drop a).take m).map fV)[j]? = some u → w.cell? ((⟨g, a, none⟩ : Addr).add j) = some u := by
  intro j u hj
  rw [List.getElem?_map] at hj
  obtain ⟨v, hv, rfl⟩ := Option.map_eq_some_iff.1 hj
  have hjm : j < m := by
    have := (List.getElem?_eq_some_iff.1 hv).1
    simp at this; omega
  rw [List.getElem?_take_of_lt hjm, List.getElem?_drop] at hv
  have := hc (a + j) (by omega)
  rw [show ((⟨g, a, none⟩ : Addr).add j) = ⟨g, a + j, none⟩ from by simp [Addr.add], this, List.getD_eq_getElem?_getD, hv]; rfl
theorem cells_zero {w : World} {ad : Addr} {O : List Nat} {a m : Nat} (h : m = 0) : ∀ j u, (((O.drop a).take m).map fV)[j]? = some u → w.cell? (ad.add j) = some u := by
  subst h; intro j u hj; simp at hj
theorem one_part (O : List Nat) (a m : Nat) : ∀ u ∈ ((O.drop a).take m).map fV, u.oneCell' = true := by
  intro u hu
  obtain ⟨v, _, rfl⟩ := List.mem_map.1 hu
  rfl
theorem len_part {O : List Nat} {a m i : Nat} (hl : O.length = i) (h : a + m ≤ i) : (((O.drop a).take m).map fV).length = m * 1 := by simp; omega
/-- The row with a number put in. -/
theorem put_row {O : List Nat} {X i p : Nat} (hl : O.length = i) (hp : p ≤ i) (he : posF O X i = p) :
    ((([] : List Value) ++ ((O.drop 0).take p).map fV) ++ [fV X]) ++ ((O.drop p).take (i - p)).map fV = (insF O X).map fV := by
  unfold insF
  rw [hl, he, List.drop_zero, List.take_of_length_le (l := O.drop p) (by simp; omega)]
  simp
set_option maxRecDepth 100000 in
set_option maxHeartbeats 4000000 in
theorem rsort (x : Option Addr) (cap : Nat) (L : List Nat) (w : World) (hx : RowF w x L) (hl : ∀ a ∈ L, a < 18446744073709551616) (hm : L.length ≤ 60) : Calls Try.prog 39 #[.slice x L.length cap] w (GivesF w (refF L L.length)) := by
  obtain ⟨i0, hi0, hz0, hz1, hz2⟩ := info_parts22
  have HI := Lib.hid hi0
  have HZ0 := Lib.hid hz0
  have HZ1 := Lib.hid hz1
  have HZ2 := Lib.hid hz2
  have HX := Lib.hid hx
  have HL := Lib.hid hl
  have HR : Hid (∀ i, i ≤ L.length → (refF L i).length = i) := Lib.hid (refF_len L)
  have HRM : Hid (∀ i, i ≤ L.length → ∀ y ∈ refF L i, y < 18446744073709551616) := Lib.hid (fun i hi y hy => hl y (refF_mem L i hi y hy))
  obtain ⟨n, hn⟩ : ∃ n, L.length = n := ⟨_, rfl⟩
  have HN := Lib.hid hn
  rw [hn] at hm HR HRM ⊢
  clear hx hl hn hi0 hz0 hz1 hz2
  go_enter Try.func39, Try.ntmps39
  go_wp2_with fail
  go_loopw [3, 4] (fun v vi wr => ∃ (i c : Nat) (y : Option Addr), i ≤ n ∧ (i = 0 → y = none ∧ c = 0) ∧ v = .slice y i c ∧ vi = .int .i64 (i : Int) ∧ Hid (wr.ownsRow w.heap.size 22 1 (.slice y i c) i ((refF L i).map fV)) ∧ Hid (Go.RowKit.Below w.heap.size w wr)) (fun _ vi _ => n - (intOf vi).toNat)
  case atStart => exact ⟨0, 0, none, by omega, fun _ => ⟨rfl, rfl⟩, rfl, rfl, Lib.hid (World.ownsRow_nil _ _ _ _), Lib.hid (Below.refl _ _)⟩
  case round =>
    obtain ⟨i, c, y, hi, hnil, rfl, rfl, HO, HB⟩ := hrel
    have HNIL := Lib.hid hnil
    clear hnil
    by_cases h1 : i < n
    · have h1z : (i : Int) < (n : Int) := by omega
      have hsz := HB.out.size
      obtain ⟨b, off, rfl, hb, hc⟩ := HX.out (by rw [HN.out]; omega)
      have hcX : wr.cell? ⟨b, off + i, none⟩ = some (.float .f64 (L.getD i 0)) := (HB.out.cell (p := ⟨b, off + i, none⟩) hb).trans (hc i (by rw [HN.out]; omega))
      have hXl : L.getD i 0 < 18446744073709551616 := HL.out _ (by
        have hk2 : i < L.length := by rw [HN.out]; omega
        simp [hk2])
      have HRS : Hid (refF L (i + 1) = insF (refF L i) (L.getD i 0)) := Lib.hid (refF_succ L i (by rw [HN.out]; omega))
      obtain ⟨X, hX⟩ : ∃ X, X = L.getD i 0 := ⟨_, rfl⟩
      rw [← hX] at hcX hXl HRS
      have HXL := Lib.hid hXl
      obtain ⟨O, hO⟩ : ∃ O, O = refF L i := ⟨_, rfl⟩
      have hOl : O.length = i := by rw [hO]; exact HR.out i hi
      have HOM : Hid (∀ k, k < i → O.getD k 0 < 18446744073709551616) := Lib.hid (fun k hk => by
        have hk2 : k < O.length := by omega
        exact HRM.out i hi _ (by rw [← hO]; simp [hk2]))
      rw [← hO] at HO HRS
      have HOL := Lib.hid hOl
      clear hc hX hXl hO hOl
      go_wp2_with fail
      go_loopw [5] (fun vp wr2 => ∃ (p q : Nat), vp = .int .i64 (p : Int) ∧ p ≤ i ∧ Hid (wr2 = wr.drewN q) ∧ Hid (posF O X p = posF O X i)) (fun vp _ => (intOf vp).toNat)
      case atStart => exact ⟨i, 0, rfl, Nat.le_refl _, Lib.hid rfl, Lib.hid rfl⟩
      case round =>
        obtain ⟨p, q, rfl, hp, HW, HP⟩ := hrel
        have hcX2 : wr.cell? ⟨b, off + i, none⟩ = some (.float .f64 X) := by rw [HW.out]; simpa [go_sem] using hcX
        have hcX3 := Lib.hid hcX
        clear hcX
        have hic := own_cap HO.out
        obtain ⟨S, hS⟩ : ∃ S, S = wr.heap.size := ⟨_, rfl⟩
        by_cases hp0 : 0 < p
        · have hp0z : (p : Int) > 0 := by omega
          obtain ⟨g, rfl, hg, hc⟩ := own_cell HO.out (by omega)
          obtain ⟨Y, hY⟩ : ∃ Y, Y = O.getD (p - 1) 0 := ⟨_, rfl⟩
          have hcO : ∀ t, t < i → wr.cell? ⟨g, t, none⟩ = some (fV (O.getD t 0)) := fun t ht => by
            have hk2 : t < O.length := by rw [HOL.out]; exact ht
            have := hc t ht
            simp [hk2] at this
            rw [HW.out]
            simpa [go_sem, hk2] using this
          have hcY : wr.cell? ⟨g, p - 1, none⟩ = some (.float .f64 Y) := by rw [hcO (p - 1) (by omega), hY]; rfl
          have HCO := Lib.hid hcO
          have HYL : Hid (Y < 18446744073709551616) := Lib.hid (by rw [hY]; exact HOM.out _ (by omega))
          have HYE := Lib.hid hY
          clear hc hY hcO
          by_cases hK : keyN X < keyN Y
          · have hKz : (keyN X : Int) < (keyN Y : Int) := by omega
            go_wp2_with fail
            go_big_quiet (first | (go_at_call 32; first | ((with_reducible refine quiet_sym (rkey Y HYL.out _))) | ((with_reducible refine quiet_sym (rkey X HXL.out _)))))
            go_wp2_with fail
            go_roundw
            case rel =>
              refine ⟨p - 1, q + nq, by congr 1; omega, by omega, Lib.hid (by rw [HW.out]; exact World.drewN_drewN _ _ _), Lib.hid ?_⟩
              rw [← HP.out]
              obtain ⟨p', rfl⟩ : ∃ p', p = p' + 1 := ⟨p - 1, by omega⟩
              have := HYE.out
              rw [posF, if_pos (by rw [← show Y = O.getD p' 0 from this]; exact hK)]; rfl
            case measure => simp [intOf]; omega
          · have hKz : decide (keyN X < keyN Y) = false := decide_eq_false hK
            have HPE : Hid (posF O X i = p) := Lib.hid (by
              rw [← HP.out]
              obtain ⟨p', rfl⟩ : ∃ p', p = p' + 1 := ⟨p - 1, by omega⟩
              have := HYE.out
              rw [posF, if_neg (by rw [← show Y = O.getD p' 0 from this]; exact hK)])
            go_wp2_with fail
            go_big_quiet (first | (go_at_call 32; first | ((with_reducible refine quiet_sym (rkey Y HYL.out _))) | ((with_reducible refine quiet_sym (rkey X HXL.out _)))))
            have hcX4 : (wr.drewN nq).cell? ⟨b, off + i, none⟩ = some (.float .f64 X) := by simpa [go_sem] using hcX2
            have hcO4 : ∀ t, t < i → (wr.drewN nq).cell? ⟨g, t, none⟩ = some (fV (O.getD t 0)) := fun t ht => by simpa [go_sem] using HCO.out t ht
            have HB4 : Hid (Go.RowKit.Below w.heap.size w (wr.drewN nq)) := Lib.hid (below_drewN (by rw [HW.out]; exact below_drewN HB.out _) _)
            have hws : w.heap.size ≤ S := by rw [hS, HW.out]; simpa [go_sem] using hsz
            have hg4 : g < S := by rw [hS, HW.out]; simpa [go_sem] using hg
            have hb4 : b < S := by rw [hS, HW.out]; simpa [go_sem] using Nat.lt_of_lt_of_le hb hsz
            have hz0 : S ≤ (wr.drewN nq).heap.size ∧ (wr.drewN nq).heap.size ≤ S := by rw [hS]; simp [go_sem]
            clear hcX2 hcX3 HCO HW HP hS
            generalize wr.drewN nq = wx at *
            have HKP : Hid (∀ W, Below S wx W → (∀ t, t < i → W.cell? ⟨g, t, none⟩ = some (fV (O.getD t 0))) ∧ W.cell? ⟨b, off + i, none⟩ = some (.float .f64 X)) := Lib.hid (fun W h => ⟨fun t ht => (h.cell (p := ⟨g, t, none⟩) hg4).trans (hcO4 t ht), (h.cell (p := ⟨b, off + i, none⟩) hb4).trans hcX4⟩)
            have hBa : Below S wx (wx.alloc (.cells #[] 22)) := (Below.refl S wx).alloc (by omega) _
            have HBa := Lib.hid hBa
            have HM : Hid ((wx.alloc (.cells #[] 22)).ownsRow S 22 1 (.slice (some ⟨wx.heap.size, 0, none⟩) 0 0) 0 []) := Lib.hid (World.ownsRow_made wx #[] 0 (by omega) (by unfold maxLen; omega) rfl)
            have HC0 := Lib.hid (cells_part (HKP.out _ hBa).1 0 p (by omega))
            clear hcO4 hcX4 hBa
            by_cases hcp : c ≤ p
            · have hcp2 : c - p = 0 := by omega
              go_wp2_with (first | (at_builtin; go_loud (refine wpList_append_own _ rfl _ _ 38 rfl S 22 i0 (.float .f64 0) 1 8 Try.underlying38 HI.out HZ0.out HZ1.out HZ2.out rfl (by decide) _ _ [] rfl HM.out ⟨g, 0, none⟩ p _ (((O.drop 0).take p).map fV) rfl (len_part HOL.out (by omega)) HC0.out (one_part O 0 p) (by unfold maxLen; omega) (by omega) (by simp; omega) ?_); intro v1 w1 hown1 hgrow1 hnil1; have HO1 := Lib.hid hown1; have HB1 : Hid (Go.RowKit.Below S wx w1) := Lib.hid (HBa.out.grown hgrow1 (by simp; omega) (fun j hj => (HM.out.lt j hj).1)); have hcX5 := (HKP.out _ HB1.out).2; have hz1 : S ≤ w1.heap.size := Nat.le_trans (hz0.1) HB1.out.size; clear hown1 hgrow1 hnil1) | (at_builtin; go_loud (refine wpList_append_own _ rfl _ _ 38 rfl S 22 i0 (.float .f64 0) 1 8 Try.underlying38 HI.out HZ0.out HZ1.out HZ2.out rfl (by decide) _ _ _ rfl (HO1.out.alloc _) ⟨w1.heap.size, 0, none⟩ 1 1 [.float .f64 X] rfl rfl (cell_one_new _ _ _) (by intro u hu; simp at hu; subst hu; rfl) (by unfold maxLen; omega) (by omega) (by simp; omega) ?_); intro v2 w2 hown2 hgrow2 hnil2; have HO2 := Lib.hid hown2; have HB2 : Hid (Go.RowKit.Below S wx w2) := Lib.hid ((HB1.out.alloc hz1 _).grown hgrow2 (by simp; omega) (fun j hj => (HO1.out.lt j hj).1)); have hz2 : S ≤ w2.heap.size := Nat.le_trans (hz0.1) HB2.out.size; have HC2 := Lib.hid (cells_part (HKP.out _ HB2.out).1 p (i - p) (by omega)); clear hown2 hgrow2 hnil2) | (at_builtin; go_loud (refine wpList_append_own _ rfl _ _ 38 rfl S 22 i0 (.float .f64 0) 1 8 Try.underlying38 HI.out HZ0.out HZ1.out HZ2.out rfl (by decide) _ _ _ rfl HO2.out ⟨g, 0, none⟩ (i - p) _ (((O.drop p).take (i - p)).map fV) rfl (len_part HOL.out (by omega)) (cells_zero (by omega)) (one_part O p (i - p)) (by unfold maxLen; omega) (by omega) hz2 ?_); intro v3 w3 hown3 hgrow3 hnil3; have HO3 := Lib.hid hown3; have HB3 : Hid (Go.RowKit.Below S wx w3) := Lib.hid (HB2.out.grown hgrow3 hz2 (fun j hj => (HO2.out.lt j hj).1)); clear hown3 hgrow3 hnil3))
              have HY : Hid (w3.ownsRow w.heap.size 22 1 v3 (i + 1) ((refF L (i + 1)).map fV)) := Lib.hid (by
                have h := HO3.out
                rw [show 0 + p + 1 + (i - p) = i + 1 by omega] at h
                rw [HRS.out, ← put_row HOL.out hp HPE.out]
                exact owns_weak h (by omega))
              have HX3 : Hid (Go.RowKit.Below w.heap.size w w3) := Lib.hid (HB4.out.trans (HB3.out.mono (by omega)))
              obtain ⟨y3, c3, rfl⟩ := owns_slice HY.out
              go_roundw
              case rel => exact ⟨i + 1, c3, y3, by omega, fun h => absurd h (by omega), rfl, by go_num, HY, HX3⟩
              case measure => simp [intOf]; omega
            · obtain ⟨r, hr⟩ : ∃ r, c - p = r + 1 := ⟨c - p - 1, by omega⟩
              go_wp2_with (first | (at_builtin; go_loud (refine wpList_append_own _ rfl _ _ 38 rfl S 22 i0 (.float .f64 0) 1 8 Try.underlying38 HI.out HZ0.out HZ1.out HZ2.out rfl (by decide) _ _ [] rfl HM.out ⟨g, 0, none⟩ p _ (((O.drop 0).take p).map fV) rfl (len_part HOL.out (by omega)) HC0.out (one_part O 0 p) (by unfold maxLen; omega) (by omega) (by simp; omega) ?_); intro v1 w1 hown1 hgrow1 hnil1; have HO1 := Lib.hid hown1; have HB1 : Hid (Go.RowKit.Below S wx w1) := Lib.hid (HBa.out.grown hgrow1 (by simp; omega) (fun j hj => (HM.out.lt j hj).1)); have hcX5 := (HKP.out _ HB1.out).2; have hz1 : S ≤ w1.heap.size := Nat.le_trans (hz0.1) HB1.out.size; clear hown1 hgrow1 hnil1) | (at_builtin; go_loud (refine wpList_append_own _ rfl _ _ 38 rfl S 22 i0 (.float .f64 0) 1 8 Try.underlying38 HI.out HZ0.out HZ1.out HZ2.out rfl (by decide) _ _ _ rfl (HO1.out.alloc _) ⟨w1.heap.size, 0, none⟩ 1 1 [.float .f64 X] rfl rfl (cell_one_new _ _ _) (by intro u hu; simp at hu; subst hu; rfl) (by unfold maxLen; omega) (by omega) (by simp; omega) ?_); intro v2 w2 hown2 hgrow2 hnil2; have HO2 := Lib.hid hown2; have HB2 : Hid (Go.RowKit.Below S wx w2) := Lib.hid ((HB1.out.alloc hz1 _).grown hgrow2 (by simp; omega) (fun j hj => (HO1.out.lt j hj).1)); have hz2 : S ≤ w2.heap.size := Nat.le_trans (hz0.1) HB2.out.size; have HC2 := Lib.hid (cells_part (HKP.out _ HB2.out).1 p (i - p) (by omega)); clear hown2 hgrow2 hnil2) | (at_builtin; go_loud (refine wpList_append_own _ rfl _ _ 38 rfl S 22 i0 (.float .f64 0) 1 8 Try.underlying38 HI.out HZ0.out HZ1.out HZ2.out rfl (by decide) _ _ _ rfl HO2.out ⟨g, p, none⟩ (i - p) _ (((O.drop p).take (i - p)).map fV) rfl (len_part HOL.out (by omega)) HC2.out (one_part O p (i - p)) (by unfold maxLen; omega) (by omega) hz2 ?_); intro v3 w3 hown3 hgrow3 hnil3; have HO3 := Lib.hid hown3; have HB3 : Hid (Go.RowKit.Below S wx w3) := Lib.hid (HB2.out.grown hgrow3 hz2 (fun j hj => (HO2.out.lt j hj).1)); clear hown3 hgrow3 hnil3))
              have HY : Hid (w3.ownsRow w.heap.size 22 1 v3 (i + 1) ((refF L (i + 1)).map fV)) := Lib.hid (by
                have h := HO3.out
                rw [show 0 + p + 1 + (i - p) = i + 1 by omega] at h
                rw [HRS.out, ← put_row HOL.out hp HPE.out]
                exact owns_weak h (by omega))
              have HX3 : Hid (Go.RowKit.Below w.heap.size w w3) := Lib.hid (HB4.out.trans (HB3.out.mono (by omega)))
              obtain ⟨y3, c3, rfl⟩ := owns_slice HY.out
              go_roundw
              case rel => exact ⟨i + 1, c3, y3, by omega, fun h => absurd h (by omega), rfl, by go_num, HY, HX3⟩
              case measure => simp [intOf]; omega
        · have hp0z : decide ((p : Int) > 0) = false := decide_eq_false (by omega)
          by_cases hi0 : 0 < i
          · obtain ⟨g, rfl, hg, hc⟩ := own_cell HO.out (by omega)
            have hcO : ∀ t, t < i → wr.cell? ⟨g, t, none⟩ = some (fV (O.getD t 0)) := fun t ht => by
              have hk2 : t < O.length := by rw [HOL.out]; exact ht
              have := hc t ht
              simp [hk2] at this
              rw [HW.out]
              simpa [go_sem, hk2] using this
            have HCO := Lib.hid hcO
            clear hc hcO
            have HPE : Hid (posF O X i = p) := Lib.hid (by rw [← HP.out, show p = 0 by omega]; rfl)
            go_wp2_with fail
            go_big_quiet (first | (go_at_call 32; first | ((with_reducible refine quiet_sym (rkey X HXL.out _)))))
            have HB4 : Hid (Go.RowKit.Below w.heap.size w (wr.drewN nq)) := Lib.hid (below_drewN (by rw [HW.out]; exact below_drewN HB.out _) _)
            have hcX4 : (wr.drewN nq).cell? ⟨b, off + i, none⟩ = some (.float .f64 X) := by simpa [go_sem] using hcX2
            have hcO4 : ∀ t, t < i → (wr.drewN nq).cell? ⟨g, t, none⟩ = some (fV (O.getD t 0)) := fun t ht => by simpa [go_sem] using HCO.out t ht
            have hws : w.heap.size ≤ S := by rw [hS, HW.out]; simpa [go_sem] using hsz
            have hg4 : g < S := by rw [hS, HW.out]; simpa [go_sem] using hg
            have hb4 : b < S := by rw [hS, HW.out]; simpa [go_sem] using Nat.lt_of_lt_of_le hb hsz
            have hz0 : S ≤ (wr.drewN nq).heap.size ∧ (wr.drewN nq).heap.size ≤ S := by rw [hS]; simp [go_sem]
            clear hcX2 hcX3 HCO HW HP hS
            generalize wr.drewN nq = wx at *
            have HKP : Hid (∀ W, Below S wx W → (∀ t, t < i → W.cell? ⟨g, t, none⟩ = some (fV (O.getD t 0))) ∧ W.cell? ⟨b, off + i, none⟩ = some (.float .f64 X)) := Lib.hid (fun W h => ⟨fun t ht => (h.cell (p := ⟨g, t, none⟩) hg4).trans (hcO4 t ht), (h.cell (p := ⟨b, off + i, none⟩) hb4).trans hcX4⟩)
            have hBa : Below S wx (wx.alloc (.cells #[] 22)) := (Below.refl S wx).alloc (by omega) _
            have HBa := Lib.hid hBa
            have HM : Hid ((wx.alloc (.cells #[] 22)).ownsRow S 22 1 (.slice (some ⟨wx.heap.size, 0, none⟩) 0 0) 0 []) := Lib.hid (World.ownsRow_made wx #[] 0 (by omega) (by unfold maxLen; omega) rfl)
            have HC0 := Lib.hid (cells_part (HKP.out _ hBa).1 0 p (by omega))
            clear hcO4 hcX4 hBa
            obtain ⟨r, hr⟩ : ∃ r, c - p = r + 1 := ⟨c - p - 1, by omega⟩
            go_wp2_with (first | (at_builtin; go_loud (refine wpList_append_own _ rfl _ _ 38 rfl S 22 i0 (.float .f64 0) 1 8 Try.underlying38 HI.out HZ0.out HZ1.out HZ2.out rfl (by decide) _ _ [] rfl HM.out ⟨g, 0, none⟩ p _ (((O.drop 0).take p).map fV) rfl (len_part HOL.out (by omega)) HC0.out (one_part O 0 p) (by unfold maxLen; omega) (by omega) (by simp; omega) ?_); intro v1 w1 hown1 hgrow1 hnil1; have HO1 := Lib.hid hown1; have HB1 : Hid (Go.RowKit.Below S wx w1) := Lib.hid (HBa.out.grown hgrow1 (by simp; omega) (fun j hj => (HM.out.lt j hj).1)); have hcX5 := (HKP.out _ HB1.out).2; have hz1 : S ≤ w1.heap.size := Nat.le_trans (hz0.1) HB1.out.size; clear hown1 hgrow1 hnil1) | (at_builtin; go_loud (refine wpList_append_own _ rfl _ _ 38 rfl S 22 i0 (.float .f64 0) 1 8 Try.underlying38 HI.out HZ0.out HZ1.out HZ2.out rfl (by decide) _ _ _ rfl (HO1.out.alloc _) ⟨w1.heap.size, 0, none⟩ 1 1 [.float .f64 X] rfl rfl (cell_one_new _ _ _) (by intro u hu; simp at hu; subst hu; rfl) (by unfold maxLen; omega) (by omega) (by simp; omega) ?_); intro v2 w2 hown2 hgrow2 hnil2; have HO2 := Lib.hid hown2; have HB2 : Hid (Go.RowKit.Below S wx w2) := Lib.hid ((HB1.out.alloc hz1 _).grown hgrow2 (by simp; omega) (fun j hj => (HO1.out.lt j hj).1)); have hz2 : S ≤ w2.heap.size := Nat.le_trans (hz0.1) HB2.out.size; have HC2 := Lib.hid (cells_part (HKP.out _ HB2.out).1 p (i - p) (by omega)); clear hown2 hgrow2 hnil2) | (at_builtin; go_loud (refine wpList_append_own _ rfl _ _ 38 rfl S 22 i0 (.float .f64 0) 1 8 Try.underlying38 HI.out HZ0.out HZ1.out HZ2.out rfl (by decide) _ _ _ rfl HO2.out ⟨g, p, none⟩ (i - p) _ (((O.drop p).take (i - p)).map fV) rfl (len_part HOL.out (by omega)) HC2.out (one_part O p (i - p)) (by unfold maxLen; omega) (by omega) hz2 ?_); intro v3 w3 hown3 hgrow3 hnil3; have HO3 := Lib.hid hown3; have HB3 : Hid (Go.RowKit.Below S wx w3) := Lib.hid (HB2.out.grown hgrow3 hz2 (fun j hj => (HO2.out.lt j hj).1)); clear hown3 hgrow3 hnil3))
            have HY : Hid (w3.ownsRow w.heap.size 22 1 v3 (i + 1) ((refF L (i + 1)).map fV)) := Lib.hid (by
              have h := HO3.out
              rw [show 0 + p + 1 + (i - p) = i + 1 by omega] at h
              rw [HRS.out, ← put_row HOL.out hp HPE.out]
              exact owns_weak h (by omega))
            have HX3 : Hid (Go.RowKit.Below w.heap.size w w3) := Lib.hid (HB4.out.trans (HB3.out.mono (by omega)))
            obtain ⟨y3, c3, rfl⟩ := owns_slice HY.out
            go_roundw
            case rel => exact ⟨i + 1, c3, y3, by omega, fun h => absurd h (by omega), rfl, by go_num, HY, HX3⟩
            case measure => simp [intOf]; omega
          · obtain rfl : i = 0 := by omega
            obtain ⟨rfl, rfl⟩ := HNIL.out rfl
            obtain rfl : p = 0 := by omega
            go_wp2_with fail
            go_big_quiet (first | (go_at_call 32; first | ((with_reducible refine quiet_sym (rkey X HXL.out _)))))
            have HB4 : Hid (Go.RowKit.Below w.heap.size w (wr.drewN nq)) := Lib.hid (below_drewN (by rw [HW.out]; exact below_drewN HB.out _) _)
            have hcX4 : (wr.drewN nq).cell? ⟨b, off, none⟩ = some (.float .f64 X) := by simpa [go_sem] using hcX2
            have hws : w.heap.size ≤ S := by rw [hS, HW.out]; simpa [go_sem] using hsz
            have hb4 : b < S := by rw [hS, HW.out]; simpa [go_sem] using Nat.lt_of_lt_of_le hb hsz
            have hz0 : S ≤ (wr.drewN nq).heap.size ∧ (wr.drewN nq).heap.size ≤ S := by rw [hS]; simp [go_sem]
            clear hcX2 hcX3 HW HP hS
            generalize wr.drewN nq = wx at *
            have hBa : RowKit.Below S wx (wx.alloc (.cells #[] 22)) := (RowKit.Below.refl S wx).alloc (by omega) _
            have hcX5 : (wx.alloc (.cells #[] 22)).cell? ⟨b, off, none⟩ = some (.float .f64 X) := (hBa.cell (p := ⟨b, off, none⟩) hb4).trans hcX4
            have HBa := Lib.hid hBa
            have HM : Hid ((wx.alloc (.cells #[] 22)).ownsRow S 22 1 (.slice (some ⟨wx.heap.size, 0, none⟩) 0 0) 0 []) := Lib.hid (World.ownsRow_made wx #[] 0 (by omega) (by unfold maxLen; omega) rfl)
            have HCN : Hid (∀ (j : Nat) (u : Value), [Value.float .f64 X][j]? = some u → ((wx.alloc (.cells #[] 22)).alloc (.cells #[.float .f64 X] 22)).cell? ((⟨wx.heap.size + 1, 0, none⟩ : Addr).add j) = some u) := Lib.hid (fun j u hj => by
              have := cell_one_new (wx.alloc (.cells #[] 22)) (.float .f64 X) 22 j u hj
              simpa [go_sem] using this)
            clear hcX4 hBa
            go_wp2_with (first | (at_builtin; go_loud (refine wpList_append_own_none rfl _ _ 38 rfl S 22 i0 1 Try.underlying38 HI.out _ 0 [] rfl HM.out rfl ?_)) | (at_builtin; go_loud (refine wpList_append_own _ rfl _ _ 38 rfl S 22 i0 (.float .f64 0) 1 8 Try.underlying38 HI.out HZ0.out HZ1.out HZ2.out rfl (by decide) _ _ _ rfl (HM.out.alloc _) ⟨wx.heap.size + 1, 0, none⟩ 1 1 [.float .f64 X] rfl rfl HCN.out (by intro u hu; simp at hu; subst hu; rfl) (by unfold maxLen; omega) (by omega) (by simp; omega) ?_); intro v2 w2 hown2 hgrow2 hnil2; have HO2 := Lib.hid hown2; have HB2 : Hid (RowKit.Below S wx w2) := Lib.hid ((HBa.out.alloc (by simp; omega) _).grown hgrow2 (by simp; omega) (fun j hj => (HM.out.lt j hj).1)); clear hown2 hgrow2 hnil2) | (at_builtin; go_loud (refine wpList_append_own_none rfl _ _ 38 rfl S 22 i0 1 Try.underlying38 HI.out _ _ _ rfl HO2.out rfl ?_)))
            have HY : Hid (w2.ownsRow w.heap.size 22 1 v2 (0 + 1) ((refF L (0 + 1)).map fV)) := Lib.hid (by
              have h := HO2.out
              rw [HRS.out, show O = [] from List.eq_nil_of_length_eq_zero HOL.out]
              exact owns_weak h (by omega))
            have HX3 : Hid (RowKit.Below w.heap.size w w2) := Lib.hid (HB4.out.trans (HB2.out.mono (by omega)))
            obtain ⟨y3, c3, rfl⟩ := owns_slice HY.out
            go_roundw
            case rel => exact ⟨0 + 1, c3, y3, by omega, fun h => absurd h (by omega), rfl, by go_num, HY, HX3⟩
            case measure => simp [intOf]; omega
    · obtain rfl : i = n := by omega
      have h1z : ¬ (i : Int) < (i : Int) := by omega
      have hfin : GivesF w (refF L i) (.returned (.slice y i c)) wr := by
        refine ⟨y, c, by rw [HR.out i (Nat.le_refl _)], ⟨w.heap.size, Nat.le_refl _, ?_⟩, HB.out⟩
        rw [HR.out i (Nat.le_refl _)]; exact HO.out
      have HF := Lib.hid hfin
      clear hfin
      go_wp2_with fail
      go_ret
      exact HF.out
end Go.Proofs.Ytepjdnokkgmhoaa
