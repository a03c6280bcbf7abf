/- Walk: the law HistoryWalks. -/
import Derived.Test.YtbaljpamhmbcjaaHY
namespace Go.Proofs.Ytbaljpamhmbcjaa
open Go.RowKit Go.Shelf
theorem RowL.but {W W' : World} {y : Option Addr} {cap : Nat} {R L : List Bs} {b : Nat} {m : Int} {k : Wk} {x : Option Addr} {c : Nat} (h : RowL W y cap R) (hh : His W b m L k x c) (hb : But [b] W W') : RowL W' y cap R := h.kept (fun j hj => by
  obtain ⟨hlt, cur, hc⟩ := h.lt j hj
  refine hb.block j hlt (fun e => ?_)
  simp at e
  rw [e, hh.hd] at hc
  cases hc)
theorem fillS_good (m : Nat) (ss : List Bs) : GoodL m (fillS m ss) := fillN_good m ss _ (Nat.min_le_left _ _)
/-- What stands behind back. -/
structure WkI (w : World) (L : List Bs) (d bg : Bs) (k : Nat) (x : Option Addr) (c : Nat) (ly : Option Addr) (lc : Nat) (W : World) : Prop where
  his : His W w.heap.size 20 L (wkAt L d bg k) x c
  row : RowL W ly lc (tpL L d bg)
  bel : Below w.heap.size w W
theorem WkI.below {w : World} {L : List Bs} {d bg : Bs} {k : Nat} {x : Option Addr} {c : Nat} {ly : Option Addr} {lc : Nat} {W W' : World} (h : WkI w L d bg k x c ly lc W) (hb : Below W.heap.size W W') : WkI w L d bg k x c ly lc W' := ⟨h.his.below hb, h.row.below hb, h.bel.trans (below_le hb h.bel.size)⟩
theorem WkI.step {w : World} {L : List Bs} {d bg : Bs} {k k' : Nat} {x : Option Addr} {c : Nat} {ly : Option Addr} {lc : Nat} {W W' : World} (h : WkI w L d bg k x c ly lc W) (hh : His W' w.heap.size 20 L (wkAt L d bg k') x c) (hb : But [w.heap.size] W W') : WkI w L d bg k' x c ly lc W' :=
  ⟨hh, h.row.but h.his hb, h.bel.trans (hb.toBelow h.bel.size (fun j hj => by simp at hj; omega))⟩
set_option maxRecDepth 100000 in
set_option maxHeartbeats 4000000 in
theorem walks_any (x0 : Option Addr) (n0 c0 : Nat) (ss : List Bs) (dr be : Bs) (w : World) (hc0 : n0 ≤ c0) (hss : StrsV w x0 n0 ss) : Calls Try.prog 3 #[.slice x0 n0 c0, .string (tx dr), .string (tx be)] w fun e w' => e = .returned (.bool true) ∧ Below w.heap.size w w' := by
  obtain ⟨i0, hi, hz0, hz1, hz2⟩ := info_parts9
  have HI9 := Lib.hid (And.intro hi (And.intro hz0 (And.intro hz1 hz2)))
  have HFI := Lib.hid (wfilled 20 (by omega) (by omega) x0 n0 c0 hc0 ss w hss)
  have HC1 := Lib.hid (fun W => wcut60 dr W)
  have HC2 := Lib.hid (fun W => wcut60 be W)
  obtain ⟨d, hd⟩ : ∃ d, d = dr.take 60 := ⟨_, rfl⟩
  obtain ⟨bg, hbg⟩ : ∃ d, d = be.take 60 := ⟨_, rfl⟩
  rw [← hd] at HC1
  rw [← hbg] at HC2
  have hG := fillS_good 20 ss
  obtain ⟨L, hL⟩ : ∃ L, L = fillS 20 ss := ⟨_, rfl⟩
  rw [← hL] at HFI hG
  have HGD := Lib.hid hG
  have HNL := Lib.hid (tp_len L d bg)
  obtain ⟨T1, hT1⟩ : ∃ T, T = tx dr := ⟨_, rfl⟩
  obtain ⟨T2, hT2⟩ : ∃ T, T = tx be := ⟨_, rfl⟩
  obtain ⟨D, hD⟩ : ∃ T, T = tx d := ⟨_, rfl⟩
  obtain ⟨G, hGG⟩ : ∃ T, T = tx bg := ⟨_, rfl⟩
  have HDG := Lib.hid (And.intro hD hGG)
  rw [← hT1, ← hD] at HC1
  rw [← hT2, ← hGG] at HC2
  rw [← hT1, ← hT2]
  have HSV := Lib.hid (fun W k x c (hW : His W w.heap.size (20 : Nat) L k x c) => wHsave w.heap.size 20 (by omega) L (by have := hG.1; omega) hG.2.1 k x c W hW)
  have HBK := Lib.hid (fun W x c (hW : His W w.heap.size (20 : Nat) L Wk.no x c) => wback w.heap.size 20 (by omega) L (by have := hG.1; omega) x c d bg W hW)
  rw [← hD, ← hGG] at HBK
  obtain ⟨SV, hSV⟩ : ∃ S, S = tx (saveS L) := ⟨_, rfl⟩
  rw [← hSV] at HSV
  clear hi hz0 hz1 hz2 hss hd hbg hL hT1 hT2 hD hGG hSV hG
  go_enter Try.func3, Try.ntmps3
  go_wp2_with (first | (go_at_call 7; fail))
  go_at_call 7
  refine HFI.out.mono ?_
  rintro e w1 ⟨rfl, ⟨x, c, hh1⟩, hb1⟩
  have H1 := Lib.hid (And.intro hh1 hb1)
  clear hh1 hb1 HFI
  go_wp2_with (first | (go_at_call 8; first | ((with_reducible refine (HC1.out _).mono ?_); rintro e w' ⟨rfl, rfl⟩) | ((with_reducible refine (HC2.out _).mono ?_); rintro e w' ⟨rfl, rfl⟩)) | (go_at_call 9; fail))
  go_at_call 9
  refine (HSV.out _ _ _ _ H1.out.1).mono ?_
  rintro e w2 ⟨rfl, hb2⟩
  have H2 := Lib.hid (And.intro (H1.out.1.below hb2) (H1.out.2.trans (below_le hb2 H1.out.2.size)))
  clear hb2 H1 HC1 HC2
  go_wp2_with (first | (go_at_call 10; fail))
  go_at_call 10
  refine (HBK.out _ _ _ H2.out.1).mono ?_
  rintro e w3 ⟨ly, lc, rfl, hl3, hh3, hb3⟩
  have H3 : Hid (WkI w L d bg (tp L d bg).length x c ly lc w3) := Lib.hid ⟨hh3, hl3, H2.out.2.trans (hb3.toBelow H2.out.2.size (fun j hj => by simp at hj; omega))⟩
  clear hh3 hl3 hb3 H2 HBK
  have HTO := Lib.hid (wHtold w.heap.size 20 (by omega) L (by have := HGD.out.1; omega) _ x c 1000 (by omega) w3 H3.out.his)
  rw [show ((1000 : Nat) : Int) = 1000 from rfl] at HTO
  unfold ToldH at HTO
  rw [List.take_of_length_le (by have := HGD.out.1; omega)] at HTO
  go_wp2_with (first | (go_at_call 11; fail))
  go_at_call 11
  refine HTO.out.mono ?_
  rintro e w4 ⟨ay, ac, rfl, ha4, hb4⟩
  have H4 := Lib.hid (And.intro (H3.out.below hb4) (ha4.sees (by have := HGD.out.1; omega)))
  clear ha4 hb4 H3 HTO
  have hN : (tpL L d bg).length = (tp L d bg).length := tpL_len L d bg
  obtain ⟨N, hNN⟩ : ∃ N, N = (tp L d bg).length := ⟨_, rfl⟩
  rw [hN, ← hNN]
  have HN := Lib.hid hNN
  have HN2 := Lib.hid hN
  obtain ⟨n, hn⟩ : ∃ n, n = L.length := ⟨_, rfl⟩
  rw [← hn]
  have Hn := Lib.hid hn
  have hn20 : n ≤ 20 := by have := HGD.out.1; omega
  have hNn : N ≤ n := by have := HNL.out; omega
  clear hN hNN hn
  have H0 : Hid (Below w4.heap.size w4 w4 ∧ w4.ownsRow w4.heap.size 9 1 (.slice none 0 0) ((L.take 0).filter (fun l => toldB l d bg)).length (strs ((L.take 0).filter (fun l => toldB l d bg)))) := Lib.hid ⟨Below.refl _ _, World.ownsRow_nil _ _ _ _⟩
  go_wp2
  go_loopw [12, 13] (fun v i wr => ∃ k : Nat, i = .int .i64 (k : Int) ∧ k ≤ n ∧ Hid (Below w4.heap.size w4 wr ∧ wr.ownsRow w4.heap.size 9 1 v ((L.take k).filter (fun l => toldB l d bg)).length (strs ((L.take k).filter (fun l => toldB l d bg))))) (fun _ i _ => n - (intOf i).toNat)
  case atStart => exact ⟨0, rfl, Nat.zero_le _, H0⟩
  case round =>
    clear H0
    obtain ⟨k, rfl, hk, HR⟩ := hrel
    have i1 : (0 : Int) ≤ (k : Int) := by omega
    by_cases hlt : k < n
    · have i2 : (k : Int) < (n : Int) := by omega
      obtain ⟨g, rfl, hg, hget⟩ := H4.out.2.2.2 (by have := Hn.out; omega)
      have ce := (HR.out.1.cell (p := ⟨g, k, none⟩) hg).trans (hget k (by have := Hn.out; omega))
      have HOF := Lib.hid (fun W => wOfR (L.getD k []) d bg W)
      rw [← HDG.out.1, ← HDG.out.2] at HOF
      have HTK : Hid (L.take (k + 1) = L.take k ++ [L.getD k []]) := Lib.hid (by
        have h1 : k < L.length := by have := Hn.out; omega
        rw [List.take_succ_eq_append_getElem h1, List.getD_eq_getElem?_getD, List.getElem?_eq_getElem h1]; rfl)
      obtain ⟨V, hV⟩ : ∃ V, V = toldB (L.getD k []) d bg := ⟨_, rfl⟩
      have HV := Lib.hid hV
      rw [← hV] at HOF
      obtain ⟨X, hX⟩ : ∃ X, X = tx (L.getD k []) := ⟨_, rfl⟩
      have HX := Lib.hid hX
      rw [← hX] at HOF ce
      have hgl : g < wr.heap.size := by have := HR.out.1.size; omega
      clear hget hV hX hg
      cases V
      · have HF : Hid ((L.take (k + 1)).filter (fun l => toldB l d bg) = (L.take k).filter (fun l => toldB l d bg)) := Lib.hid (by rw [HTK.out, List.filter_append, List.filter_cons, if_neg (by rw [← HV.out]; simp)]; simp)
        go_wp2_with (first | (go_at_call 12; (with_reducible refine (HOF.out _).mono ?_); rintro e w' ⟨rfl, rfl⟩))
        go_roundw
        case rel => exact ⟨k + 1, by go_num, by omega, Lib.hid (by rw [HF.out]; exact HR.out)⟩
        case measure => simp [intOf]; omega
      · have HF : Hid ((L.take (k + 1)).filter (fun l => toldB l d bg) = (L.take k).filter (fun l => toldB l d bg) ++ [L.getD k []]) := Lib.hid (by rw [HTK.out, List.filter_append, List.filter_cons, if_pos HV.out.symm]; simp)
        have hfl : ((L.take k).filter (fun l => toldB l d bg)).length ≤ 20 := by
          have := List.length_filter_le (fun l => toldB l d bg) (L.take k)
          simp at this ⊢
          omega
        go_wp2_with (first | (go_at_call 12; (with_reducible refine (HOF.out _).mono ?_); rintro e w' ⟨rfl, rfl⟩) | (at_builtin; go_loud (refine wpList_append_own _ rfl _ _ 22 rfl w4.heap.size 9 i0 (.string ⟨#[]⟩) 1 16 Try.underlying22 HI9.out.1 HI9.out.2.1 HI9.out.2.2.1 HI9.out.2.2.2 rfl (by decide) _ _ _ rfl (HR.out.2.alloc _) ⟨wr.heap.size, 0, none⟩ 1 1 [.string X] rfl rfl (cell_one_new _ _ _) (by simp [Value.oneCell']) (by unfold maxLen; omega) (by omega) (by have := HR.out.1.size; simp; omega) ?_); intro v1 w5 hown1 hgrow1 hnil1; have HO1 := Lib.hid hown1; have HG1 := Lib.hid ((HR.out.1.alloc HR.out.1.size (.cells #[.string X] 9)).grown hgrow1 (by have := HR.out.1.size; simp; omega) (fun j hj => (HR.out.2.lt j hj).1)); clear hown1 hgrow1 hnil1))
        go_roundw
        case rel => exact ⟨k + 1, by go_num, by omega, Lib.hid ⟨HG1.out, by rw [HF.out, strs_app, List.length_append, show strs [L.getD k []] = [.string X] by rw [HX.out]; rfl]; exact HO1.out⟩⟩
        case measure => simp [intOf]; omega
    · obtain rfl : k = n := by omega
      have i2 : ¬ (k : Int) < (k : Int) := by omega
      have hR := HR.out
      rw [List.take_of_length_le (by have := Hn.out; omega), ← tpL_filter, HN2.out, ← HN.out] at hR
      obtain ⟨wy, wc, hwv⟩ := ownsRow_is hR.2
      subst hwv
      have HWR := Lib.hid hR
      have H5 := Lib.hid (H4.out.1.below hR.1)
      clear hR HR H4
      have HSM := Lib.hid (wsame ly wy lc wc (tpL L d bg) wr (H5.out.row.sees (by have := HN2.out; have := HN.out; omega)) (RowL.sees (by unfold RowL; rw [HN2.out, ← HN.out]; exact row_base HWR.out.2) (by have := HN2.out; have := HN.out; omega)))
      rw [HN2.out, ← HN.out] at HSM
      go_wp2_with (first | (go_at_call 13; fail))
      go_at_call 13
      refine HSM.out.mono ?_
      rintro e w6 ⟨rfl, hb6⟩
      have H6 := Lib.hid (H5.out.below hb6)
      clear hb6 H5 HWR HSM
      go_wp2
      have HNW := Lib.hid (fun (j : Nat) (hj : j ≤ N) W (hW : WkI w L d bg j x c ly lc W) => wHnewer w.heap.size 20 (by omega) L (by have := Hn.out; omega) (wkAt L d bg j) (wkAt_ok (by have := HN.out; omega)) x c W hW.his)
      unfold twoE at HNW
      go_loopw [14] (fun i wr => ∃ j : Nat, i = .int .i64 ((j : Int) - 2) ∧ j ≤ N ∧ Hid (j = 0 → N = 0) ∧ Hid (WkI w L d bg j x c ly lc wr)) (fun i _ => (intOf i + 2).toNat)
      case atStart => exact ⟨N, by first | rfl | go_num, Nat.le_refl _, Lib.hid id, Lib.hid (by rw [HN.out]; exact H6.out)⟩
      case round =>
        clear H6
        obtain ⟨j, rfl, hj, HJ, HR⟩ := hrel
        by_cases h2 : 2 ≤ j
        · obtain ⟨q, rfl⟩ : ∃ q, j = q + 2 := ⟨j - 2, by omega⟩
          have eq : ((q + 2 : Nat) : Int) - 2 = (q : Int) := by omega
          rw [eq]
          clear eq
          have HO := Lib.hid (HNW.out (q + 2) hj _ HR.out)
          rw [newer_some (by have := HN.out; omega)] at HO
          simp only at HO
          have i1 : (0 : Int) ≤ (q : Int) := by omega
          have i2 : (q : Int) < (N : Int) := by omega
          obtain ⟨X, hX⟩ : ∃ X, X = tx (L.getD ((tp L d bg).getD q 0) []) := ⟨_, rfl⟩
          have HX := Lib.hid hX
          rw [← hX] at HO
          clear hX h2
          go_wp2_with (first | (go_at_call 14; fail))
          go_at_call 14
          refine HO.out.mono ?_
          rintro e w7 ⟨rfl, hh7, hb7⟩
          have H7 := Lib.hid (HR.out.step hh7 hb7)
          obtain ⟨gl, rfl, hgl, hgc, hget⟩ := H7.out.row.get q (by have := HN2.out; have := HN.out; omega)
          have ce := hget q (by have := HN2.out; have := HN.out; omega)
          have e3 : (tpL L d bg).getD q [] = L.getD ((tp L d bg).getD q 0) [] := by
            have h1 : q < (tp L d bg).length := by have := HN.out; omega
            rw [List.getD_eq_getElem?_getD, tpL, List.getElem?_map, List.getElem?_eq_getElem h1, getD_at h1]
            rfl
          rw [e3, ← HX.out] at ce
          have hq : (X.toList == X.toList) = true := by simp
          clear hget hh7 hb7 e3 hgl hgc
          go_wp2
          go_roundw
          case rel => exact ⟨q + 1, by first | rfl | go_num, by omega, Lib.hid (fun h => by omega), H7⟩
          case measure => simp [intOf] <;> omega
        · have i1 : ¬ (0 : Int) ≤ (j : Int) - 2 := by omega
          have hj1 : j = 0 ∨ j = 1 := by omega
          have HJJ := Lib.hid hj
          clear h2
          have HSAME := Lib.hid (fun W k (hW : His W w.heap.size (20 : Nat) L k x c) => HSV.out W k x c hW)
          rcases hj1 with rfl | rfl
          · obtain rfl : N = 0 := HJ.out rfl
            have HO1 := Lib.hid (HNW.out 0 (Nat.zero_le _) _ HR.out)
            rw [show newerS L (wkAt L d bg 0) = (Wk.no, [], false) from rfl] at HO1
            simp only at HO1
            have hq2 : (SV.toList == SV.toList) = true := by simp
            clear HSAME
            go_wp2_with (first | (go_at_call 14; fail))
            go_at_call 14
            refine HO1.out.mono ?_
            rintro e w7 ⟨rfl, hh7, hb7⟩
            have H7 := Lib.hid (HR.out.step (k' := 0) hh7 hb7)
            clear hh7 hb7 HO1 HR
            have HO2 := Lib.hid (HNW.out 0 (Nat.zero_le _) _ H7.out)
            rw [show newerS L (wkAt L d bg 0) = (Wk.no, [], false) from rfl] at HO2
            simp only at HO2
            clear HNW
            go_wp2_with (first | (go_at_call 14; fail))
            go_at_call 14
            refine HO2.out.mono ?_
            rintro e w8 ⟨rfl, hh8, hb8⟩
            have H8 := Lib.hid (H7.out.step (k' := 0) hh8 hb8)
            clear hh8 hb8 HO2 H7
            go_wp2_with (first | (go_at_call 9; fail))
            go_at_call 9
            refine (HSV.out _ _ _ _ H8.out.his).mono ?_
            rintro e w9 ⟨rfl, hb9⟩
            have H9 := Lib.hid (H8.out.below hb9)
            clear hb9 H8
            go_wp2_with (first | (go_at_call 15; fail))
            go_at_call 15
            refine (wawake _).mono ?_
            rintro e w10 ⟨rfl, hb10⟩
            have H10 := Lib.hid (H9.out.below hb10)
            clear hb10 H9
            go_wp2
            go_ret
            exact ⟨rfl, H10.out.bel⟩
          · have HO1 := Lib.hid (HNW.out 1 hj _ HR.out)
            rw [newer_draft (by have := HN.out; omega)] at HO1
            simp only at HO1
            rw [← HDG.out.1] at HO1
            have hq1 : (D.toList == D.toList) = true := by simp
            have hq2 : (SV.toList == SV.toList) = true := by simp
            have hN1 : (0 : Int) < (N : Int) := by omega
            clear HSAME
            go_wp2_with (first | (go_at_call 14; fail))
            go_at_call 14
            refine HO1.out.mono ?_
            rintro e w7 ⟨rfl, hh7, hb7⟩
            have H7 := Lib.hid (HR.out.step (k' := 0) hh7 hb7)
            clear hh7 hb7 HO1 HR
            have HO2 := Lib.hid (HNW.out 0 (Nat.zero_le _) _ H7.out)
            rw [show newerS L (wkAt L d bg 0) = (Wk.no, [], false) from rfl] at HO2
            simp only at HO2
            clear HNW
            go_wp2_with (first | (go_at_call 14; fail))
            go_at_call 14
            refine HO2.out.mono ?_
            rintro e w8 ⟨rfl, hh8, hb8⟩
            have H8 := Lib.hid (H7.out.step (k' := 0) hh8 hb8)
            clear hh8 hb8 HO2 H7
            go_wp2_with (first | (go_at_call 9; fail))
            go_at_call 9
            refine (HSV.out _ _ _ _ H8.out.his).mono ?_
            rintro e w9 ⟨rfl, hb9⟩
            have H9 := Lib.hid (H8.out.below hb9)
            clear hb9 H8
            go_wp2_with (first | (go_at_call 15; fail))
            go_at_call 15
            refine (wawake _).mono ?_
            rintro e w10 ⟨rfl, hb10⟩
            have H10 := Lib.hid (H9.out.below hb10)
            clear hb10 H9
            go_wp2
            go_ret
            exact ⟨rfl, H10.out.bel⟩
theorem walks_arg (x0 : Option Addr) (n0 c0 : Nat) (ss : List Bs) (s t : ByteArray) (w : World) (hc0 : n0 ≤ c0) (hss : StrsV w x0 n0 ss) : Calls Try.prog 3 #[.slice x0 n0 c0, .string s, .string t] w fun e w' => e = .returned (.bool true) ∧ Below w.heap.size w w' := by
  have h := walks_any x0 n0 c0 ss s.data.toList t.data.toList w hc0 hss
  rw [tx_of, tx_of] at h
  exact h
end Go.Proofs.Ytbaljpamhmbcjaa
