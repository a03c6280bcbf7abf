/- Walk: the law HistorySaves. -/
import Derived.Test.YtbaljpamhmbcjaaGreatL9
import Derived.Shelf.Vars
import Derived.HandedShaped
namespace Go.Proofs.YtbaljpamhmbcjaaGreat
open Go.RowKit Go.Shelf Go.Lib
theorem maxLn_of {w : World} (h : w.ShapedOpen Tryz.prog) : MaxLn w :=
  Go.Proofs.cell_of_shapedOpen_int (zero := #[.int .i64 0]) (t := 3) h (of_decide_eq_true (by kernel_rfl)) (by kernel_rfl) rfl (by kernel_rfl) (by kernel_rfl) Tryz.underlying3
theorem StrsV.below {w w' : World} {x : Option Addr} {n : Nat} {ss : List Bs} (h : StrsV w x n ss) (hb : Below w.heap.size w w') : StrsV w' x n ss :=
  ⟨h.1, h.2.1, fun hp => by
    obtain ⟨b, off, h1, h2, h3⟩ := h.2.2 hp
    exact ⟨b, off, h1, Nat.lt_of_lt_of_le h2 hb.size, fun i hi => (hb.cell (p := ⟨b, off + i, none⟩) h2).trans (h3 i hi)⟩⟩
theorem wLoad_any (m : Int) (s : Bs) (hs : s.length ≤ 800000) (hn : (splitL s).1.length ≤ 1000) (w : World) (hM : MaxLn w) : Calls Tryz.prog 4 #[.int .i64 m, .string (tx s)] w (LoadEnd m s w) := by
  by_cases hm : m < 1 ∨ 256 < m
  · exact wLoad_no m hm s w
  · by_cases ht : (splitL s).2 = []
    · exact wLoad_ok m (by omega) (by omega) s hs hn ht w hM
    · exact wLoad_tail m (by omega) (by omega) s hs ht w
theorem rLoad_any (m : Int) (s : Bs) (hs : s.length ≤ 800000) (hn : (splitL s).1.length ≤ 1000) (w : World) : Calls Tryz.prog 5 #[.int .i64 m, .string (tx s)] w (RLoadEnd m s w) := by
  by_cases hm : m < 1 ∨ 256 < m
  · exact rLoad_no m hm s w
  · exact rLoad_ok m (by omega) (by omega) s hs hn w
/-- What stands behind the first comparison. -/
structure SvI (w : World) (x : Option Addr) (n : Nat) (ss : List Bs) (W : World) : Prop where
  strs : StrsV W x n ss
  ml : MaxLn W
  bel : Below w.heap.size w W
theorem SvI.below {w W W' : World} {x : Option Addr} {n : Nat} {ss : List Bs} (h : SvI w x n ss W) (h0 : 0 < w.heap.size) (hb : Below W.heap.size W W') : SvI w x n ss W' :=
  ⟨h.strs.below hb, h.ml.kept (by have := h.bel.size; omega) hb, h.bel.trans (below_le hb h.bel.size)⟩
set_option maxRecDepth 100000 in
set_option maxHeartbeats 4000000 in
theorem saves_any (m : Int) (s : Bs) (x0 : Option Addr) (n0 c0 : Nat) (ss : List Bs) (w : World) (hc0 : n0 ≤ c0) (hss : StrsV w x0 n0 ss) (hml : MaxLn w) : Calls Tryz.prog 3 #[.int .i64 m, .string (tx s), .slice x0 n0 c0] w fun e w' => e = .returned (.bool true) ∧ Below w.heap.size w w' := by
  have HI0 : Hid (SvI w x0 n0 ss w) := Lib.hid ⟨hss, hml, Below.refl _ _⟩
  have H0L := Lib.hid hml.lt
  obtain ⟨t, ht⟩ : ∃ t, t = s.take 200 := ⟨_, rfl⟩
  have htl : t.length ≤ 200 := by rw [ht]; simp; omega
  have HSP := splitL_len t
  have HLD := Lib.hid (fun W (hW : MaxLn W) => wLoad_any m t (by omega) (by omega) W hW)
  have HRL := Lib.hid (fun W => rLoad_any m t (by omega) (by omega) W)
  have HLB := Lib.hid (fun h => load_back (m := m) (s := t) h)
  have HTL : Hid (t.length ≤ 200 ∧ ∀ l ∈ (splitL t).1.reverse, l.length ≤ 4000) := Lib.hid ⟨htl, fun l hl => by have := HSP.2.2.2 l (List.mem_reverse.1 hl); omega⟩
  have HAW := Lib.hid wawake
  have HFI := Lib.hid (fun W (hW : StrsV W x0 n0 ss) => wfilled 40 (by omega) (by omega) x0 n0 c0 hc0 ss W hW)
  have hG : GoodL 40 (fillS 40 ss) := fillN_good 40 ss _ (Nat.min_le_left _ _)
  have hMy : ∀ l ∈ fillS 40 ss, mayS l = true := fillN_may 40 ss _ (Nat.min_le_left _ _)
  obtain ⟨L, hL⟩ : ∃ L, L = fillS 40 ss := ⟨_, rfl⟩
  rw [← hL] at HFI hG hMy
  have HGD := Lib.hid hG
  have HSV := Lib.hid (fun W b x c (hW : His W b (40 : Nat) L Wk.no x c) => wHsave b (40 : Nat) (by omega) L (by have := hG.1; omega) hG.2.1 Wk.no x c W hW)
  have HLN := Lib.hid (fun W b x c (hW : His W b (40 : Nat) L Wk.no x c) => wHlen b (40 : Nat) (by omega) L Wk.no x c W hW)
  have HLD2 : Hid (∀ W, MaxLn W → Calls Tryz.prog 4 #[.int .i64 (40 : Nat), .string (tx (saveS L))] W fun e w' => Below W.heap.size W w' ∧ ∃ x c, e = .returned (.tuple #[.pointer (some ⟨W.heap.size, 0, none⟩), .int .i64 0]) ∧ His w' W.heap.size (40 : Nat) L Wk.no x c) := Lib.hid (fun W hW => by
    have h1 := hG.1
    have h2 := save_split hMy
    have h3 := saveN_len hG.2.1 (List.range L.length)
    have h4 : (saveS L).length ≤ 800000 := by
      have h5 : (List.range L.length).length * (4000 + 1) ≤ 40 * (4000 + 1) := Nat.mul_le_mul (by simpa using h1) (Nat.le_refl _)
      unfold saveS
      omega
    refine (wLoad_any (40 : Nat) (saveS L) h4 (by rw [h2]; simp; omega) W hW).mono ?_
    rintro e w' ⟨hb, ⟨h5, _⟩ | ⟨_, x, c, rfl, hh⟩⟩
    · exact absurd (loadE_save (by omega) (by omega) hMy hG) h5
    · rw [h2, List.reverse_reverse] at hh
      exact ⟨hb, x, c, rfl, hh⟩)
  rw [show ((40 : Nat) : Int) = 40 from rfl] at HFI HSV HLN HLD2
  obtain ⟨S, hS⟩ : ∃ S, S = tx s := ⟨_, rfl⟩
  obtain ⟨T, hT⟩ : ∃ T, T = tx t := ⟨_, rfl⟩
  have hfront : (¬ (200 : Int) < (S.size : Int) ∧ T = S) ∨ ((200 : Int) < (S.size : Int) ∧ 200 < S.size ∧ S.extract 0 200 = T) := by
    by_cases h : 200 < s.length
    · right
      rw [hS, tx_size]
      exact ⟨by omega, h, by rw [hT, ht, tx_extract]; simp⟩
    · left
      rw [hS, tx_size]
      exact ⟨by omega, by rw [hT, ht, List.take_of_length_le (by omega)]⟩
  rw [← hS]
  rw [← hT] at HLD HRL
  have HT := Lib.hid hT
  clear hS hT ht hG hMy hL HSP htl hss hml
  rcases hfront with ⟨f1, rfl⟩ | ⟨f1, f2, f3⟩
  all_goals
    go_enter Tryz.func3, Tryz.ntmps3
    go_wp2_with (first | (go_at_call 4; fail))
    go_at_call 4
    refine (HLD.out _ HI0.out.ml).mono ?_
    rintro e w1 ⟨hb1, hcase⟩
    have HI1 := Lib.hid (HI0.out.below H0L.out hb1)
    rcases hcase with ⟨hk, rfl⟩ | ⟨hk, x, c, rfl, hh⟩
    · obtain ⟨k, hkk⟩ : ∃ k, k = loadE m t := ⟨_, rfl⟩
      rw [← hkk] at hk ⊢
      have HK := Lib.hid hkk
      have HK0 := Lib.hid hk
      have b1 : (k == (0 : Int)) = false := by rw [beq_eq_false_iff_ne]; exact hk
      clear hkk hk hb1
      go_wp2_with (first | (go_at_call 5; fail))
      go_at_call 5
      refine (HRL.out _).mono ?_
      rintro e w2 ⟨hb2, hcase⟩
      rcases hcase with ⟨_, rfl⟩ | ⟨hk2, _⟩
      · have HI2 := Lib.hid (HI1.out.below H0L.out hb2)
        rw [← HK.out]
        have HZ : Hid (rV 0 none 0 0 Wk.no = .agg #[.int .i64 0, .slice none 0 0, .bool false, .string ⟨#[]⟩, .string ⟨#[]⟩, .int .i64 0]) := Lib.hid rfl
        rw [HZ.out]
        clear hb2
        go_wp2_with (first | (go_at_call 6; fail))
        go_at_call 6
        refine (HAW.out _).mono ?_
        rintro e w3 ⟨rfl, hb3⟩
        have HI3 := Lib.hid ((HI2.out.below H0L.out ((Below.refl _ _).alloc (Nat.le_refl _) (.cells #[.int .i64 0, .slice none 0 0, .bool false, .string ⟨#[]⟩, .string ⟨#[]⟩, .int .i64 0] 28))).below H0L.out hb3)
        clear hb3 HI1 HI2
        go_wp2_with (first | (go_at_call 9; fail))
        go_at_call 9
        refine (HFI.out _ HI3.out.strs).mono ?_
        rintro e w4 ⟨rfl, ⟨y4, d4, hg4⟩, hb4⟩
        have HI4 := Lib.hid (HI3.out.below H0L.out hb4)
        obtain ⟨q, hq⟩ : ∃ q, q = w3.heap.size := ⟨_, rfl⟩
        rw [← hq] at hg4 ⊢
        have HG4 := Lib.hid hg4
        clear hg4 hb4 hq HI3
        go_wp2_with (first | (go_at_call 8; fail))
        go_at_call 8
        refine (HSV.out _ _ _ _ HG4.out).mono ?_
        rintro e w5 ⟨rfl, hb5⟩
        have HI5 := Lib.hid (HI4.out.below H0L.out hb5)
        have HG5 := Lib.hid (HG4.out.below hb5)
        clear hb5 HI4 HG4
        go_wp2_with (first | (go_at_call 4; fail))
        go_at_call 4
        refine (HLD2.out _ HI5.out.ml).mono ?_
        rintro e w6 ⟨hb6, x6, c6, rfl, hh6⟩
        have HI6 := Lib.hid (HI5.out.below H0L.out hb6)
        have HG6 := Lib.hid (HG5.out.below hb6)
        obtain ⟨q6, hq6⟩ : ∃ q, q = w5.heap.size := ⟨_, rfl⟩
        rw [← hq6] at hh6 ⊢
        have HA6 := Lib.hid hh6
        clear hb6 hh6 hq6 HI5 HG5
        go_wp2_with (first | (go_at_call 8; fail))
        go_at_call 8
        refine (HSV.out _ _ _ _ HA6.out).mono ?_
        rintro e w7 ⟨rfl, hb7⟩
        have HI7 := Lib.hid (HI6.out.below H0L.out hb7)
        have HG7 := Lib.hid (HG6.out.below hb7)
        have HA7 := Lib.hid (HA6.out.below hb7)
        clear hb7 HI6 HG6 HA6
        go_wp2_with (first | (go_at_call 8; fail))
        go_at_call 8
        refine (HSV.out _ _ _ _ HG7.out).mono ?_
        rintro e w8 ⟨rfl, hb8⟩
        have HI8 := Lib.hid (HI7.out.below H0L.out hb8)
        have HG8 := Lib.hid (HG7.out.below hb8)
        have HA8 := Lib.hid (HA7.out.below hb8)
        clear hb8 HI7 HG7 HA7
        obtain ⟨Y, hY⟩ : ∃ Y, Y = tx (saveS L) := ⟨_, rfl⟩
        rw [← hY]
        have hqy : (Y.toList == Y.toList) = true := by simp
        clear hY
        go_wp2_with (first | (go_at_call 10; fail))
        go_at_call 10
        refine (HLN.out _ _ _ _ HA8.out).mono ?_
        rintro e w9 ⟨rfl, rfl⟩
        go_wp2_with (first | (go_at_call 10; fail))
        go_at_call 10
        refine (HLN.out _ _ _ _ HG8.out).mono ?_
        rintro e w9 ⟨rfl, rfl⟩
        go_wp2
        go_ret
        exact ⟨rfl, HI8.out.bel⟩
      · rw [← HK.out] at hk2; exact absurd hk2 HK0.out
    · have HLK := Lib.hid (HLB.out hk)
      have HK := Lib.hid hk
      have HH1 := Lib.hid hh
      obtain ⟨q1, hq1⟩ : ∃ q, q = w.heap.size := ⟨_, rfl⟩
      rw [← hq1] at HH1 ⊢
      have HQ1 := Lib.hid hq1
      clear hk hh hb1 hq1
      go_wp2_with (first | (go_at_call 5; fail))
      go_at_call 5
      refine (HRL.out _).mono ?_
      rintro e w2 ⟨hb2, hcase⟩
      rcases hcase with ⟨hk2, _⟩ | ⟨_, x2, c2, rfl, hs2⟩
      · exact absurd HK.out hk2
      · have HI2 := Lib.hid (HI1.out.below H0L.out hb2)
        have HH2 := Lib.hid (And.intro (HH1.out.below hb2) hs2)
        obtain ⟨R, hR⟩ : ∃ R, R = (splitL t).1.reverse := ⟨_, rfl⟩
        have HSH : Hid (∀ W, His W q1 m R Wk.no x c → SeesL W x2 c2 R → Calls Tryz.prog 7 #[.pointer (some ⟨q1, 0, none⟩), rV m x2 R.length c2 Wk.no, .int .i64 0, .int .i64 ((3 : Nat) : Int)] W fun e w' => e = .returned (.bool true) ∧ Below W.heap.size W w') := Lib.hid (fun W h1 h2 => wshows q1 m (by have := HLK.out.2.2.1; omega) R (by have := HLK.out.2.1; have := HLK.out.2.2.2.1; rw [hR]; simp; omega) Wk.no x c x2 c2 m Wk.no 0 3 (by omega) W h1 h2)
        have HSS : Hid (∀ W, His W q1 m R Wk.no x c → Calls Tryz.prog 8 #[.pointer (some ⟨q1, 0, none⟩)] W fun e w' => e = .returned (.string T) ∧ Below W.heap.size W w') := Lib.hid (fun W h1 => by
          have h3 := wHsave q1 m (by have := HLK.out.2.2.1; omega) R (by have := HLK.out.2.1; have := HLK.out.2.2.2.1; rw [hR]; simp; omega) (by rw [hR]; exact HTL.out.2) Wk.no x c W h1
          rw [hR, HLK.out.2.2.2.2, ← HT.out] at h3
          exact h3)
        rw [← hR] at HH2 ⊢
        obtain ⟨N, hN⟩ : ∃ N, N = R.length := ⟨_, rfl⟩
        rw [← hN] at HSH ⊢
        have HZ : Hid (rV m x2 N c2 Wk.no = .agg #[.int .i64 m, .slice x2 N c2, .bool false, .string ⟨#[]⟩, .string ⟨#[]⟩, .int .i64 0]) := Lib.hid rfl
        rw [HZ.out] at HSH ⊢
        rw [show ((3 : Nat) : Int) = 3 from rfl] at HSH
        clear hb2 hs2 hN hR
        go_wp2_with (first | (go_at_call 6; fail))
        go_at_call 6
        refine (HAW.out _).mono ?_
        rintro e w3a ⟨rfl, hb3⟩
        have hal : Below w2.heap.size w2 (w2.alloc (.cells #[.int .i64 m, .slice x2 N c2, .bool false, .string ⟨#[]⟩, .string ⟨#[]⟩, .int .i64 0] 28)) := (Below.refl _ _).alloc (Nat.le_refl _) _
        have HI3a := Lib.hid ((HI2.out.below H0L.out hal).below H0L.out hb3)
        have HH3 := Lib.hid (And.intro ((HH2.out.1.below hal).below hb3) ((HH2.out.2.below hal).below hb3))
        obtain ⟨z0, z1, z2, z3, z4, z5, -⟩ := cells6 ((hb3.block _ (by simp)).trans (heap_alloc_new w2 (.cells #[.int .i64 m, .slice x2 N c2, .bool false, .string ⟨#[]⟩, .string ⟨#[]⟩, .int .i64 0] 28)))
        clear hb3 hal HI1 HI2 HH1 HH2
        go_wp2_with (first | (go_at_call 7; fail))
        go_at_call 7
        refine (HSH.out _ HH3.out.1 HH3.out.2).mono ?_
        rintro e w3b ⟨rfl, hb3⟩
        have HI3b := Lib.hid (HI3a.out.below H0L.out hb3)
        have HH3b := Lib.hid (HH3.out.1.below hb3)
        clear hb3 HI3a HH3 z0 z1 z2 z3 z4 z5
        go_wp2_with (first | (go_at_call 8; fail))
        go_at_call 8
        refine (HSS.out _ HH3b.out).mono ?_
        rintro e w3 ⟨rfl, hb3⟩
        have HI3 := Lib.hid (HI3b.out.below H0L.out hb3)
        have hqt : (T.toList == T.toList) = true := by simp
        clear hb3 HI3b HH3b
        go_wp2_with (first | (go_at_call 9; fail))
        go_at_call 9
        refine (HFI.out _ HI3.out.strs).mono ?_
        rintro e w4 ⟨rfl, ⟨y4, d4, hg4⟩, hb4⟩
        have HI4 := Lib.hid (HI3.out.below H0L.out hb4)
        obtain ⟨q, hq⟩ : ∃ q, q = w3.heap.size := ⟨_, rfl⟩
        rw [← hq] at hg4 ⊢
        have HG4 := Lib.hid hg4
        clear hg4 hb4 hq HI3
        go_wp2_with (first | (go_at_call 8; fail))
        go_at_call 8
        refine (HSV.out _ _ _ _ HG4.out).mono ?_
        rintro e w5 ⟨rfl, hb5⟩
        have HI5 := Lib.hid (HI4.out.below H0L.out hb5)
        have HG5 := Lib.hid (HG4.out.below hb5)
        clear hb5 HI4 HG4
        go_wp2_with (first | (go_at_call 4; fail))
        go_at_call 4
        refine (HLD2.out _ HI5.out.ml).mono ?_
        rintro e w6 ⟨hb6, x6, c6, rfl, hh6⟩
        have HI6 := Lib.hid (HI5.out.below H0L.out hb6)
        have HG6 := Lib.hid (HG5.out.below hb6)
        obtain ⟨q6, hq6⟩ : ∃ q, q = w5.heap.size := ⟨_, rfl⟩
        rw [← hq6] at hh6 ⊢
        have HA6 := Lib.hid hh6
        clear hb6 hh6 hq6 HI5 HG5
        go_wp2_with (first | (go_at_call 8; fail))
        go_at_call 8
        refine (HSV.out _ _ _ _ HA6.out).mono ?_
        rintro e w7 ⟨rfl, hb7⟩
        have HI7 := Lib.hid (HI6.out.below H0L.out hb7)
        have HG7 := Lib.hid (HG6.out.below hb7)
        have HA7 := Lib.hid (HA6.out.below hb7)
        clear hb7 HI6 HG6 HA6
        go_wp2_with (first | (go_at_call 8; fail))
        go_at_call 8
        refine (HSV.out _ _ _ _ HG7.out).mono ?_
        rintro e w8 ⟨rfl, hb8⟩
        have HI8 := Lib.hid (HI7.out.below H0L.out hb8)
        have HG8 := Lib.hid (HG7.out.below hb8)
        have HA8 := Lib.hid (HA7.out.below hb8)
        clear hb8 HI7 HG7 HA7
        obtain ⟨Y, hY⟩ : ∃ Y, Y = tx (saveS L) := ⟨_, rfl⟩
        rw [← hY]
        have hqy : (Y.toList == Y.toList) = true := by simp
        clear hY
        go_wp2_with (first | (go_at_call 10; fail))
        go_at_call 10
        refine (HLN.out _ _ _ _ HA8.out).mono ?_
        rintro e w9 ⟨rfl, rfl⟩
        go_wp2_with (first | (go_at_call 10; fail))
        go_at_call 10
        refine (HLN.out _ _ _ _ HG8.out).mono ?_
        rintro e w9 ⟨rfl, rfl⟩
        go_wp2
        go_ret
        exact ⟨rfl, HI8.out.bel⟩
theorem saves_arg (m : Int) (s : ByteArray) (x0 : Option Addr) (n0 c0 : Nat) (ss : List Bs) (w : World) (hc0 : n0 ≤ c0) (hss : StrsV w x0 n0 ss) (hml : MaxLn w) : Calls Tryz.prog 3 #[.int .i64 m, .string s, .slice x0 n0 c0] w fun e w' => e = .returned (.bool true) ∧ Below w.heap.size w w' := by
  have h := saves_any m s.data.toList x0 n0 c0 ss w hc0 hss hml
  rw [tx_of] at h
  exact h
end Go.Proofs.YtbaljpamhmbcjaaGreat
