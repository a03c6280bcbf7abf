/- Merged: KE, KF, KG, KH, KI. -/
import Derived.Test.YtbaljpamhmbcjaaGreatKB
/- Walks: Fork, forked, once. -/
namespace Go.Proofs.YtbaljpamhmbcjaaGreat
open Go.RowKit Go.Shelf
end Go.Proofs.YtbaljpamhmbcjaaGreat
/- Walk: shows. -/
namespace Go.Proofs.YtbaljpamhmbcjaaGreat
open Go.RowKit Go.Shelf
theorem SeesL.drewN {w : World} {x : Option Addr} {c : Nat} {L : List Bs} (h : SeesL w x c L) (m : Nat) : SeesL (w.drewN m) x c L := ⟨h.1, h.2.1, fun hp => by
  obtain ⟨g, h1, h2, h3⟩ := h.2.2 hp
  exact ⟨g, h1, h2, fun i hi => by have := h3 i hi; simpa [go_sem] using this⟩⟩
theorem SeesL.take {w : World} {x : Option Addr} {c : Nat} {L : List Bs} (h : SeesL w x c L) (m : Nat) : SeesL w x c (L.take m) := by
  refine ⟨by have := h.1; simp; omega, by have := h.2.1; simp; omega, fun hp => ?_⟩
  obtain ⟨g, h1, h2, h3⟩ := h.2.2 (by simp at hp; omega)
  refine ⟨g, h1, h2, fun i hi => ?_⟩
  rw [h3 i (by simp at hi; omega), List.getD_eq_getElem?_getD, List.getD_eq_getElem?_getD, List.getElem?_take_of_lt (by simp at hi; omega)]
set_option maxHeartbeats 1000000 in
theorem wsame2 (x y : Option Addr) (c d : Nat) (L : List Bs) (w : World) (hx : SeesL w x c L) (hy : SeesL w y d L) : Calls Tryz.prog 28 #[.slice x L.length c, .slice y L.length d] w fun e w' => e = .returned (.bool true) ∧ ∃ m, w' = w.drewN m := by
  have HX := Lib.hid hx
  have HY := Lib.hid hy
  have hm := hx.2.1
  obtain ⟨n, hn⟩ : ∃ n, n = L.length := ⟨_, rfl⟩
  rw [← hn] at hm ⊢
  have HN := Lib.hid hn
  clear hx hy hn
  go_enter Tryz.func28, Tryz.ntmps28
  go_wp2
  go_loopw [5] (fun i wr => ∃ k : Nat, k ≤ n ∧ i = .int .i64 (k : Int) ∧ Hid (∃ m, wr = w.drewN m)) (fun i _ => n - (intOf i).toNat)
  case atStart => exact ⟨0, by omega, rfl, Lib.hid ⟨0, rfl⟩⟩
  case round =>
    obtain ⟨k, hk, rfl, HW⟩ := hrel
    by_cases hlt : k < n
    · obtain ⟨g, rfl, _, hg⟩ := HX.out.2.2 (by have := HN.out; omega)
      obtain ⟨g2, rfl, _, hg2⟩ := HY.out.2.2 (by have := HN.out; omega)
      have ce : wr.cell? ⟨g, k, none⟩ = some (.string (tx (L.getD k []))) := by
        obtain ⟨m, rfl⟩ := HW.out
        have := hg k (by have := HN.out; omega)
        simpa [go_sem] using this
      have ce2 : wr.cell? ⟨g2, k, none⟩ = some (.string (tx (L.getD k []))) := by
        obtain ⟨m, rfl⟩ := HW.out
        have := hg2 k (by have := HN.out; omega)
        simpa [go_sem] using this
      obtain ⟨X, hX⟩ : ∃ X, X = tx (L.getD k []) := ⟨_, rfl⟩
      rw [← hX] at ce ce2
      have i1 : (0 : Int) ≤ (k : Int) := by omega
      have i2 : (k : Int) < (n : Int) := by omega
      clear hg hg2 hX
      go_wp2
      go_quiet (fail)
      go_wp2
      go_roundw
      case rel =>
        obtain ⟨m, rfl⟩ := HW.out
        exact ⟨k + 1, by omega, by go_num, Lib.hid ⟨m + nq, World.drewN_drewN _ _ _⟩⟩
      case measure => simp [intOf]; omega
    · go_wp2
      go_ret
      exact ⟨rfl, HW.out⟩
theorem quiet_more {P : Program} {f : FuncId} {args : Array Value} {w : World} {n : Nat} {v : Value}
    (h : Calls P f args (w.drewN n) fun e w' => e = .returned v ∧ ∃ m, w' = (w.drewN n).drewN m) : Calls P f args (w.drewN n) fun e w'' => e = .returned v ∧ ∃ m, w'' = w.drewN m :=
  h.mono fun _ _ ⟨he, m, hm⟩ => ⟨he, n + m, hm.trans (World.drewN_drewN _ _ _)⟩
theorem His.drewN {W : World} {b : Nat} {m : Int} {L : List Bs} {k : Wk} {x : Option Addr} {c : Nat} (h : His W b m L k x c) (n : Nat) : His (W.drewN n) b m L k x c := h.below (below_drewN (Below.refl _ _) n)
set_option maxRecDepth 100000 in
set_option maxHeartbeats 1000000 in
theorem wshows (b : Nat) (m : Int) (hm : 0 < m) (L : List Bs) (hL : L.length ≤ 256) (k : Wk) (xb : Option Addr) (cb : Nat) (x : Option Addr) (c : Nat) (mo : Int) (kk : Wk) (i : Int) (stop : Nat) (hst : stop ≤ 255) (w : World) (h : His w b m L k xb cb) (hs : SeesL w x c L) :
    Calls Tryz.prog 7 #[.pointer (some ⟨b, 0, none⟩), rV mo x L.length c kk, .int .i64 i, .int .i64 (stop : Int)] w fun e w' => e = .returned (.bool true) ∧ Below w.heap.size w w' := by
  have HH := Lib.hid (And.intro h hs)
  have HLN := Lib.hid (fun W (hW : His W b m L k xb cb) => wHline b m hm L k xb cb i W hW)
  have HRL := Lib.hid (fun W hW => rLine mo x L c kk i W hW)
  have HT1 := Lib.hid (fun W (hW : His W b m L k xb cb) => wHtold b m hm L (by omega) k xb cb 1000 (by omega) W hW)
  have HT2 := Lib.hid (fun W (hW : His W b m L k xb cb) => wHtold b m hm L (by omega) k xb cb stop (by omega) W hW)
  have HLE := Lib.hid (fun W (hW : His W b m L k xb cb) => wHlen b m hm L k xb cb W hW)
  unfold ToldH at HT1 HT2
  rw [List.take_of_length_le (show L.length ≤ 1000 by omega)] at HT1
  rw [show ((1000 : Nat) : Int) = 1000 from rfl] at HT1
  unfold twoE at HLN HRL
  obtain ⟨X, hX⟩ : ∃ X, X = tx (lineS L i).1 := ⟨_, rfl⟩
  obtain ⟨V, hV⟩ : ∃ X, X = (lineS L i).2 := ⟨_, rfl⟩
  rw [← hX, ← hV] at HLN HRL
  obtain ⟨ko, kd, kg, ka⟩ := kk
  have hkv : rV mo x L.length c ⟨ko, kd, kg, ka⟩ = .agg #[.int .i64 mo, .slice x L.length c, .bool ko, .string (tx kd), .string (tx kg), .int .i64 ka] := rfl
  rw [hkv] at HRL ⊢
  clear hkv
  have HS1 := Lib.hid (fun W y d (h1 : SeesL W y d L) (h2 : SeesL W x c L) => wsame2 y x d c L W h1 h2)
  have HS2 := Lib.hid (fun W y d (h1 : SeesL W y d (L.take stop)) (h2 : SeesL W x c (L.take stop)) => wsame2 y x d c (L.take stop) W h1 h2)
  obtain ⟨q, hq⟩ : ∃ q, q = (L.take stop).length := ⟨_, rfl⟩
  have hq2 : q = min stop L.length := by rw [hq]; simp
  have hcl := hs.1
  rw [← hq] at HT2 HS2
  obtain ⟨n, hn⟩ : ∃ n, n = L.length := ⟨_, rfl⟩
  have HN := Lib.hid hn
  rw [← hn] at HRL HT1 HLE HS1 hq2 hL hcl ⊢
  have hmin : min (n : Int) (stop : Int) = (q : Int) := by omega
  have hqn : q ≤ n := by omega
  have hqc : q ≤ c := by omega
  obtain ⟨D, hD⟩ : ∃ D, D = tx kd := ⟨_, rfl⟩
  obtain ⟨G, hG⟩ : ∃ D, D = tx kg := ⟨_, rfl⟩
  rw [← hD, ← hG] at HRL ⊢
  have hba := (Below.refl w.heap.size w).alloc (Nat.le_refl _) (.cells #[.int .i64 mo, .slice x n c, .bool ko, .string D, .string G, .int .i64 ka] 28)
  have H0 : Hid (His (w.alloc (.cells #[.int .i64 mo, .slice x n c, .bool ko, .string D, .string G, .int .i64 ka] 28)) b m L k xb cb ∧ SeesL (w.alloc (.cells #[.int .i64 mo, .slice x n c, .bool ko, .string D, .string G, .int .i64 ka] 28)) x c L ∧ (w.alloc (.cells #[.int .i64 mo, .slice x n c, .bool ko, .string D, .string G, .int .i64 ka] 28)).heap[w.heap.size]? = some (.cells #[.int .i64 mo, .slice x n c, .bool ko, .string D, .string G, .int .i64 ka] 28 (0, 0)) ∧ Below w.heap.size w (w.alloc (.cells #[.int .i64 mo, .slice x n c, .bool ko, .string D, .string G, .int .i64 ka] 28))) := Lib.hid ⟨h.below hba, hs.below hba, heap_alloc_new _ _, hba⟩
  clear h hs hm hX hV hD hG hq hn hba hst HH hq2
  go_enter Tryz.func7, Tryz.ntmps7
  go_wp2_with (first | (go_at_call 25; fail))
  obtain ⟨W0, hW0⟩ : ∃ W0, W0 = w.alloc (.cells #[.int .i64 mo, .slice x n c, .bool ko, .string D, .string G, .int .i64 ka] 28) := ⟨_, rfl⟩
  rw [← hW0] at H0 ⊢
  clear hW0
  obtain ⟨c0, c1, c2, c3, c4, c5, -⟩ := cells6 H0.out.2.2.1
  go_at_call 25
  refine (HLN.out _ H0.out.1).mono ?_
  rintro e w' ⟨rfl, rfl⟩
  go_wp2_with (first | (go_at_call 26; fail))
  go_at_call 26
  refine (HRL.out _ H0.out.2.1).mono ?_
  rintro e w2 ⟨rfl, hb2⟩
  have H2 : Hid (His w2 b m L k xb cb ∧ SeesL w2 x c L ∧ w2.heap[w.heap.size]? = some (.cells #[.int .i64 mo, .slice x n c, .bool ko, .string D, .string G, .int .i64 ka] 28 (0, 0)) ∧ Below w.heap.size w w2) := Lib.hid ⟨H0.out.1.below hb2, H0.out.2.1.below hb2, (hb2.block _ (Array.getElem?_eq_some_iff.1 H0.out.2.2.1).1).trans H0.out.2.2.1, H0.out.2.2.2.trans (below_le hb2 H0.out.2.2.2.size)⟩
  clear hb2 H0 c0 c1 c2 c3 c4 c5 HLN HRL
  go_wp2_with (first | (go_at_call 27; fail))
  go_at_call 27
  refine (HT1.out _ H2.out.1).mono ?_
  rintro e w3 ⟨ly, lc, rfl, hl3, hb3⟩
  have H3 : Hid (His w3 b m L k xb cb ∧ SeesL w3 x c L ∧ w3.heap[w.heap.size]? = some (.cells #[.int .i64 mo, .slice x n c, .bool ko, .string D, .string G, .int .i64 ka] 28 (0, 0)) ∧ Below w.heap.size w w3 ∧ SeesL w3 ly lc L) := Lib.hid ⟨H2.out.1.below hb3, H2.out.2.1.below hb3, (hb3.block _ (Array.getElem?_eq_some_iff.1 H2.out.2.2.1).1).trans H2.out.2.2.1, H2.out.2.2.2.trans (below_le hb3 H2.out.2.2.2.size), hl3.sees (by have := HN.out; omega)⟩
  clear hb3 hl3 H2 HT1
  go_wp2_with (first | (go_at_call 27; fail))
  go_at_call 27
  refine (HT2.out _ H3.out.1).mono ?_
  rintro e w4 ⟨my, mc, rfl, hl4, hb4⟩
  have H4 : Hid (His w4 b m L k xb cb ∧ SeesL w4 x c L ∧ w4.heap[w.heap.size]? = some (.cells #[.int .i64 mo, .slice x n c, .bool ko, .string D, .string G, .int .i64 ka] 28 (0, 0)) ∧ Below w.heap.size w w4 ∧ SeesL w4 ly lc L ∧ SeesL w4 my mc (L.take stop)) := Lib.hid ⟨H3.out.1.below hb4, H3.out.2.1.below hb4, (hb4.block _ (Array.getElem?_eq_some_iff.1 H3.out.2.2.1).1).trans H3.out.2.2.1, H3.out.2.2.2.1.trans (below_le hb4 H3.out.2.2.2.1.size), H3.out.2.2.2.2.below hb4, hl4.sees (by have := HN.out; simp; omega)⟩
  clear hb4 hl4 H3 HT2
  obtain ⟨-, c1, -⟩ := cells6 H4.out.2.2.1
  have hqx : (X.toList == X.toList) = true := by simp
  have HQ1 := Lib.hid (fun j => quiet_more (HS1.out (w4.drewN j) ly lc (H4.out.2.2.2.2.1.drewN j) (H4.out.2.1.drewN j)))
  have HQ2 := Lib.hid (fun j => quiet_more (HS2.out (w4.drewN j) my mc (H4.out.2.2.2.2.2.drewN j) ((H4.out.2.1.take stop).drewN j)))
  have HQ3 := Lib.hid (fun j => quiet_sym (HLE.out (w4.drewN j) (H4.out.1.drewN j)))
  have HBL := Lib.hid H4.out.2.2.2.1
  clear HS1 HS2 HLE H4
  go_wp2
  cases V
  · go_quiet ((first | (go_at_call 28; first | with_reducible exact HQ1.out _ | with_reducible exact HQ2.out _) | (go_at_call 10; with_reducible exact HQ3.out _)))
    go_wp2
    go_ret
    exact ⟨rfl, below_drewN HBL.out _⟩
  · go_quiet ((first | (go_at_call 28; first | with_reducible exact HQ1.out _ | with_reducible exact HQ2.out _) | (go_at_call 10; with_reducible exact HQ3.out _)))
    go_wp2
    go_ret
    exact ⟨rfl, below_drewN HBL.out _⟩
end Go.Proofs.YtbaljpamhmbcjaaGreat
/- Walk: step, but for Older and Add. -/
namespace Go.Proofs.YtbaljpamhmbcjaaGreat
open Go.RowKit Go.Shelf
theorem SeesL.but {W W' : World} {y : Option Addr} {cap : Nat} {R L : List Bs} {b : Nat} {m : Int} {k : Wk} {x : Option Addr} {c : Nat} (h : SeesL W y cap R) (hh : His W b m L k x c) (hb : But [b] W W') : SeesL W' y cap R := ⟨h.1, h.2.1, fun hp => by
  obtain ⟨g, h1, h2, h3⟩ := h.2.2 hp
  have hne : g ≠ b := fun e => by
    have h4 := h3 0 hp
    rw [e, hh.cells.1] at h4
    cases h4
  exact ⟨g, h1, Nat.lt_of_lt_of_le h2 hb.size, fun i hi => (World.cell?_of_block (a := ⟨g, i, none⟩) (hb.block g h2 (by simpa using hne))).trans (h3 i hi)⟩⟩
end Go.Proofs.YtbaljpamhmbcjaaGreat
/- Walk: step at Newer. -/
namespace Go.Proofs.YtbaljpamhmbcjaaGreat
open Go.RowKit Go.Shelf
end Go.Proofs.YtbaljpamhmbcjaaGreat
/- Walk: step at Leave. -/
namespace Go.Proofs.YtbaljpamhmbcjaaGreat
open Go.RowKit Go.Shelf
end Go.Proofs.YtbaljpamhmbcjaaGreat
