/- Merged: KE, KF, KG, KH, KI. -/
import Derived.Test.YtbaljpamhmbcjaaKD
/- Walks: Fork, forked, once. -/
namespace Go.Proofs.Ytbaljpamhmbcjaa
open Go.RowKit Go.Shelf
set_option maxRecDepth 100000 in
set_option maxHeartbeats 2000000 in
theorem wHfork (b : Nat) (m : Int) (hm : 0 < m) (L : List Bs) (hL : L.length ≤ 1000) (k : Wk) (x : Option Addr) (c : Nat) (w : World) (h : His w b m L k x c) :
    Calls Try.prog 29 #[.pointer (some ⟨b, 0, none⟩)] w fun e w' => ∃ q y d, e = .returned (.pointer (some ⟨q, 0, none⟩)) ∧ His w' q m L k y d ∧ w.heap.size ≤ q ∧ Below w.heap.size w w' := by
  have HMD := Lib.hid (wmade b m w h.cells.1)
  rw [decide_eq_true hm] at HMD
  have HRD := Lib.hid (fun W' (hb : Below w.heap.size w W') => (show Below w.heap.size w W' ∧ W'.cell? ⟨b, 0, none⟩ = some (.int .i64 m) ∧ W'.cell? ⟨b, 1, none⟩ = some (.slice x L.length c) ∧ W'.cell? ⟨b, 2, none⟩ = some (.bool k.on) ∧ W'.cell? ⟨b, 3, none⟩ = some (.string (tx k.d)) ∧ W'.cell? ⟨b, 4, none⟩ = some (.string (tx k.bg)) ∧ W'.cell? ⟨b, 5, none⟩ = some (.int .i64 k.at_) from by
    obtain ⟨c0, c1, c2, c3, c4, c5, -⟩ := (h.below hb).cells
    exact ⟨hb, c0, c1, c2, c3, c4, c5⟩))
  have HCL := Lib.hid (fun W' (hb : Below w.heap.size w W') => wclone (h.row.below hb) hL)
  obtain ⟨c0, c1, c2, c3, c4, c5, -⟩ := h.cells
  obtain ⟨on, kd, kg, ka⟩ := k
  simp only at HRD c0 c1 c2 c3 c4 c5
  have HKD : Hid (∀ (y : Option Addr) (d : Nat) (W : World), W.ownsRow w.heap.size 9 1 (.slice y L.length d) L.length (strs L) → Below w.heap.size w W → ∃ q y' d', (some ⟨W.heap.size, 0, none⟩ : Option Addr) = some ⟨q, 0, none⟩ ∧ His (W.alloc (.cells #[.int .i64 m, .slice y L.length d, .bool on, .string (tx kd), .string (tx kg), .int .i64 ka] 60)) q m L ⟨on, kd, kg, ka⟩ y' d' ∧ w.heap.size ≤ q ∧ Below w.heap.size w (W.alloc (.cells #[.int .i64 m, .slice y L.length d, .bool on, .string (tx kd), .string (tx kg), .int .i64 ka] 60))) := Lib.hid (fun y d W hr hb => ⟨W.heap.size, y, d, rfl, ⟨heap_alloc_new _ _, RowL.below (W := W) (row_base hr) ((Below.refl _ _).alloc (Nat.le_refl _) _)⟩, hb.size, hb.alloc hb.size _⟩)
  obtain ⟨n, hn⟩ : ∃ n, n = L.length := ⟨_, rfl⟩
  rw [← hn] at HRD HCL c1 HKD
  obtain ⟨KD, hKD⟩ : ∃ D, D = tx kd := ⟨_, rfl⟩
  obtain ⟨KG, hKG⟩ : ∃ D, D = tx kg := ⟨_, rfl⟩
  rw [← hKD] at HRD c3 HKD
  rw [← hKG] at HRD c4 HKD
  clear h hn hKD hKG hL hm
  go_enter Try.func29, Try.ntmps29
  go_wp2_with (first | (go_at_call 32; (with_reducible refine HMD.out.mono ?_); rintro e w' ⟨rfl, rfl⟩))
  go_region_held3 (fun w' => Below w.heap.size w w' ∧ w'.cell? ⟨b, 0, none⟩ = some (.int .i64 m) ∧ w'.cell? ⟨b, 1, none⟩ = some (.slice x n c) ∧ w'.cell? ⟨b, 2, none⟩ = some (.bool on) ∧ w'.cell? ⟨b, 3, none⟩ = some (.string KD) ∧ w'.cell? ⟨b, 4, none⟩ = some (.string KG) ∧ w'.cell? ⟨b, 5, none⟩ = some (.int .i64 ka))
    (first | exact HRD.out _ (Below.refl _ _).drew | exact HRD.out _ HB1.out | exact HRD.out _ (HB1.out.alloc HB1.out.size _))
    (first | (go_at_call 43; (with_reducible refine (HCL.out _ (Below.refl _ _).drew).mono ?_); rintro e y1 ⟨zy, zd, rfl, hrow, hb⟩; have HB1 := Lib.hid ((Below.refl w.heap.size w).drew.trans (below_le hb (by simp)) : Below w.heap.size w y1); have HRW := Lib.hid (row_lower hrow (by simp) : y1.ownsRow w.heap.size 9 1 (.slice zy n zd) n (strs L)); clear hrow hb))
  have HF := Lib.hid (HKD.out zy zd y1 HRW.out HB1.out)
  go_wp2
  go_ret
  obtain ⟨q, y', d', e1, e2, e3, e4⟩ := HF.out
  exact ⟨q, y', d', by rw [← e1]; rfl, e2, e3, e4⟩
def elseS : Bs := [115, 111, 109, 101, 116, 104, 105, 110, 103, 32, 101, 108, 115, 101]
set_option maxHeartbeats 1000000 in
theorem wforked (b m : Nat) (hm1 : 1 ≤ m) (hm2 : m ≤ 256) (L : List Bs) (hL : L.length ≤ 1000) (k : Wk) (x : Option Addr) (c : Nat) (w : World) (h : His w b m L k x c) :
    Calls Try.prog 18 #[.pointer (some ⟨b, 0, none⟩)] w fun e w' => ∃ q y d, e = .returned (.pointer (some ⟨q, 0, none⟩)) ∧ His w' q m L k y d ∧ w.heap.size ≤ q ∧ But [b] w w' := by
  have HFK := Lib.hid (wHfork b m (by omega) L hL k x c w h)
  have HH := Lib.hid h
  have HAD := Lib.hid (fun W (hW : His W b m L k x c) => wHadd b m hm1 hm2 L hL k x c elseS (by decide) W hW)
  unfold elseS at HAD
  have e0 : tx [115, 111, 109, 101, 116, 104, 105, 110, 103, 32, 101, 108, 115, 101] = ⟨#[115, 111, 109, 101, 116, 104, 105, 110, 103, 32, 101, 108, 115, 101]⟩ := rfl
  rw [e0] at HAD
  clear h e0
  go_enter Try.func18, Try.ntmps18
  go_wp2_with (first | (go_at_call 29; fail))
  go_at_call 29
  refine HFK.out.mono ?_
  rintro e w1 ⟨q, y, d, rfl, hq, hge, hb⟩
  have HQ := Lib.hid (And.intro hq (And.intro hge hb))
  clear hq hge hb HFK
  go_wp2_with (first | (go_at_call 27; fail))
  go_at_call 27
  refine (HAD.out _ (HH.out.below HQ.out.2.2)).mono ?_
  rintro e w2 ⟨rfl, -, hb2⟩
  have hqb : q ≠ b := by have := HH.out.lt; have := HQ.out.2.1; omega
  have HE : Hid (His w2 q m L k y d ∧ But [b] w w2) := Lib.hid ⟨⟨hb2.heap HQ.out.1.hd (by simpa using hqb), HQ.out.1.row.but (HH.out.below HQ.out.2.2) hb2⟩, (But.of (l := [b]) HQ.out.2.2).trans hb2⟩
  clear hb2 hqb HAD
  go_wp2
  go_ret
  exact ⟨q, y, d, rfl, HE.out.1, HQ.out.2.1, HE.out.2⟩
set_option maxRecDepth 100000 in
set_option maxHeartbeats 1000000 in
theorem wonce (x : Option Addr) (c : Nat) (L : List Bs) (hnd : L.Nodup) (w : World) (h : SeesL w x c L) : Calls Try.prog 22 #[.slice x L.length c] w fun e w' => e = .returned (.bool true) ∧ Below w.heap.size w w' := by
  have HH := Lib.hid h
  have HND := Lib.hid (fun i j (hij : i < j) (hj : j < L.length) => (show ((tx (L.getD i [])).toList == (tx (L.getD j [])).toList) = false from by
    rw [beq_bytes, decide_eq_false (fun e => ?_)]
    have h1 := tx_inj e
    rw [List.getD_eq_getElem?_getD, List.getD_eq_getElem?_getD, List.getElem?_eq_getElem (by omega), List.getElem?_eq_getElem hj] at h1
    exact (List.pairwise_iff_getElem.1 hnd i j (by omega) hj hij) h1))
  have hL := h.2.1
  obtain ⟨n, hn⟩ : ∃ n, n = L.length := ⟨_, rfl⟩
  have HN := Lib.hid hn
  rw [← hn] at hL ⊢
  clear h hn hnd
  go_enter Try.func22, Try.ntmps22
  go_wp2
  go_loopw [3] (fun i wr => ∃ j : Nat, j ≤ n ∧ i = .int .i64 (j : Int) ∧ Hid (∃ m, wr = w.drewN m)) (fun i _ => n - (intOf i).toNat)
  case atStart => exact ⟨0, by omega, rfl, Lib.hid ⟨0, rfl⟩⟩
  case round =>
    obtain ⟨j, hj, rfl, HW⟩ := hrel
    have i1 : (0 : Int) ≤ (j : Int) := by omega
    by_cases hlt : j < n
    · have i2 : (j : Int) < (n : Int) := by omega
      obtain ⟨wo, rfl⟩ : ∃ wo : World, wo = wr := ⟨_, rfl⟩
      go_wp2
      go_loopw [4] (fun i wq => ∃ q : Nat, q ≤ j ∧ i = .int .i64 (q : Int) ∧ Hid (∃ m, wq = w.drewN m)) (fun i _ => j - (intOf i).toNat)
      case atStart => exact ⟨0, by omega, rfl, HW⟩
      case round =>
        obtain ⟨q, hq, rfl, HW2⟩ := hrel
        have q1 : (0 : Int) ≤ (q : Int) := by omega
        by_cases hlt2 : q < j
        · have q2 : (q : Int) < (j : Int) := by omega
          have q3 : (q : Int) < (n : Int) := by omega
          obtain ⟨g, rfl, _, hg⟩ := HH.out.2.2 (by have := HN.out; omega)
          have ce : wr.cell? ⟨g, q, none⟩ = some (.string (tx (L.getD q []))) := by
            obtain ⟨m, rfl⟩ := HW2.out
            have := hg q (by have := HN.out; omega)
            simpa [go_sem] using this
          have ce2 : wr.cell? ⟨g, j, none⟩ = some (.string (tx (L.getD j []))) := by
            obtain ⟨m, rfl⟩ := HW2.out
            have := hg j (by have := HN.out; omega)
            simpa [go_sem] using this
          have hne := HND.out q j hlt2 (by have := HN.out; omega)
          obtain ⟨X, hX⟩ : ∃ X, X = tx (L.getD q []) := ⟨_, rfl⟩
          obtain ⟨Y, hY⟩ : ∃ X, X = tx (L.getD j []) := ⟨_, rfl⟩
          rw [← hX] at ce hne
          rw [← hY] at ce2 hne
          clear hg hX hY
          go_wp2
          go_quiet (fail)
          go_wp2
          go_roundw
          case rel =>
            obtain ⟨m, rfl⟩ := HW2.out
            exact ⟨q + 1, by omega, by go_num, Lib.hid ⟨m + nq, World.drewN_drewN _ _ _⟩⟩
          case measure => simp [intOf]; omega
        · have q2 : ¬ (q : Int) < (j : Int) := by omega
          go_wp2
          go_roundw
          case rel => exact ⟨j + 1, by omega, by go_num, HW2⟩
          case measure => simp [intOf]; omega
    · have i2 : ¬ (j : Int) < (n : Int) := by omega
      go_wp2
      go_ret
      obtain ⟨m, rfl⟩ := HW.out
      exact ⟨rfl, below_drewN (Below.refl _ _) m⟩
end Go.Proofs.Ytbaljpamhmbcjaa
/- Walk: shows. -/
namespace Go.Proofs.Ytbaljpamhmbcjaa
open Go.RowKit Go.Shelf
theorem SeesL.drewN {w : World} {x : Option Addr} {c : Nat} {L : List Bs} (h : SeesL w x c L) (m : Nat) : SeesL (w.drewN m) x c L := ⟨h.1, h.2.1, fun hp => by
  obtain ⟨g, h1, h2, h3⟩ := h.2.2 hp
  exact ⟨g, h1, h2, fun i hi => by have := h3 i hi; simpa [go_sem] using this⟩⟩
theorem SeesL.take {w : World} {x : Option Addr} {c : Nat} {L : List Bs} (h : SeesL w x c L) (m : Nat) : SeesL w x c (L.take m) := by
  refine ⟨by have := h.1; simp; omega, by have := h.2.1; simp; omega, fun hp => ?_⟩
  obtain ⟨g, h1, h2, h3⟩ := h.2.2 (by simp at hp; omega)
  refine ⟨g, h1, h2, fun i hi => ?_⟩
  rw [h3 i (by simp at hi; omega), List.getD_eq_getElem?_getD, List.getD_eq_getElem?_getD, List.getElem?_take_of_lt (by simp at hi; omega)]
set_option maxHeartbeats 1000000 in
theorem wsame2 (x y : Option Addr) (c d : Nat) (L : List Bs) (w : World) (hx : SeesL w x c L) (hy : SeesL w y d L) : Calls Try.prog 13 #[.slice x L.length c, .slice y L.length d] w fun e w' => e = .returned (.bool true) ∧ ∃ m, w' = w.drewN m := by
  have HX := Lib.hid hx
  have HY := Lib.hid hy
  have hm := hx.2.1
  obtain ⟨n, hn⟩ : ∃ n, n = L.length := ⟨_, rfl⟩
  rw [← hn] at hm ⊢
  have HN := Lib.hid hn
  clear hx hy hn
  go_enter Try.func13, Try.ntmps13
  go_wp2
  go_loopw [5] (fun i wr => ∃ k : Nat, k ≤ n ∧ i = .int .i64 (k : Int) ∧ Hid (∃ m, wr = w.drewN m)) (fun i _ => n - (intOf i).toNat)
  case atStart => exact ⟨0, by omega, rfl, Lib.hid ⟨0, rfl⟩⟩
  case round =>
    obtain ⟨k, hk, rfl, HW⟩ := hrel
    by_cases hlt : k < n
    · obtain ⟨g, rfl, _, hg⟩ := HX.out.2.2 (by have := HN.out; omega)
      obtain ⟨g2, rfl, _, hg2⟩ := HY.out.2.2 (by have := HN.out; omega)
      have ce : wr.cell? ⟨g, k, none⟩ = some (.string (tx (L.getD k []))) := by
        obtain ⟨m, rfl⟩ := HW.out
        have := hg k (by have := HN.out; omega)
        simpa [go_sem] using this
      have ce2 : wr.cell? ⟨g2, k, none⟩ = some (.string (tx (L.getD k []))) := by
        obtain ⟨m, rfl⟩ := HW.out
        have := hg2 k (by have := HN.out; omega)
        simpa [go_sem] using this
      obtain ⟨X, hX⟩ : ∃ X, X = tx (L.getD k []) := ⟨_, rfl⟩
      rw [← hX] at ce ce2
      have i1 : (0 : Int) ≤ (k : Int) := by omega
      have i2 : (k : Int) < (n : Int) := by omega
      clear hg hg2 hX
      go_wp2
      go_quiet (fail)
      go_wp2
      go_roundw
      case rel =>
        obtain ⟨m, rfl⟩ := HW.out
        exact ⟨k + 1, by omega, by go_num, Lib.hid ⟨m + nq, World.drewN_drewN _ _ _⟩⟩
      case measure => simp [intOf]; omega
    · go_wp2
      go_ret
      exact ⟨rfl, HW.out⟩
theorem quiet_more {P : Program} {f : FuncId} {args : Array Value} {w : World} {n : Nat} {v : Value}
    (h : Calls P f args (w.drewN n) fun e w' => e = .returned v ∧ ∃ m, w' = (w.drewN n).drewN m) : Calls P f args (w.drewN n) fun e w'' => e = .returned v ∧ ∃ m, w'' = w.drewN m :=
  h.mono fun _ _ ⟨he, m, hm⟩ => ⟨he, n + m, hm.trans (World.drewN_drewN _ _ _)⟩
theorem His.drewN {W : World} {b : Nat} {m : Int} {L : List Bs} {k : Wk} {x : Option Addr} {c : Nat} (h : His W b m L k x c) (n : Nat) : His (W.drewN n) b m L k x c := h.below (below_drewN (Below.refl _ _) n)
set_option maxRecDepth 100000 in
set_option maxHeartbeats 1000000 in
theorem wshows (b : Nat) (m : Int) (hm : 0 < m) (L : List Bs) (hL : L.length ≤ 256) (k : Wk) (xb : Option Addr) (cb : Nat) (x : Option Addr) (c : Nat) (mo : Int) (kk : Wk) (i : Int) (stop : Nat) (hst : stop ≤ 255) (w : World) (h : His w b m L k xb cb) (hs : SeesL w x c L) :
    Calls Try.prog 20 #[.pointer (some ⟨b, 0, none⟩), rV mo x L.length c kk, .int .i64 i, .int .i64 (stop : Int)] w fun e w' => e = .returned (.bool true) ∧ Below w.heap.size w w' := by
  have HH := Lib.hid (And.intro h hs)
  have HLN := Lib.hid (fun W (hW : His W b m L k xb cb) => wHline b m hm L k xb cb i W hW)
  have HRL := Lib.hid (fun W hW => rLine mo x L c kk i W hW)
  have HT1 := Lib.hid (fun W (hW : His W b m L k xb cb) => wHtold b m hm L (by omega) k xb cb 1000 (by omega) W hW)
  have HT2 := Lib.hid (fun W (hW : His W b m L k xb cb) => wHtold b m hm L (by omega) k xb cb stop (by omega) W hW)
  have HLE := Lib.hid (fun W (hW : His W b m L k xb cb) => wHlen b m hm L k xb cb W hW)
  unfold ToldH at HT1 HT2
  rw [List.take_of_length_le (show L.length ≤ 1000 by omega)] at HT1
  rw [show ((1000 : Nat) : Int) = 1000 from rfl] at HT1
  unfold twoE at HLN HRL
  obtain ⟨X, hX⟩ : ∃ X, X = tx (lineS L i).1 := ⟨_, rfl⟩
  obtain ⟨V, hV⟩ : ∃ X, X = (lineS L i).2 := ⟨_, rfl⟩
  rw [← hX, ← hV] at HLN HRL
  obtain ⟨ko, kd, kg, ka⟩ := kk
  have hkv : rV mo x L.length c ⟨ko, kd, kg, ka⟩ = .agg #[.int .i64 mo, .slice x L.length c, .bool ko, .string (tx kd), .string (tx kg), .int .i64 ka] := rfl
  rw [hkv] at HRL ⊢
  clear hkv
  have HS1 := Lib.hid (fun W y d (h1 : SeesL W y d L) (h2 : SeesL W x c L) => wsame2 y x d c L W h1 h2)
  have HS2 := Lib.hid (fun W y d (h1 : SeesL W y d (L.take stop)) (h2 : SeesL W x c (L.take stop)) => wsame2 y x d c (L.take stop) W h1 h2)
  obtain ⟨q, hq⟩ : ∃ q, q = (L.take stop).length := ⟨_, rfl⟩
  have hq2 : q = min stop L.length := by rw [hq]; simp
  have hcl := hs.1
  rw [← hq] at HT2 HS2
  obtain ⟨n, hn⟩ : ∃ n, n = L.length := ⟨_, rfl⟩
  have HN := Lib.hid hn
  rw [← hn] at HRL HT1 HLE HS1 hq2 hL hcl ⊢
  have hmin : min (n : Int) (stop : Int) = (q : Int) := by omega
  have hqn : q ≤ n := by omega
  have hqc : q ≤ c := by omega
  obtain ⟨D, hD⟩ : ∃ D, D = tx kd := ⟨_, rfl⟩
  obtain ⟨G, hG⟩ : ∃ D, D = tx kg := ⟨_, rfl⟩
  rw [← hD, ← hG] at HRL ⊢
  have hba := (Below.refl w.heap.size w).alloc (Nat.le_refl _) (.cells #[.int .i64 mo, .slice x n c, .bool ko, .string D, .string G, .int .i64 ka] 41)
  have H0 : Hid (His (w.alloc (.cells #[.int .i64 mo, .slice x n c, .bool ko, .string D, .string G, .int .i64 ka] 41)) b m L k xb cb ∧ SeesL (w.alloc (.cells #[.int .i64 mo, .slice x n c, .bool ko, .string D, .string G, .int .i64 ka] 41)) x c L ∧ (w.alloc (.cells #[.int .i64 mo, .slice x n c, .bool ko, .string D, .string G, .int .i64 ka] 41)).heap[w.heap.size]? = some (.cells #[.int .i64 mo, .slice x n c, .bool ko, .string D, .string G, .int .i64 ka] 41 (0, 0)) ∧ Below w.heap.size w (w.alloc (.cells #[.int .i64 mo, .slice x n c, .bool ko, .string D, .string G, .int .i64 ka] 41))) := Lib.hid ⟨h.below hba, hs.below hba, heap_alloc_new _ _, hba⟩
  clear h hs hm hX hV hD hG hq hn hba hst HH hq2
  go_enter Try.func20, Try.ntmps20
  go_wp2_with (first | (go_at_call 26; fail))
  obtain ⟨W0, hW0⟩ : ∃ W0, W0 = w.alloc (.cells #[.int .i64 mo, .slice x n c, .bool ko, .string D, .string G, .int .i64 ka] 41) := ⟨_, rfl⟩
  rw [← hW0] at H0 ⊢
  clear hW0
  obtain ⟨c0, c1, c2, c3, c4, c5, -⟩ := cells6 H0.out.2.2.1
  go_at_call 26
  refine (HLN.out _ H0.out.1).mono ?_
  rintro e w' ⟨rfl, rfl⟩
  go_wp2_with (first | (go_at_call 38; fail))
  go_at_call 38
  refine (HRL.out _ H0.out.2.1).mono ?_
  rintro e w2 ⟨rfl, hb2⟩
  have H2 : Hid (His w2 b m L k xb cb ∧ SeesL w2 x c L ∧ w2.heap[w.heap.size]? = some (.cells #[.int .i64 mo, .slice x n c, .bool ko, .string D, .string G, .int .i64 ka] 41 (0, 0)) ∧ Below w.heap.size w w2) := Lib.hid ⟨H0.out.1.below hb2, H0.out.2.1.below hb2, (hb2.block _ (Array.getElem?_eq_some_iff.1 H0.out.2.2.1).1).trans H0.out.2.2.1, H0.out.2.2.2.trans (below_le hb2 H0.out.2.2.2.size)⟩
  clear hb2 H0 c0 c1 c2 c3 c4 c5 HLN HRL
  go_wp2_with (first | (go_at_call 11; fail))
  go_at_call 11
  refine (HT1.out _ H2.out.1).mono ?_
  rintro e w3 ⟨ly, lc, rfl, hl3, hb3⟩
  have H3 : Hid (His w3 b m L k xb cb ∧ SeesL w3 x c L ∧ w3.heap[w.heap.size]? = some (.cells #[.int .i64 mo, .slice x n c, .bool ko, .string D, .string G, .int .i64 ka] 41 (0, 0)) ∧ Below w.heap.size w w3 ∧ SeesL w3 ly lc L) := Lib.hid ⟨H2.out.1.below hb3, H2.out.2.1.below hb3, (hb3.block _ (Array.getElem?_eq_some_iff.1 H2.out.2.2.1).1).trans H2.out.2.2.1, H2.out.2.2.2.trans (below_le hb3 H2.out.2.2.2.size), hl3.sees (by have := HN.out; omega)⟩
  clear hb3 hl3 H2 HT1
  go_wp2_with (first | (go_at_call 11; fail))
  go_at_call 11
  refine (HT2.out _ H3.out.1).mono ?_
  rintro e w4 ⟨my, mc, rfl, hl4, hb4⟩
  have H4 : Hid (His w4 b m L k xb cb ∧ SeesL w4 x c L ∧ w4.heap[w.heap.size]? = some (.cells #[.int .i64 mo, .slice x n c, .bool ko, .string D, .string G, .int .i64 ka] 41 (0, 0)) ∧ Below w.heap.size w w4 ∧ SeesL w4 ly lc L ∧ SeesL w4 my mc (L.take stop)) := Lib.hid ⟨H3.out.1.below hb4, H3.out.2.1.below hb4, (hb4.block _ (Array.getElem?_eq_some_iff.1 H3.out.2.2.1).1).trans H3.out.2.2.1, H3.out.2.2.2.1.trans (below_le hb4 H3.out.2.2.2.1.size), H3.out.2.2.2.2.below hb4, hl4.sees (by have := HN.out; simp; omega)⟩
  clear hb4 hl4 H3 HT2
  obtain ⟨-, c1, -⟩ := cells6 H4.out.2.2.1
  have hqx : (X.toList == X.toList) = true := by simp
  have HQ1 := Lib.hid (fun j => quiet_more (HS1.out (w4.drewN j) ly lc (H4.out.2.2.2.2.1.drewN j) (H4.out.2.1.drewN j)))
  have HQ2 := Lib.hid (fun j => quiet_more (HS2.out (w4.drewN j) my mc (H4.out.2.2.2.2.2.drewN j) ((H4.out.2.1.take stop).drewN j)))
  have HQ3 := Lib.hid (fun j => quiet_sym (HLE.out (w4.drewN j) (H4.out.1.drewN j)))
  have HBL := Lib.hid H4.out.2.2.2.1
  clear HS1 HS2 HLE H4
  go_wp2
  cases V
  · go_quiet ((first | (go_at_call 13; first | with_reducible exact HQ1.out _ | with_reducible exact HQ2.out _) | (go_at_call 21; with_reducible exact HQ3.out _)))
    go_wp2
    go_ret
    exact ⟨rfl, below_drewN HBL.out _⟩
  · go_quiet ((first | (go_at_call 13; first | with_reducible exact HQ1.out _ | with_reducible exact HQ2.out _) | (go_at_call 21; with_reducible exact HQ3.out _)))
    go_wp2
    go_ret
    exact ⟨rfl, below_drewN HBL.out _⟩
end Go.Proofs.Ytbaljpamhmbcjaa
/- Walk: step, but for Older and Add. -/
namespace Go.Proofs.Ytbaljpamhmbcjaa
open Go.RowKit Go.Shelf
theorem SeesL.but {W W' : World} {y : Option Addr} {cap : Nat} {R L : List Bs} {b : Nat} {m : Int} {k : Wk} {x : Option Addr} {c : Nat} (h : SeesL W y cap R) (hh : His W b m L k x c) (hb : But [b] W W') : SeesL W' y cap R := ⟨h.1, h.2.1, fun hp => by
  obtain ⟨g, h1, h2, h3⟩ := h.2.2 hp
  have hne : g ≠ b := fun e => by
    have h4 := h3 0 hp
    rw [e, hh.cells.1] at h4
    cases h4
  exact ⟨g, h1, Nat.lt_of_lt_of_le h2 hb.size, fun i hi => (World.cell?_of_block (a := ⟨g, i, none⟩) (hb.block g h2 (by simpa using hne))).trans (h3 i hi)⟩⟩
/-- What step stands on. -/
structure StI (w : World) (b : Nat) (A O : Array Value) (W : World) : Prop where
  a : W.heap[w.heap.size]? = some (.cells A 41 (0, 0))
  o : W.heap[w.heap.size + 1]? = some (.cells O 45 (0, 0))
  z : W.heap[w.heap.size + 1 + 1]? = some (.cells zeroC 41 (0, 0))
  but : But [b] w W
theorem StI.start {w : World} {b : Nat} (A O : Array Value) : StI w b A O (((w.alloc (.cells A 41)).alloc (.cells O 45)).alloc (.cells zeroC 41)) :=
  ⟨(heap_alloc_old _ _ (by simp; omega)).trans ((heap_alloc_old _ _ (by simp)).trans (heap_alloc_new _ _)), (heap_alloc_old _ _ (by simp)).trans (alloc_new1 _ _ _), alloc_new2 _ _ _ _, (((But.refl _ _).alloc _).alloc _).alloc _⟩
theorem StI.step {w : World} {b : Nat} {A O : Array Value} {W W' : World} (h : StI w b A O W) (hb : b < w.heap.size) (k : But [b] W W') : StI w b A O W' :=
  ⟨k.heap h.a (by simp; omega), k.heap h.o (by simp; omega), k.heap h.z (by simp; omega), h.but.trans k⟩
theorem StI.below {w : World} {b : Nat} {A O : Array Value} {W W' : World} (h : StI w b A O W) (hb : b < w.heap.size) (k : Below W.heap.size W W') : StI w b A O W' := h.step hb (But.of k)
/-- A walk as a history keeps it. -/
def Wk.Fit (k : Wk) (L : List Bs) : Prop := k.Ok L ∧ (k.on = false → k = Wk.no)
/-- step's ending. -/
def StepEnd (w : World) (b m : Nat) (e : Ending) (w' : World) : Prop := ∃ y d L' k', e = .returned (.tuple #[rV m y L'.length d k', .bool true]) ∧ (∃ xb cb, His w' b m L' k' xb cb) ∧ SeesL w' y d L' ∧ GoodL m L' ∧ k'.Fit L' ∧ But [b] w w'
theorem olderS_ok {L : List Bs} {k : Wk} {d bg : Bs} (hk : k.Ok L) : (olderS L k d bg).1.Ok L := by
  unfold olderS
  cases hr : nxU L (k.on' d bg).d (k.on' d bg).bg ((k.on' d bg).at_ + 1).toNat with
  | none => exact hk
  | some i =>
    intro _
    have := (nxU_lt hr).2.1
    simp only [olderR]
    omega
theorem newerS_ok {L : List Bs} {k : Wk} (hk : k.Ok L) : (newerS L k).1.Ok L := by
  unfold newerS
  by_cases ho : k.on = true
  · rw [if_pos ho]
    cases hr : nxD L k.d k.bg k.at_.toNat with
    | none => intro h; cases h
    | some i =>
      intro _
      have h1 := hk ho
      have := (nxD_lt hr).1
      simp only [newerR]
      omega
  · rw [if_neg ho]
    exact hk
theorem no_ok (L : List Bs) : Wk.no.Ok L := fun h => by cases h
theorem no_fit (L : List Bs) : Wk.no.Fit L := ⟨no_ok L, fun _ => rfl⟩
theorem olderS_fit {L : List Bs} {k : Wk} {d bg : Bs} (hk : k.Fit L) : (olderS L k d bg).1.Fit L := ⟨olderS_ok hk.1, by
  unfold olderS
  cases hr : nxU L (k.on' d bg).d (k.on' d bg).bg ((k.on' d bg).at_ + 1).toNat with
  | none => exact hk.2
  | some i =>
    intro h
    exfalso
    simp only [olderR, Wk.on'] at h
    cases ho : k.on with
    | true => simp [ho] at h
    | false => simp [ho] at h⟩
theorem newerS_fit {L : List Bs} {k : Wk} (hk : k.Fit L) : (newerS L k).1.Fit L := ⟨newerS_ok hk.1, by
  unfold newerS
  by_cases ho : k.on = true
  · rw [if_pos ho]
    cases hr : nxD L k.d k.bg k.at_.toNat with
    | none => exact fun _ => rfl
    | some i =>
      intro h
      simp only [newerR] at h
      rw [ho] at h
      cases h
  · rw [if_neg ho]
    exact hk.2⟩
/-- The last store of step. -/
theorem step_end {w w2 : World} {b m : Nat} {A O : Array Value} {y : Option Addr} {d : Nat} {L' : List Bs} {k' : Wk} {xb : Option Addr} {cb : Nat} (h : StI w b A O w2) (hbl : b < w.heap.size) (hh : His w2 b m L' k' xb cb) (hs : SeesL w2 y d L') (hg : GoodL m L') (hk : k'.Fit L') (V0 V1 V2 V3 V4 V5 : Value) :
    (((((((w2.setCell ⟨w.heap.size + 1 + 1, 0, none⟩ V0).setCell ⟨w.heap.size + 1 + 1, 1, none⟩ V1).setCell ⟨w.heap.size + 1 + 1, 2, none⟩ V2).setCell ⟨w.heap.size + 1 + 1, 3, none⟩ V3).setCell ⟨w.heap.size + 1 + 1, 4, none⟩ V4).setCell ⟨w.heap.size + 1 + 1, 5, none⟩ V5)).heap[w.heap.size + 1 + 1]? = some (.cells #[V0, V1, V2, V3, V4, V5] 41 (0, 0)) ∧
    StepEnd w b m (.returned (.tuple #[rV m y L'.length d k', .bool true])) (((((((w2.setCell ⟨w.heap.size + 1 + 1, 0, none⟩ V0).setCell ⟨w.heap.size + 1 + 1, 1, none⟩ V1).setCell ⟨w.heap.size + 1 + 1, 2, none⟩ V2).setCell ⟨w.heap.size + 1 + 1, 3, none⟩ V3).setCell ⟨w.heap.size + 1 + 1, 4, none⟩ V4).setCell ⟨w.heap.size + 1 + 1, 5, none⟩ V5)) := by
  have hz := h.z
  unfold zeroC at hz
  have hf := set6_heap hz V0 V1 V2 V3 V4 V5
  refine ⟨hf, y, d, L', k', rfl, ⟨xb, cb, ⟨(set6_other (by omega) _ _ _ _ _ _).trans hh.hd, hh.row.kept (fun j hj => set6_other (fun e => ?_) _ _ _ _ _ _)⟩⟩, ⟨hs.1, hs.2.1, fun hp => ?_⟩, hg, hk, ?_⟩
  · obtain ⟨_, cur, hc⟩ := hh.row.lt j hj
    rw [e, h.z] at hc
    cases hc
  · obtain ⟨g, h1, h2, h3⟩ := hs.2.2 hp
    have hne : g ≠ w.heap.size + 1 + 1 := fun e => by
      have h4 := h3 0 hp
      rw [e] at h4
      simp [World.cell?, hz] at h4
    exact ⟨g, h1, by simpa using h2, fun i hi => (World.cell?_of_block (a := ⟨g, i, none⟩) (set6_other hne _ _ _ _ _ _)).trans (h3 i hi)⟩
  · have := h.but
    exact (((((this.setN (a := ⟨w.heap.size + 1 + 1, 0, none⟩) V0 (by show w.heap.size ≤ w.heap.size + 1 + 1; omega)).setN (a := ⟨w.heap.size + 1 + 1, 1, none⟩) V1 (by show w.heap.size ≤ w.heap.size + 1 + 1; omega)).setN (a := ⟨w.heap.size + 1 + 1, 2, none⟩) V2 (by show w.heap.size ≤ w.heap.size + 1 + 1; omega)).setN (a := ⟨w.heap.size + 1 + 1, 3, none⟩) V3 (by show w.heap.size ≤ w.heap.size + 1 + 1; omega)).setN (a := ⟨w.heap.size + 1 + 1, 4, none⟩) V4 (by show w.heap.size ≤ w.heap.size + 1 + 1; omega)).setN (a := ⟨w.heap.size + 1 + 1, 5, none⟩) V5 (by show w.heap.size ≤ w.heap.size + 1 + 1; omega)
theorem StepEnd.alloc {w W : World} {b m : Nat} {e : Ending} (h : StepEnd w b m e W) (u : Obj) : StepEnd w b m e (W.alloc u) := by
  obtain ⟨y, d, L', k', rfl, ⟨xb, cb, hh⟩, hs, hg, hk, hb⟩ := h
  have hba := (Below.refl W.heap.size W).alloc (Nat.le_refl _) u
  exact ⟨y, d, L', k', rfl, ⟨xb, cb, hh.below hba⟩, hs.below hba, hg, hk, hb.alloc u⟩
theorem step_fin {w W : World} {b m : Nat} {V : Array Value} {g : Nat} {e : Ending} (hf : W.heap[g]? = some (.cells V 41 (0, 0))) (h : StepEnd w b m e W) (u : Obj) : (W.alloc u).heap[g]? = some (.cells V 41 (0, 0)) ∧ StepEnd w b m e (W.alloc u) :=
  ⟨(heap_alloc_old _ _ (Array.getElem?_eq_some_iff.1 hf).1).trans hf, h.alloc u⟩
theorem step_ret {w W : World} {b m : Nat} {tmps : Array Value} {V : Array Value} (hp : tmps.getD 6 undef = .pointer (some ⟨w.heap.size + 1 + 1, 0, none⟩)) (hq : tmps.getD 7 undef = .bool true) (hV : V.size = 6)
    (hf : W.heap[w.heap.size + 1 + 1]? = some (.cells V 41 (0, 0))) (h : StepEnd w b m (.returned (.tuple #[.agg V, .bool true])) W) : bodyPost Try.prog Try.f19 (StepEnd w b m) Exit.ret { tmps := tmps, defers := [] } W := by
  refine bodyPost_ret (results_cell_tmp (p := 6) (q := 7) (ty := 41) rfl _ _ (w.heap.size + 1 + 1) 41 _ (0, 0) _ hp hf Try.underlying41 rfl (by rw [hV]; kernel_rfl)) rfl ?_
  rw [hq]
  exact h
theorem cells_drew {W : World} {g : Nat} {u S T : Value} (h : W.heap[g]? = some (.cells #[u, S, T] 45 (0, 0))) : W.drew.cell? ⟨g, 1, none⟩ = some S ∧ W.drew.cell? ⟨g, 2, none⟩ = some T := by
  have h1 : W.cell? ⟨g, 1, none⟩ = some S := by simp [World.cell?, h]
  have h2 : W.cell? ⟨g, 2, none⟩ = some T := by simp [World.cell?, h]
  exact ⟨by simpa [go_sem] using h1, by simpa [go_sem] using h2⟩
theorem cells_o {W : World} {g : Nat} {u S T : Value} (h : W.heap[g]? = some (.cells #[u, S, T] 45 (0, 0))) : W.cell? ⟨g, 1, none⟩ = some S ∧ W.cell? ⟨g, 2, none⟩ = some T :=
  ⟨by simp [World.cell?, h], by simp [World.cell?, h]⟩
theorem ao_cells {w W : World} {b : Nat} {a0 a1 a2 a3 a4 a5 o0 o1 o2 : Value} (h : StI w b #[a0, a1, a2, a3, a4, a5] #[o0, o1, o2] W) :
    W.cell? ⟨w.heap.size, 0, none⟩ = some a0 ∧ W.cell? ⟨w.heap.size, 1, none⟩ = some a1 ∧ W.cell? ⟨w.heap.size, 2, none⟩ = some a2 ∧ W.cell? ⟨w.heap.size, 3, none⟩ = some a3 ∧ W.cell? ⟨w.heap.size, 4, none⟩ = some a4 ∧ W.cell? ⟨w.heap.size, 5, none⟩ = some a5 ∧ W.cell? ⟨w.heap.size + 1, 1, none⟩ = some o1 ∧ W.cell? ⟨w.heap.size + 1, 2, none⟩ = some o2 := by
  obtain ⟨c0, c1, c2, c3, c4, c5, -⟩ := cells6 h.a
  obtain ⟨d1, d2⟩ := cells_o h.o
  exact ⟨c0, c1, c2, c3, c4, c5, d1, d2⟩
/-- Where the reference's call left its answer. -/
structure RegQ (w : World) (b m : Nat) (A O V : Array Value) (L : List Bs) (k : Wk) (y : Option Addr) (d : Nat) (xb : Option Addr) (cb : Nat) (g : Nat) (W : World) : Prop where
  st : StI w b A O W
  his : His W b m L k xb cb
  sees : SeesL W y d L
  v : W.heap[g]? = some (.cells V 41 (0, 0))
  gt : w.heap.size + 1 + 1 < g
theorem regA {w w2 : World} {b m : Nat} {A O : Array Value} {L : List Bs} {k : Wk} {y : Option Addr} {d : Nat} {xb : Option Addr} {cb : Nat} (hbl : b < w.heap.size) (h1 : StI w b A O w2) (h2 : His w2 b m L k xb cb) (h3 : SeesL w2 y d L) (V : Array Value) (t : TypeId) (ht : t = 41) :
    RegQ w b m A O V L k y d xb cb w2.heap.size (w2.alloc (.cells V t)) := by
  subst ht
  have hba := (Below.refl w2.heap.size w2).alloc (Nat.le_refl _) (.cells V 41)
  exact ⟨h1.below hbl hba, h2.below hba, h3.below hba, heap_alloc_new _ _, (Array.getElem?_eq_some_iff.1 h1.z).1⟩
theorem His.set6 {w2 : World} {b : Nat} {m : Int} {L : List Bs} {k : Wk} {xb : Option Addr} {cb : Nat} {g : Nat} (h : His w2 b m L k xb cb) (hz : w2.heap[g]? = some (.cells zeroC 41 (0, 0))) (hg : b ≠ g) (V0 V1 V2 V3 V4 V5 : Value) :
    His (((((((w2.setCell ⟨g, 0, none⟩ V0).setCell ⟨g, 1, none⟩ V1).setCell ⟨g, 2, none⟩ V2).setCell ⟨g, 3, none⟩ V3).setCell ⟨g, 4, none⟩ V4).setCell ⟨g, 5, none⟩ V5)) b m L k xb cb :=
  ⟨(set6_other hg _ _ _ _ _ _).trans h.hd, h.row.kept (fun j hj => set6_other (fun e => by
    obtain ⟨_, cur, hc⟩ := h.row.lt j hj
    rw [e, hz] at hc
    cases hc) _ _ _ _ _ _)⟩
theorem SeesL.set6 {w2 : World} {y : Option Addr} {d : Nat} {L : List Bs} {g : Nat} (h : SeesL w2 y d L) (hz : w2.heap[g]? = some (.cells zeroC 41 (0, 0))) (V0 V1 V2 V3 V4 V5 : Value) :
    SeesL (((((((w2.setCell ⟨g, 0, none⟩ V0).setCell ⟨g, 1, none⟩ V1).setCell ⟨g, 2, none⟩ V2).setCell ⟨g, 3, none⟩ V3).setCell ⟨g, 4, none⟩ V4).setCell ⟨g, 5, none⟩ V5)) y d L := by
  unfold zeroC at hz
  refine ⟨h.1, h.2.1, fun hp => ?_⟩
  obtain ⟨i, h1, h2, h3⟩ := h.2.2 hp
  have hne : i ≠ g := fun e => by
    have h4 := h3 0 hp
    rw [e] at h4
    simp [World.cell?, hz] at h4
  exact ⟨i, h1, by simpa using h2, fun j hj => (World.cell?_of_block (a := ⟨i, j, none⟩) (set6_other hne _ _ _ _ _ _)).trans (h3 j hj)⟩
theorem But.set6 {w w2 : World} {l : List Nat} {g : Nat} (h : But l w w2) (hg : w.heap.size ≤ g) (V0 V1 V2 V3 V4 V5 : Value) :
    But l w (((((((w2.setCell ⟨g, 0, none⟩ V0).setCell ⟨g, 1, none⟩ V1).setCell ⟨g, 2, none⟩ V2).setCell ⟨g, 3, none⟩ V3).setCell ⟨g, 4, none⟩ V4).setCell ⟨g, 5, none⟩ V5)) :=
  (((((h.setN (a := ⟨g, 0, none⟩) V0 hg).setN (a := ⟨g, 1, none⟩) V1 hg).setN (a := ⟨g, 2, none⟩) V2 hg).setN (a := ⟨g, 3, none⟩) V3 hg).setN (a := ⟨g, 4, none⟩) V4 hg).setN (a := ⟨g, 5, none⟩) V5 hg
theorem StI.set6 {w w2 : World} {b : Nat} {A O : Array Value} {g : Nat} (h : StI w b A O w2) (hg : w.heap.size + 1 + 1 < g) (V0 V1 V2 V3 V4 V5 : Value) :
    StI w b A O (((((((w2.setCell ⟨g, 0, none⟩ V0).setCell ⟨g, 1, none⟩ V1).setCell ⟨g, 2, none⟩ V2).setCell ⟨g, 3, none⟩ V3).setCell ⟨g, 4, none⟩ V4).setCell ⟨g, 5, none⟩ V5)) :=
  ⟨(set6_other (by omega) _ _ _ _ _ _).trans h.a, (set6_other (by omega) _ _ _ _ _ _).trans h.o, (set6_other (by omega) _ _ _ _ _ _).trans h.z, h.but.set6 (by omega) _ _ _ _ _ _⟩
theorem regB {w w2 : World} {b m : Nat} {A O : Array Value} {L : List Bs} {k : Wk} {y : Option Addr} {d : Nat} {xb : Option Addr} {cb : Nat} {g : Nat} (hbl : b < w.heap.size) (h1 : StI w b A O w2) (h2 : His w2 b m L k xb cb) (h3 : SeesL w2 y d L) (hz : w2.heap[g]? = some (.cells zeroC 41 (0, 0))) (hg : w.heap.size + 1 + 1 < g) (V0 V1 V2 V3 V4 V5 : Value) :
    RegQ w b m A O #[V0, V1, V2, V3, V4, V5] L k y d xb cb g (((((((w2.setCell ⟨g, 0, none⟩ V0).setCell ⟨g, 1, none⟩ V1).setCell ⟨g, 2, none⟩ V2).setCell ⟨g, 3, none⟩ V3).setCell ⟨g, 4, none⟩ V4).setCell ⟨g, 5, none⟩ V5)) :=
  ⟨h1.set6 hg _ _ _ _ _ _, h2.set6 hz (by omega) _ _ _ _ _ _, h3.set6 hz _ _ _ _ _ _, by unfold zeroC at hz; exact set6_heap hz V0 V1 V2 V3 V4 V5, hg⟩
end Go.Proofs.Ytbaljpamhmbcjaa
/- Walk: step at Newer. -/
namespace Go.Proofs.Ytbaljpamhmbcjaa
open Go.RowKit Go.Shelf
set_option maxRecDepth 100000 in
set_option maxHeartbeats 2000000 in
theorem step_newer (b m : Nat) (hm1 : 1 ≤ m) (hm2 : m ≤ 256) (L : List Bs) (hg : GoodL m L) (k : Wk) (hk : k.Fit L) (xb : Option Addr) (cb : Nat) (x : Option Addr) (c : Nat) (d8 : Nat) (hd : d8 % 8 = 5) (hd2 : d8 < 256) (S T : ByteArray) (w : World) (h : His w b m L k xb cb) (hs : SeesL w x c L) :
    Calls Try.prog 19 #[.pointer (some ⟨b, 0, none⟩), rV m x L.length c k, .agg #[.int .u8 d8, .string S, .string T]] w (StepEnd w b m) := by
  have hbl := h.lt
  have hkf := hk
  replace hk := hk.1
  have HNW := Lib.hid (fun W (hW : His W b m L k xb cb) => wHnewer b m (by omega) L (by have := hg.1; omega) k hk xb cb W hW)
  have HRN := Lib.hid (fun W hW => rNewer m x c L (by have := hg.1; omega) k hk W hW)
  have HOK := Lib.hid (newerS_fit hkf)
  have HGD := Lib.hid hg
  have HE : Hid (∀ k x n c, rV (m : Int) x n c k = .agg (hisCells m x n c k)) := Lib.hid (fun _ _ _ _ => rfl)
  have r1 : (d8 : Int).tmod 8 = 5 := by rw [Int.tmod_eq_emod_of_nonneg (by omega)]; omega
  unfold twoE at HNW
  unfold threeE at HRN
  obtain ⟨R, hR⟩ : ∃ R, R = newerS L k := ⟨_, rfl⟩
  rw [← hR] at HNW HRN HOK
  obtain ⟨k', s', t'⟩ := R
  obtain ⟨Y, hY⟩ : ∃ Y, Y = tx s' := ⟨_, rfl⟩
  simp only at HNW HRN HOK
  rw [← hY] at HNW HRN
  obtain ⟨ko, kd, kg, ka⟩ := k
  have hkv : rV m x L.length c ⟨ko, kd, kg, ka⟩ = .agg #[.int .i64 m, .slice x L.length c, .bool ko, .string (tx kd), .string (tx kg), .int .i64 ka] := rfl
  have hkv2 : rV m x L.length c k' = .agg #[.int .i64 m, .slice x L.length c, .bool k'.on, .string (tx k'.d), .string (tx k'.bg), .int .i64 k'.at_] := rfl
  rw [hkv, hkv2] at HRN
  rw [hkv]
  obtain ⟨n, hn⟩ : ∃ n, n = L.length := ⟨_, rfl⟩
  have HN := Lib.hid hn
  rw [← hn] at HRN ⊢
  obtain ⟨D, hD⟩ : ∃ D, D = tx kd := ⟨_, rfl⟩
  obtain ⟨G, hG⟩ : ∃ D, D = tx kg := ⟨_, rfl⟩
  rw [← hD, ← hG] at HRN ⊢
  have HST := Lib.hid (StI.start (w := w) (b := b) #[.int .i64 m, .slice x n c, .bool ko, .string D, .string G, .int .i64 ka] #[.int .u8 d8, .string S, .string T])
  have HB0 := Lib.hid ((((Below.refl w.heap.size w).alloc (Nat.le_refl _) (.cells #[.int .i64 m, .slice x n c, .bool ko, .string D, .string G, .int .i64 ka] 41)).alloc (by simp) (.cells #[.int .u8 d8, .string S, .string T] 45)).alloc (by simp; omega) (.cells zeroC 41))
  have HH := Lib.hid (And.intro (h.below HB0.out) (hs.below HB0.out))
  clear h hs hg hk hkf hR hY hD hG hn hkv hkv2 HB0
  unfold zeroC at HST HH
  go_enter Try.func19, Try.ntmps19
  go_wp2_with (first | (go_at_call 14; fail))
  go_at_call 14
  refine (HNW.out _ HH.out.1).mono ?_
  rintro e w1 ⟨rfl, hh1, hb1⟩
  have H1 : Hid (His w1 b m L k' xb cb ∧ SeesL w1 x c L ∧ StI w b #[.int .i64 m, .slice x n c, .bool ko, .string D, .string G, .int .i64 ka] #[.int .u8 d8, .string S, .string T] w1) := Lib.hid ⟨hh1, HH.out.2.but HH.out.1 hb1, StI.step (W := _) HST.out hbl hb1⟩
  clear hh1 hb1 HH HST HNW
  obtain ⟨a0, a1, a2, a3, a4, a5, -⟩ := cells6 H1.out.2.2.a
  go_wp2_with (first | (go_at_call 35; fail))
  go_at_call 35
  refine (HRN.out _ H1.out.2.1).mono ?_
  rintro e w2 ⟨rfl, hb2⟩
  have H2 : Hid (His w2 b m L k' xb cb ∧ SeesL w2 x c L ∧ StI w b #[.int .i64 m, .slice x n c, .bool ko, .string D, .string G, .int .i64 ka] #[.int .u8 d8, .string S, .string T] w2) := Lib.hid ⟨H1.out.1.below hb2, H1.out.2.1.below hb2, H1.out.2.2.below hbl hb2⟩
  have hz := (H1.out.2.2.below hbl hb2).z
  have hzl : w.heap.size + 1 + 1 < w2.heap.size := (Array.getElem?_eq_some_iff.1 hz).1
  have HEN := Lib.hid (step_end H2.out.2.2 hbl H2.out.1 H2.out.2.1 HGD.out HOK.out (.int .i64 m) (.slice x n c) (.bool k'.on) (.string (tx k'.d)) (.string (tx k'.bg)) (.int .i64 k'.at_))
  unfold zeroC at hz
  obtain ⟨z0, z1, z2, z3, z4, z5, zz⟩ := cells6 hz
  have zf0 := zz 0
  have zf1 := zz 1
  have zf2 := zz 2
  have zf3 := zz 3
  have zf4 := zz 4
  have zf5 := zz 5
  have hqx : (Y.toList == Y.toList) = true := by simp
  clear hb2 H1 a0 a1 a2 a3 a4 a5 HRN H2 hz zz
  have HEN2 := Lib.hid (step_fin (m := m) HEN.out.1 HEN.out.2 (.cells #[.int .i64 m, .slice x n c, .bool k'.on, .string (tx k'.d), .string (tx k'.bg), .int .i64 k'.at_] 41))
  clear HEN
  have HF := Lib.hid HEN2.out.1
  have HE2 := HEN2.out.2
  rw [← HN.out] at HE2
  have HE2 := Lib.hid HE2
  clear HEN2
  cases t'
  · go_wp2
    exact step_ret rfl rfl rfl HF.out HE2.out
  · go_wp2
    exact step_ret rfl rfl rfl HF.out HE2.out
end Go.Proofs.Ytbaljpamhmbcjaa
/- Walk: step at Leave. -/
namespace Go.Proofs.Ytbaljpamhmbcjaa
open Go.RowKit Go.Shelf
set_option maxRecDepth 100000 in
set_option maxHeartbeats 2000000 in
theorem step_leave (b m : Nat) (hm1 : 1 ≤ m) (hm2 : m ≤ 256) (L : List Bs) (hg : GoodL m L) (k : Wk) (hk : k.Fit L) (xb : Option Addr) (cb : Nat) (x : Option Addr) (c : Nat) (d8 : Nat) (hd : d8 % 8 = 6) (hd2 : d8 < 256) (S T : ByteArray) (w : World) (h : His w b m L k xb cb) (hs : SeesL w x c L) :
    Calls Try.prog 19 #[.pointer (some ⟨b, 0, none⟩), rV m x L.length c k, .agg #[.int .u8 d8, .string S, .string T]] w (StepEnd w b m) := by
  have hbl := h.lt
  have hkf := hk
  replace hk := hk.1
  have HNW := Lib.hid (fun W (hW : His W b m L k xb cb) => wHleave b m (by omega) L k xb cb W hW)
  have hk0 : (if k.on = true then Wk.no else k) = Wk.no := by
    cases ho : k.on with
    | true => rfl
    | false => simpa [ho] using hkf.2 ho
  rw [hk0] at HNW
  have HRN := Lib.hid (fun (n : Nat) W => rLeave m x n c k W)
  have HOK := Lib.hid (no_fit L)
  have HGD := Lib.hid hg
  have HE : Hid (∀ k x n c, rV (m : Int) x n c k = .agg (hisCells m x n c k)) := Lib.hid (fun _ _ _ _ => rfl)
  have r1 : (d8 : Int).tmod 8 = 6 := by rw [Int.tmod_eq_emod_of_nonneg (by omega)]; omega
  obtain ⟨k', hk'⟩ : ∃ k', k' = Wk.no := ⟨_, rfl⟩
  rw [← hk'] at HNW HRN HOK
  obtain ⟨ko, kd, kg, ka⟩ := k
  have hkv : ∀ n, rV m x n c ⟨ko, kd, kg, ka⟩ = .agg #[.int .i64 m, .slice x n c, .bool ko, .string (tx kd), .string (tx kg), .int .i64 ka] := fun _ => rfl
  have hkv2 : ∀ n, rV m x n c k' = .agg #[.int .i64 m, .slice x n c, .bool k'.on, .string (tx k'.d), .string (tx k'.bg), .int .i64 k'.at_] := fun _ => rfl
  simp only [hkv, hkv2] at HRN
  rw [hkv]
  obtain ⟨n, hn⟩ : ∃ n, n = L.length := ⟨_, rfl⟩
  have HN := Lib.hid hn
  rw [← hn]
  obtain ⟨D, hD⟩ : ∃ D, D = tx kd := ⟨_, rfl⟩
  obtain ⟨G, hG⟩ : ∃ D, D = tx kg := ⟨_, rfl⟩
  rw [← hD, ← hG] at HRN ⊢
  have HST := Lib.hid (StI.start (w := w) (b := b) #[.int .i64 m, .slice x n c, .bool ko, .string D, .string G, .int .i64 ka] #[.int .u8 d8, .string S, .string T])
  have HB0 := Lib.hid ((((Below.refl w.heap.size w).alloc (Nat.le_refl _) (.cells #[.int .i64 m, .slice x n c, .bool ko, .string D, .string G, .int .i64 ka] 41)).alloc (by simp) (.cells #[.int .u8 d8, .string S, .string T] 45)).alloc (by simp; omega) (.cells zeroC 41))
  have HH := Lib.hid (And.intro (h.below HB0.out) (hs.below HB0.out))
  clear h hs hg hk hkf hk0 hk' hD hG hn hkv hkv2 HB0
  unfold zeroC at HST HH
  go_enter Try.func19, Try.ntmps19
  go_wp2_with (first | (go_at_call 28; fail))
  go_at_call 28
  refine (HNW.out _ HH.out.1).mono ?_
  rintro e w1 ⟨rfl, hh1, hb1⟩
  have H1 : Hid (His w1 b m L k' xb cb ∧ SeesL w1 x c L ∧ StI w b #[.int .i64 m, .slice x n c, .bool ko, .string D, .string G, .int .i64 ka] #[.int .u8 d8, .string S, .string T] w1) := Lib.hid ⟨hh1, HH.out.2.but HH.out.1 hb1, StI.step (W := _) HST.out hbl hb1⟩
  clear hh1 hb1 HH HST HNW
  obtain ⟨a0, a1, a2, a3, a4, a5, -⟩ := cells6 H1.out.2.2.a
  go_wp2_with (first | (go_at_call 36; fail))
  go_at_call 36
  refine (HRN.out _ _).mono ?_
  rintro e w2 ⟨rfl, hb2⟩
  have H2 : Hid (His w2 b m L k' xb cb ∧ SeesL w2 x c L ∧ StI w b #[.int .i64 m, .slice x n c, .bool ko, .string D, .string G, .int .i64 ka] #[.int .u8 d8, .string S, .string T] w2) := Lib.hid ⟨H1.out.1.below hb2, H1.out.2.1.below hb2, H1.out.2.2.below hbl hb2⟩
  have hz := (H1.out.2.2.below hbl hb2).z
  have hzl : w.heap.size + 1 + 1 < w2.heap.size := (Array.getElem?_eq_some_iff.1 hz).1
  have HEN := Lib.hid (step_end H2.out.2.2 hbl H2.out.1 H2.out.2.1 HGD.out HOK.out (.int .i64 m) (.slice x n c) (.bool k'.on) (.string (tx k'.d)) (.string (tx k'.bg)) (.int .i64 k'.at_))
  unfold zeroC at hz
  obtain ⟨z0, z1, z2, z3, z4, z5, zz⟩ := cells6 hz
  have zf0 := zz 0
  have zf1 := zz 1
  have zf2 := zz 2
  have zf3 := zz 3
  have zf4 := zz 4
  have zf5 := zz 5
  clear hb2 H1 a0 a1 a2 a3 a4 a5 HRN H2 hz zz
  have HEN2 := Lib.hid (step_fin (m := m) HEN.out.1 HEN.out.2 (.cells #[.int .i64 m, .slice x n c, .bool k'.on, .string (tx k'.d), .string (tx k'.bg), .int .i64 k'.at_] 41))
  clear HEN
  have HF := Lib.hid HEN2.out.1
  have HE2 := HEN2.out.2
  rw [← HN.out] at HE2
  have HE2 := Lib.hid HE2
  clear HEN2
  cases ko
  · go_wp2
    exact step_ret rfl rfl rfl HF.out HE2.out
  · go_wp2
    exact step_ret rfl rfl rfl HF.out HE2.out
end Go.Proofs.Ytbaljpamhmbcjaa
