/- Walk: Cut of the reference. -/
import Derived.Test.YtdehjofmangmbaaGreatK8
import Derived.Test.YtdehjofmangmbaaGreatHC
namespace Go.Proofs.YtdehjofmangmbaaGreat
open Go.RowKit Go.Shelf
theorem tx_sizeK (l : Bs) : (tx l).size = l.length := by simp [tx, ByteArray.size]
theorem getD_lenK {L : List Bs} {n : Nat} (h : ∀ l ∈ L, l.length ≤ n) (i : Nat) : (L.getD i []).length ≤ n := by
  rw [List.getD_eq_getElem?_getD]
  rcases Nat.lt_or_ge i L.length with h2 | h2
  · rw [List.getElem?_eq_getElem h2]; exact h _ (List.getElem_mem h2)
  · rw [List.getElem?_eq_none h2]; exact Nat.zero_le n
theorem rowK_get {W : World} {base : Nat} {x : Option Addr} {c : Nat} {L : List Bs} (h : W.ownsRow base 9 1 (.slice x L.length c) L.length (strs L)) (j : Nat) (hj : j < L.length) : ∃ g, x = some ⟨g, 0, none⟩ ∧ g < W.heap.size ∧ L.length ≤ c ∧ ∀ i, i < L.length → W.cell? ⟨g, i, none⟩ = some (.string (tx (L.getD i []))) := by
  have hcl := fun g (hg : (Value.slice x L.length c).ownBlock = some g) => h.cells hg
  rcases h.2 with ⟨hv, h0⟩ | ⟨g, cap, cur, hv, _, hg, hnc, _⟩
  · omega
  · obtain ⟨rfl, rfl⟩ : x = some ⟨g, 0, none⟩ ∧ c = cap := by simpa using hv
    refine ⟨g, rfl, (Array.getElem?_eq_some_iff.1 hg).1, hnc, fun i hi => ?_⟩
    have := hcl g rfl i (.string (tx (L.getD i []))) (by rw [strs, List.getElem?_map, List.getElem?_eq_getElem hi, List.getD_eq_getElem?_getD, List.getElem?_eq_getElem hi]; rfl)
    have ha : (⟨g, 0, none⟩ : Addr).add i = ⟨g, i, none⟩ := by by_cases e : i = 0 <;> simp [Addr.add, e]
    rw [ha] at this
    exact this
theorem strs_app (A B : List Bs) : strs (A ++ B) = strs A ++ strs B := by simp [strs]
def outR (rs : List Int) : List Bs := endS (cutF rs)
def lastI (L : List Bs) : Bs := L.getD (L.length - 1) []
theorem cutF_wf (rs : List Int) : (cutF rs).2.2 = false → (cutF rs).1 = [] := by
  have : ∀ (rs : List Int) (s : List Bs × Bs × Bool), (s.2.2 = false → s.1 = []) → ((rs.foldl cutR s).2.2 = false → (rs.foldl cutR s).1 = []) := by
    intro rs
    induction rs with
    | nil => intro s h; exact h
    | cons r rs ih =>
      intro s h
      refine ih _ ?_
      unfold cutR addS
      split
      · exact h
      · split
        · intro q; cases q
        · split
          · intro q; cases q
          · exact h
  exact this rs _ (fun _ => rfl)
theorem outR_snoc (rs : List Int) (r : Int) : outR (rs ++ [r]) = if 0 < ofW r then outR rs ++ [rb r] else if isMk r = true ∧ outR rs ≠ [] ∧ (lastI (outR rs)).length + (rb r).length ≤ 64 then (outR rs).set ((outR rs).length - 1) (lastI (outR rs) ++ rb r) else outR rs := by
  unfold outR
  rw [cutF_snoc]
  have hwf := cutF_wf rs
  revert hwf
  generalize cutF rs = s
  intro hwf
  obtain ⟨D, N, o⟩ := s
  have hwf : o = false → D = [] := hwf
  unfold cutR
  by_cases hc : ctl r = true
  · have ho : ofW r = 0 := by unfold ofW; rw [if_pos (.inr (.inl hc))]
    have hm : isMk r = false := by unfold isMk; rw [hc]; simp
    rw [if_pos hc, if_neg (by omega), if_neg (by rw [hm]; simp)]
  · rw [if_neg hc]
    unfold addS
    by_cases h0 : 0 < ofW r
    · rw [if_pos h0, if_pos h0]
      cases o
      · rw [hwf rfl]; rfl
      · simp [endS]
    · rw [if_neg h0, if_neg h0]
      cases o
      · rw [hwf rfl]
        simp [endS]
      · have e1 : endS (D, N, true) = D ++ [N] := rfl
        have e2 : lastI (D ++ [N]) = N := by simp [lastI, List.getD_eq_getElem?_getD]
        rw [e1, e2]
        by_cases hk : isMk r = true ∧ N.length + (rb r).length ≤ 64
        · rw [if_pos ⟨rfl, hk.1, hk.2⟩, if_pos ⟨hk.1, by simp, hk.2⟩]
          simp [endS]
        · rw [if_neg (fun q => hk ⟨q.2.1, q.2.2⟩), if_neg (fun q => hk ⟨q.1, q.2.2⟩)]
          rfl
theorem outR_len (rs : List Int) : (outR rs).length ≤ rs.length + 1 := by
  have := (cutF_len rs).1
  unfold outR endS
  split
  · simp; omega
  · omega
theorem outR_short (rs : List Int) : ∀ c ∈ outR rs, c.length ≤ 64 := by
  have h : ∀ (rs : List Int) (s : List Bs × Bs × Bool), Short s → Short (rs.foldl cutR s) := by
    intro rs
    induction rs with
    | nil => intro s h; exact h
    | cons r rs ih => intro s h; exact ih _ (cutR_short s r h)
  obtain ⟨h1, h2⟩ := h rs ([], [], false) ⟨by simp, by simp⟩
  unfold outR endS cutF
  intro c hc
  split at hc
  · rcases List.mem_append.1 hc with q | q
    · exact h1 c q
    · simp at q; rw [q]; exact h2
  · exact h1 c hc
theorem cutS_out (l : Bs) : cutS l = outR ((itm l).map (·.2)) := rfl
theorem row_set {w : World} {base n cap : Nat} {x : Option Addr} {g : Nat} {xs : List Value} (h : w.ownsRow base 9 1 (.slice x n cap) n xs) (hx : x = some ⟨g, 0, none⟩) (k : Nat) (hk : k < n) (v : Value) : (w.setCell ⟨g, k, none⟩ v).ownsRow base 9 1 (.slice x n cap) n (xs.set k v) := by
  have h1 := h.1
  refine ⟨by rw [List.length_set]; exact h1, ?_⟩
  rcases h.2 with ⟨_, h0⟩ | ⟨g', cap', cur, hv, hb, hg, hnc, hcm, hcs, htake⟩
  · omega
  · obtain ⟨e1, rfl⟩ : x = some ⟨g', 0, none⟩ ∧ cap = cap' := by simpa using hv
    rw [hx] at e1
    obtain rfl : g = g' := by simpa using e1
    refine .inr ⟨g, cap, cur.setIfInBounds k v, by rw [hx], hb, set_block hg v, hnc, hcm, by simpa using hcs, ?_⟩
    rw [← htake]
    rw [Array.toList_setIfInBounds, List.take_set]
/-- What Cut's loop keeps. -/
structure CtI (w1 : World) (L : List Bs) (v : Value) (W : World) : Prop where
  row : W.ownsRow w1.heap.size 9 1 v L.length (strs L)
  bel : Below w1.heap.size w1 W
theorem CtI.below {w1 : World} {L : List Bs} {v : Value} {W W' : World} (h : CtI w1 L v W) (hb : Below W.heap.size W W') : CtI w1 L v W' :=
  ⟨row_kept h.row (fun j hj => hb.block j (h.row.lt j hj).2), h.bel.trans (below_le hb h.bel.size)⟩
theorem CtI.app {w1 W w2 : World} {L : List Bs} {v v' : Value} {X : Bs} {o : Obj} (h : CtI w1 L v W) (ho : w2.ownsRow w1.heap.size 9 1 v' (L.length + 1) (strs L ++ [.string (tx X)])) (hg : (W.alloc o).grownBy w2 v.ownBlock) : CtI w1 (L ++ [X]) v' w2 :=
  ⟨by rw [strs_app, List.length_append]; exact ho, (h.bel.alloc h.bel.size o).grown hg (by have := h.bel.size; simp; omega) (fun j hj => (h.row.lt j hj).1)⟩
theorem CtI.set {w1 W : World} {L : List Bs} {g cap : Nat} {X : Bs} {k : Nat} (h : CtI w1 L (.slice (some ⟨g, 0, none⟩) L.length cap) W) (hk : k < L.length) : CtI w1 (L.set k X) (.slice (some ⟨g, 0, none⟩) L.length cap) (W.setCell ⟨g, k, none⟩ (.string (tx X))) := by
  refine ⟨?_, h.bel.setCell (p := ⟨g, k, none⟩) ((h.row.lt g rfl).1) _⟩
  have := row_set h.row rfl k hk (.string (tx X))
  rw [List.length_set]
  rw [show strs (L.set k X) = (strs L).set k (.string (tx X)) by simp [strs, List.map_set]]
  exact this
theorem conv_back (w : World) (g : Nat) (l : Bs) (h : w.heap[g]? = some (.cells (Lib.byteCells l).toArray 5 (0, 0))) : (convert 50 9 (.slice (some ⟨g, 0, none⟩) l.length l.length)).run Tryz.prog w = .ok (.string (tx l)) w :=
  run_convert_bytes_back w 50 9 5 ⟨g, 0, none⟩ l.length l Tryz.underlying50 Tryz.underlying5 Tryz.underlying9 (fun j hj => by
    have h4 : (⟨g, 0, none⟩ : Addr).add j = ⟨g, j, none⟩ := by by_cases e : j = 0 <;> simp [Addr.add, e]
    rw [h4]
    simp [World.cell?, h, Lib.byteCells, hj])
theorem run_get {w : World} {base : Nat} {x : Option Addr} {n cap : Nat} {xs : List (Nat × Int)} (h : w.ownsRow base 21 1 (.slice x n cap) n (runV xs)) (j : Nat) (hj : j < n) : ∃ g, x = some ⟨g, 0, none⟩ ∧ g < w.heap.size ∧ n ≤ cap ∧ ∀ i, i < n → w.cell? ⟨g, i, none⟩ = some (.int .i32 ((xs.map (·.2)).getD i 0)) := by
  have hl := h.1
  rcases h.2 with ⟨_, h0⟩ | ⟨g, cap', cur, hv, hb, hg, hnc, _⟩
  · omega
  · obtain ⟨rfl, rfl⟩ : x = some ⟨g, 0, none⟩ ∧ cap = cap' := by simpa using hv
    refine ⟨g, rfl, (Array.getElem?_eq_some_iff.1 hg).1, hnc, fun i hi => ?_⟩
    have := h.cellAt i (by omega)
    rw [this, runV, List.getElem?_map, List.getElem?_eq_getElem (by simp [runV] at hl; omega), List.getD_eq_getElem?_getD, List.getElem?_map, List.getElem?_eq_getElem (by simp [runV] at hl; omega)]
    rfl
set_option maxRecDepth 100000 in
set_option maxHeartbeats 4000000 in
theorem rcut (l : Bs) (hl : l.length ≤ 900000) (w : World) : Calls Tryz.prog 21 #[.string (tx l)] w (CutEnd l w) := by
  obtain ⟨ti, p1, p2, p3, p4⟩ := info_parts9
  have HP := Lib.hid (And.intro p1 (And.intro p2 (And.intro p3 p4)))
  obtain ⟨cap, W1, hcv, hcap, hby, hbl, hsz⟩ := conv_bytes w l
  have HRN := Lib.hid (rrunes w.heap.size 0 cap l hcap (by omega) W1 hby (by omega))
  unfold RunesEnd at HRN
  have HBL := Lib.hid hbl
  have HIL := Lib.hid (itm_len l)
  have HLL := Lib.hid hl
  obtain ⟨T, hT⟩ : ∃ T, T = tx l := ⟨_, rfl⟩
  obtain ⟨n, hn⟩ : ∃ n, n = l.length := ⟨_, rfl⟩
  have HN := Lib.hid hn
  rw [← hT, ← hn] at hcv
  rw [← hn] at HRN
  rw [← hT]
  clear hT hby hbl hsz hcap hl hn p1 p2 p3 p4
  go_enter Tryz.func21, Tryz.ntmps21
  go_wp2_with (first | (go_at_call 42; fail))
  go_at_call 42
  refine HRN.out.mono ?_
  rintro e w1 ⟨v4, v5, rfl, hrn⟩
  obtain ⟨y4, d4, rfl⟩ := ownsRow_is hrn.r4
  obtain ⟨y5, d5, rfl⟩ := ownsRow_is hrn.r5
  have H4 := Lib.hid hrn.r4
  have HB1 := Lib.hid (HBL.out.trans (below_le hrn.bel HBL.out.size))
  obtain ⟨RS, hRS⟩ : ∃ RS, RS = (itm l).map (·.2) := ⟨_, rfl⟩
  have HRS := Lib.hid hRS
  obtain ⟨N, hN⟩ : ∃ N, N = (itm l).length := ⟨_, rfl⟩
  have HNI : Hid (N = RS.length) := Lib.hid (by rw [hN, hRS, List.length_map])
  have hNL : N ≤ 900000 := by have := HIL.out; have := HLL.out; omega
  rw [← hN] at H4 ⊢
  clear hrn hcv HRN hRS hN
  go_wp2
  go_loopw [3, 6] (fun v3 i wr => ∃ j : Nat, i = .int .i64 (j : Int) ∧ j ≤ N ∧ Hid (CtI w1 (outR (RS.take j)) v3 wr)) (fun _ i _ => N - (intOf i).toNat)
  case atStart => exact ⟨0, rfl, Nat.zero_le _, Lib.hid ⟨World.ownsRow_nil _ _ _ _, Below.refl _ _⟩⟩
  case round =>
    obtain ⟨j, rfl, hj, HR⟩ := hrel
    have i1 : (0 : Int) ≤ (j : Int) := by omega
    obtain ⟨y3, d3, hy3⟩ := ownsRow_is HR.out.row
    subst hy3
    by_cases hlt : j < N
    · have i2 : (j : Int) < (N : Int) := by omega
      obtain ⟨g, rfl, hg, hgc, hget⟩ := run_get H4.out j hlt
      rw [← HRS.out] at hget
      have ce := (HR.out.bel.cell (p := ⟨g, j, none⟩) hg).trans (hget j hlt)
      have HTK : Hid (RS.take (j + 1) = RS.take j ++ [RS.getD j 0]) := Lib.hid (by
        have h1 : j < RS.length := by have := HNI.out; omega
        rw [List.take_succ_eq_append_getElem h1, List.getD_eq_getElem?_getD, List.getElem?_eq_getElem h1]; rfl)
      have HGC := Lib.hid (And.intro hg (And.intro hgc hget))
      obtain ⟨r, hr⟩ : ∃ r, r = RS.getD j 0 := ⟨_, rfl⟩
      rw [← hr] at HTK ce
      have HRR := Lib.hid hr
      have HSN := Lib.hid (outR_snoc (RS.take j) r)
      rw [← HTK.out] at HSN
      have HLO := Lib.hid (outR_len (RS.take j))
      have HSH := Lib.hid (outR_short (RS.take j))
      obtain ⟨O, hO⟩ : ∃ O, O = outR (RS.take j) := ⟨_, rfl⟩
      rw [← hO] at HSN HR HLO HSH ⊢
      have hOL : O.length ≤ 900001 := by have := HLO.out; simp at this; omega
      have hgl : g < wr.heap.size := by have := HR.out.bel.size; omega
      clear hget hg hgc hr hO
      go_wp2_with (first | (go_at_call 43; fail))
      go_at_call 43
      refine (rbytes r _).mono ?_
      rintro e w2 ⟨gb, rfl, hgb, hge, hb2⟩
      have hcv2 := conv_back w2 gb (rb r) hgb
      have H2 := Lib.hid (HR.out.below hb2)
      have ce2 : w2.cell? ⟨g, j, none⟩ = some (.int .i32 r) := (hb2.cell (p := ⟨g, j, none⟩) hgl).trans ce
      have hgl2 : g < w2.heap.size := by have := hb2.size; omega
      have hrl := rb_len r
      have HOF := Lib.hid (rOf r)
      have HMK := Lib.hid (rMark3 r)
      obtain ⟨B, hB⟩ : ∃ B, B = rb r := ⟨_, rfl⟩
      obtain ⟨TB, hTB⟩ : ∃ T, T = tx (rb r) := ⟨_, rfl⟩
      have hTBs : TB.size = B.length := by rw [hTB, show (tx (rb r)).size = (rb r).length from by simp [tx, ByteArray.size], hB]
      have HTB : Hid (TB = tx B) := Lib.hid (by rw [hTB, hB])
      rw [← hTB] at hcv2
      rw [← hB] at hcv2 HSN hrl ⊢
      obtain ⟨V, hV⟩ : ∃ V, V = ofW r := ⟨_, rfl⟩
      obtain ⟨M, hM⟩ : ∃ M, M = isMk r := ⟨_, rfl⟩
      rw [← hV] at HOF HSN
      rw [← hM] at HMK HSN
      clear hgb hge hb2 HR ce hgl hB hTB hV hM
      by_cases h0 : 0 < V
      · have HS : Hid (outR (RS.take (j + 1)) = O ++ [B]) := Lib.hid (by rw [HSN.out, if_pos h0])
        clear HSN
        go_wp2_with (first | (go_at_call 44; fail))
        go_at_call 44
        refine (HOF.out _).mono ?_
        rintro e w3 ⟨rfl, hb3⟩
        have H3 := Lib.hid (H2.out.below hb3)
        clear hb3 ce2 hcv2 H2
        go_wp2_with (at_builtin; go_loud (refine wpList_append_own _ rfl _ _ 26 rfl w1.heap.size 9 ti (.string ⟨#[]⟩) 1 16 Tryz.underlying26 HP.out.1 HP.out.2.1 HP.out.2.2.1 HP.out.2.2.2 rfl (by decide) _ _ _ rfl (H3.out.row.alloc _) ⟨w3.heap.size, 0, none⟩ 1 1 [.string TB] rfl rfl (cell_one_new _ _ _) (by simp [Value.oneCell']) (by unfold maxLen; omega) (by omega) (by have := H3.out.bel.size; simp; omega) ?_))
        intro v' w4 ho hg4 _
        have H4' := Lib.hid (H3.out.app (X := B) (by rw [← HTB.out]; exact ho) hg4)
        clear ho hg4
        go_wp2
        go_roundw
        case rel => exact ⟨j + 1, by go_num, by omega, Lib.hid (by rw [HS.out]; exact H4'.out)⟩
        case measure => simp [intOf]; omega
      · have HV0 := Lib.hid h0
        by_cases hM : M = true
        · subst hM
          have hnn : 0 ≤ O.length := Nat.zero_le _
          by_cases hO0 : O = []
          · have HS : Hid (outR (RS.take (j + 1)) = O) := Lib.hid (by rw [HSN.out, if_neg (by have := HV0.out; omega), if_neg (fun q => q.2.1 hO0)])
            have hl0 : O.length = 0 := by rw [hO0]; rfl
            rw [hl0]
            clear HSN hO0
            go_wp2_with (first | (go_at_call 44; fail))
            go_at_call 44
            refine (HOF.out _).mono ?_
            rintro e w3 ⟨rfl, hb3⟩
            have H3 := Lib.hid (H2.out.below hb3)
            have ce3 : w3.cell? ⟨g, j, none⟩ = some (.int .i32 r) := (hb3.cell (p := ⟨g, j, none⟩) hgl2).trans ce2
            clear hb3 ce2 hcv2 H2
            go_wp2_with (first | (go_at_call 45; fail))
            go_at_call 45
            refine (HMK.out _).mono ?_
            rintro e w4 ⟨rfl, hb4⟩
            have H4' := Lib.hid (H3.out.below hb4)
            clear hb4 H3 ce3
            rw [hl0] at H4'
            go_wp2
            go_roundw
            case rel => exact ⟨j + 1, by go_num, by omega, Lib.hid (by rw [HS.out]; exact H4'.out)⟩
            case measure => simp [intOf]; omega
          · have hlp : 0 < O.length := List.length_pos_iff.2 hO0
            obtain ⟨q, hq⟩ : ∃ q, O.length = q + 1 := ⟨O.length - 1, by omega⟩
            obtain ⟨g3, e3, hg3, hgc3, hget3⟩ := rowK_get H2.out.row q (by omega)
            subst e3
            have HLI : Hid (lastI O = O.getD q []) := Lib.hid (by unfold lastI; rw [hq]; rfl)
            have HG3 := Lib.hid (And.intro hg3 (And.intro hgc3 (hget3 q (by omega))))
            rw [hq] at hgc3
            have HQ := Lib.hid hq
            rw [hq]
            have hq1 : q ≤ 900001 := by omega
            obtain ⟨X, hX⟩ : ∃ X, X = O.getD q [] := ⟨_, rfl⟩
            rw [← hX] at HLI HG3
            obtain ⟨TX, hTX⟩ : ∃ T, T = tx X := ⟨_, rfl⟩
            rw [← hTX] at HG3
            have HTX := Lib.hid hTX
            have hTXs : TX.size = X.length := by rw [hTX, tx_sizeK]
            have hTX64 : TX.size ≤ 64 := by rw [hTXs, hX]; exact getD_lenK HSH.out q
            have hTB4 : TB.size ≤ 4 := by omega
            have hzz : 0 ≤ q := Nat.zero_le _
            have z1 : (0 : Int) ≤ (q : Int) := by omega
            have z2 : (q : Int) < (q : Int) + 1 := by omega
            have hON := Lib.hid hO0
            clear hX hTX hget3 hq hlp hO0 hnn hg3
            go_wp2_with (first | (go_at_call 44; fail))
            go_at_call 44
            refine (HOF.out _).mono ?_
            rintro e w3 ⟨rfl, hb3⟩
            have H3 := Lib.hid (H2.out.below hb3)
            have ce3 : w3.cell? ⟨g, j, none⟩ = some (.int .i32 r) := (hb3.cell (p := ⟨g, j, none⟩) hgl2).trans ce2
            have cx3 : w3.cell? ⟨g3, q, none⟩ = some (.string TX) := (hb3.cell (p := ⟨g3, q, none⟩) HG3.out.1).trans HG3.out.2.2
            have hl3 : g3 < w3.heap.size := by have := hb3.size; have := HG3.out.1; omega
            clear hb3 ce2 hcv2 H2
            go_wp2_with (first | (go_at_call 45; fail))
            go_at_call 45
            refine (HMK.out _).mono ?_
            rintro e w4 ⟨rfl, hb4⟩
            have H4' := Lib.hid (H3.out.below hb4)
            have cx4 : w4.cell? ⟨g3, q, none⟩ = some (.string TX) := (hb4.cell (p := ⟨g3, q, none⟩) hl3).trans cx3
            clear hb4 H3 ce3 cx3
            obtain ⟨cur, hcur⟩ := own_cells H4'.out.row g3 rfl
            have f4 : w4.frozen? ⟨g3, q, none⟩ = false := by simp [World.frozen?, hcur]
            clear hcur
            rw [HLI.out, ← hTXs, ← hTBs, HQ.out] at HSN
            by_cases h64 : TX.size + TB.size ≤ 64
            · have HS : Hid (outR (RS.take (j + 1)) = O.set q (X ++ B)) := Lib.hid (by rw [HSN.out, if_neg (by have := HV0.out; omega), if_pos (by first | exact ⟨rfl, hON.out, h64⟩ | exact ⟨trivial, hON.out, h64⟩)]; rfl)
              have HCA : Hid (TX ++ TB = tx (X ++ B)) := Lib.hid (by rw [HTX.out, HTB.out]; apply ByteArray.ext; simp [tx])
              have HNX := Lib.hid (H4'.out.set (X := X ++ B) (k := q) (by have := HQ.out; omega))
              rw [← HCA.out, HQ.out] at HNX
              have z3 : (TX.size : Int) + (TB.size : Int) ≤ 64 := by omega
              clear HSN hTXs hTBs
              go_wp2
              go_roundw
              case rel => exact ⟨j + 1, by go_num, by omega, Lib.hid (by rw [HS.out]; exact HNX.out)⟩
              case measure => simp [intOf]; omega
            · have HS : Hid (outR (RS.take (j + 1)) = O) := Lib.hid (by rw [HSN.out, if_neg (by have := HV0.out; omega), if_neg (fun z => h64 z.2.2)])
              have z3 : ¬ (TX.size : Int) + (TB.size : Int) ≤ 64 := by omega
              have HNX := Lib.hid H4'.out
              rw [HQ.out] at HNX
              clear HSN hTXs hTBs
              go_wp2
              go_roundw
              case rel => exact ⟨j + 1, by go_num, by omega, Lib.hid (by rw [HS.out]; exact HNX.out)⟩
              case measure => simp [intOf]; omega
        · have hM' : M = false := by simpa using hM
          subst hM'
          have HS : Hid (outR (RS.take (j + 1)) = O) := Lib.hid (by rw [HSN.out, if_neg (by have := HV0.out; omega), if_neg (fun z => by cases z.1)])
          clear HSN hM
          obtain ⟨nO, hnO⟩ : ∃ nO, nO = O.length := ⟨_, rfl⟩
          have HNO := Lib.hid hnO
          rw [← hnO] at hOL ⊢
          clear hnO
          go_wp2_with (first | (go_at_call 44; fail))
          go_at_call 44
          refine (HOF.out _).mono ?_
          rintro e w3 ⟨rfl, hb3⟩
          have H3 := Lib.hid (H2.out.below hb3)
          have ce3 : w3.cell? ⟨g, j, none⟩ = some (.int .i32 r) := (hb3.cell (p := ⟨g, j, none⟩) hgl2).trans ce2
          clear hb3 ce2 hcv2 H2
          go_wp2_with (first | (go_at_call 45; fail))
          go_at_call 45
          refine (HMK.out _).mono ?_
          rintro e w4 ⟨rfl, hb4⟩
          have H4' := Lib.hid (H3.out.below hb4)
          rw [← HNO.out] at H4'
          clear hb4 H3 ce3
          go_wp2
          go_roundw
          case rel => exact ⟨j + 1, by go_num, by omega, Lib.hid (by rw [HS.out]; exact H4'.out)⟩
          case measure => simp [intOf]; omega
    · have i2 : ¬ (j : Int) < (N : Int) := by omega
      have hRJ : RS.take j = RS := List.take_of_length_le (by have := HNI.out; omega)
      have hE : outR (RS.take j) = cutS l := by rw [hRJ, cutS_out, HRS.out]
      rw [hE] at HR ⊢
      have HEN : Hid (CutEnd l w (.returned (.slice y3 (cutS l).length d3)) wr) := Lib.hid ⟨_, rfl, row_lower HR.out.row (by have := HB1.out.size; omega), HB1.out.trans (below_le HR.out.bel HB1.out.size)⟩
      clear HR hE hRJ
      go_wp2
      go_ret
      exact HEN.out
end Go.Proofs.YtdehjofmangmbaaGreat
