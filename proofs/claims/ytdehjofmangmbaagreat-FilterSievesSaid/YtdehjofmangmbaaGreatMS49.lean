/- Own texts, merged: FT, G3. -/
import Derived.Test.YtdehjofmangmbaaGreatMS45
import Derived.Test.YtdehjofmangmbaaGreatMS47
import Derived.Test.YtdehjofmangmbaaGreatMS48
/- Walks: same, the law FilterCosts. -/
namespace Go.Proofs.YtdehjofmangmbaaGreat
open Go.RowKit Go.Shelf
theorem IntV.at_ {W : World} {v : Value} {l : List Nat} (h : IntV W v l) : ∃ x c, v = .slice x l.length c ∧ l.length ≤ c ∧ ∀ W', Below W.heap.size W W' → l ≠ [] → ∃ g, x = some ⟨g, 0, none⟩ ∧ ∀ i, i < l.length → W'.cell? ⟨g, i, none⟩ = some (.int .i64 (l.getD i 0 : Nat)) := by
  obtain ⟨x, c, h1, h2, h3⟩ := h
  refine ⟨x, c, h1, h2, fun W' hB hne => ?_⟩
  obtain ⟨g, e, hg, hc⟩ := h3 hne
  exact ⟨g, e, fun i hi => (hB.cell (p := ⟨g, i, none⟩) hg).trans (hc i hi)⟩
set_option maxHeartbeats 2000000 in
theorem lsame (v1 v2 : Value) (l : List Nat) (hl : l.length ≤ 490000000000) (w : World) (h1 : IntV w v1 l) (h2 : IntV w v2 l) : Calls Tryz.prog 19 #[v1, v2] w fun e w' => e = .returned (.bool true) ∧ Below w.heap.size w w' := by
  obtain ⟨x1, c1, rfl, k1, f1⟩ := h1.at_
  obtain ⟨x2, c2, rfl, k2, f2⟩ := h2.at_
  have HX := Lib.hid f1
  have HY := Lib.hid f2
  have HNE : Hid (∀ i, i < l.length → l ≠ []) := Lib.hid (fun i hi e => by rw [e] at hi; simp at hi)
  have n1 : ((l.length : Int) != (l.length : Int)) = false := by simp
  generalize hgn : l.length = n at *
  clear f1 f2 h1 h2 hgn
  go_enter Tryz.func19, Tryz.ntmps19
  go_wp2
  go_loopw [5] (fun i wr => ∃ k : Nat, k ≤ n ∧ i = .int .i64 (k : Int) ∧ Hid (Below w.heap.size w wr)) (fun i _ => n - (intOf i).toNat)
  case atStart => exact ⟨0, by omega, rfl, Lib.hid (Below.refl _ _)⟩
  case round =>
    obtain ⟨k, hk, rfl, HW⟩ := hrel
    have i1 : (0 : Int) ≤ (k : Int) := by omega
    by_cases hlt : k < n
    · have i2 : (k : Int) < (n : Int) := by omega
      obtain ⟨g1, rfl, hg1⟩ := HX.out wr HW.out (HNE.out k hlt)
      obtain ⟨g2, rfl, hg2⟩ := HY.out wr HW.out (HNE.out k hlt)
      have e1 := hg1 k hlt
      have e2 := hg2 k hlt
      generalize l.getD k 0 = a at e1 e2
      have n2 : ((a : Int) != (a : Int)) = false := by simp
      have HB2 : Hid (∀ nq, Below w.heap.size w (wr.drewN nq)) := Lib.hid (fun nq => below_drewN HW.out nq)
      clear hg1 hg2
      go_wp2
      go_quiet (fail)
      go_wp2
      go_roundw
      case rel => exact ⟨k + 1, by omega, by go_num, HB2.out _⟩
      case measure => simp [intOf]; omega
    · have i2 : ¬ (k : Int) < (n : Int) := by omega
      go_wp2
      go_ret
      exact ⟨rfl, HW.out⟩
theorem mks_inc (a b : Bs) : (mksS a b).Pairwise (· < ·) ∧ ∀ x ∈ mksS a b, x < (clS a).length := by
  rw [mks_any]
  unfold mkL
  exact ⟨List.Pairwise.filter _ List.pairwise_lt_range, fun x hx => List.mem_range.1 (List.mem_filter.1 hx).1⟩
/-- The clusters at places, one behind the other. -/
def putAt (o : List Bs) (l : List Nat) (k : Nat) : Bs := ((l.take k).map (fun i => o.getD i [])).flatten
theorem putAt_succ (o : List Bs) (l : List Nat) (k : Nat) (hk : k < l.length) : putAt o l (k + 1) = putAt o l k ++ o.getD (l.getD k 0) [] := by
  unfold putAt
  rw [List.take_succ_eq_append_getElem hk, List.map_append, List.flatten_append, List.getD_eq_getElem?_getD (l := l), List.getElem?_eq_getElem hk]
  simp
theorem putAt_len (o : List Bs) (l : List Nat) (ho : ∀ c ∈ o, c.length ≤ 64) : ∀ k, (putAt o l k).length ≤ 64 * k := by
  intro k
  unfold putAt
  have h := flat_short ((l.take k).map (fun i => o.getD i [])) (fun c hc => by
    obtain ⟨i, _, rfl⟩ := List.mem_map.1 hc
    rw [List.getD_eq_getElem?_getD]
    rcases Nat.lt_or_ge i o.length with q | q
    · rw [List.getElem?_eq_getElem q]; exact ho _ (List.getElem_mem _)
    · rw [List.getElem?_eq_none q]; simp)
  rw [List.length_map, List.length_take] at h
  omega
theorem costs_one {a b : Bs} {wd : List Bs} (hw : wds b = [wd]) (hs : (ksS a b).isSome = true) : putAt (clS a) (mksS a b) (mksS a b).length = wd.flatten := by
  cases hk : ksS a b with
  | none => rw [hk] at hs; cases hs
  | some f =>
    unfold ksS at hk
    rw [hw] at hk
    obtain ⟨g, hg, rfl⟩ := kep_one hk
    rw [mks_one hw hg]
    unfold putAt
    rw [List.take_length]
    congr 1
    obtain ⟨h1, h2⟩ := fnd_word hg
    refine List.ext_getElem (by rw [List.length_map]; exact h1) (fun k k1 k2 => ?_)
    have := h2 k k2
    rw [List.getElem_map]
    rw [List.length_map] at k1
    rw [List.getD_eq_getElem?_getD (l := g.at_), List.getElem?_eq_getElem k1, List.getD_eq_getElem?_getD (l := wd), List.getElem?_eq_getElem k2] at this
    exact this
theorem tx_app (a b : Bs) : tx a ++ tx b = tx (a ++ b) := by unfold tx; apply ByteArray.ext; apply Array.ext'; simp
set_option maxRecDepth 100000 in
set_option maxHeartbeats 4000000 in
theorem costs_law (x y : Bs) (w : World) : Calls Tryz.prog 4 #[.string (tx x), .string (tx y)] w fun e w' => e = .returned (.bool true) ∧ Below w.heap.size w w' := by
  have HX := Lib.hid (fun W => lcut x W)
  have HY := Lib.hid (fun W => lcut y W)
  have ha : (x.take 60).length ≤ 60 := by rw [List.length_take]; omega
  have hb : (y.take 60).length ≤ 60 := by rw [List.length_take]; omega
  generalize x.take 60 = a at HX ha
  generalize y.take 60 = b at HY hb
  generalize tx x = TX at HX ⊢
  generalize tx y = TY at HY ⊢
  have HCW := Lib.hid (fun W => wcost a b (by omega) (by omega) W)
  have HCR := Lib.hid (fun W => rcost a b (by omega) (by omega) W)
  have HMW := Lib.hid (fun W => wmarksF a b (by omega) (by omega) W)
  have HMR := Lib.hid (fun W => rmarksF a b (by omega) (by omega) W)
  have HWW := Lib.hid (fun W => wWords b (by omega) W)
  have HFW := Lib.hid (fun W => wfold a (by omega) W)
  have HCU := Lib.hid (fun W => rcut (foldS a) (by have := foldS_len a; omega) W)
  unfold RkEnd at HCW HCR
  unfold MkEnd at HMW HMR
  unfold WrdEnd at HWW
  unfold CutEnd at HCU
  have HCL : Hid (cutS (foldS a) = clS a) := Lib.hid rfl
  rw [HCL.out] at HCU
  have HON : Hid ((ksS a b).isSome = true → ∀ wd, wds b = [wd] → putAt (clS a) (mksS a b) (mksS a b).length = wd.flatten) := Lib.hid (fun hs wd hw => costs_one hw hs)
  have HNO : Hid ((ksS a b).isSome = false → mksS a b = []) := Lib.hid (fun h => mks_none (by cases hk : ksS a b with | none => rfl | some f => rw [hk] at h; cases h))
  have hinc := mks_inc a b
  have hml := inc_len hinc.1 hinc.2
  have hol : (clS a).length ≤ 4000 := by have := clS_len a; omega
  have HPL := Lib.hid (putAt_len (clS a) (mksS a b) (clS_short a))
  have hwl : (wds b).length ≤ 4000 := by have := wds_len b; have := clS_len b; omega
  generalize clS a = o at HON HCU hinc hml hol HPL
  generalize mksS a b = l at HON HNO HMW HMR hinc hml HPL
  generalize wds b = ws at HON HWW hwl
  generalize fnd0 (ksS a b) = f at HCW HCR
  generalize (ksS a b).isSome = s at HCW HCR HON HNO
  generalize f.rank = r at HCW HCR
  generalize f.gaps = g at HCW HCR
  generalize tx (foldS a) = TF at HFW HCU
  generalize tx a = TA at HX HCW HCR HMW HMR HFW
  generalize tx b = TB at HY HCW HCR HMW HMR HWW
  have HIN := Lib.hid hinc
  have hl4 : l.length ≤ 4000 := by omega
  have n1 : ((r : Int) != (r : Int)) = false := by simp
  have n2 : ((g : Int) != (g : Int)) = false := by simp
  have n4 : (s != s) = false := by simp
  clear ha hb HCL hinc hml
  go_enter Tryz.func4, Tryz.ntmps4
  go_wp2_with (first | (go_at_call 7; fail))
  refine (HX.out w).mono ?_
  rintro e w' ⟨rfl, rfl⟩
  go_wp2_with (first | (go_at_call 7; fail))
  refine (HY.out w).mono ?_
  rintro e w' ⟨rfl, rfl⟩
  go_wp2_with (first | (go_at_call 16; fail))
  refine (HCW.out w).mono ?_
  rintro e w1 ⟨rfl, hb1⟩
  have HB1 := Lib.hid hb1
  clear hb1
  go_wp2_with (first | (go_at_call 17; fail))
  refine (HCR.out w1).mono ?_
  rintro e w2 ⟨rfl, hb2⟩
  have HB2 := Lib.hid (HB1.out.trans (below_le hb2 HB1.out.size))
  clear hb2 HB1
  go_wp2_with (first | (go_at_call 18; fail))
  refine (HMW.out w2).mono ?_
  rintro e w3 ⟨v3, rfl, hv3, hb3⟩
  have HB3 := Lib.hid (HB2.out.trans (below_le hb3 HB2.out.size))
  have HV3 := Lib.hid hv3
  obtain ⟨x3, c3, rfl, hc3, _⟩ := hv3
  clear hb3 HB2
  go_wp2_with (first | (go_at_call 20; fail))
  refine (HMR.out w3).mono ?_
  rintro e w4 ⟨v4, rfl, hv4, hb4⟩
  have HB4 := Lib.hid (HB3.out.trans (below_le hb4 HB3.out.size))
  have HV3' := Lib.hid (HV3.out.below hb4)
  have HV4 := Lib.hid hv4
  obtain ⟨x4, c4, rfl, _⟩ := hv4
  clear hb4 HB3 HV3
  go_wp2_with (first | (go_at_call 19; fail))
  refine (lsame _ _ l (by omega) w4 HV3'.out HV4.out).mono ?_
  rintro e w5 ⟨rfl, hb5⟩
  have HB5 := Lib.hid (HB4.out.trans (below_le hb5 HB4.out.size))
  have HV5 := Lib.hid (HV3'.out.below hb5)
  clear hb5 HB4 HV3' HV4
  cases s with
  | false =>
    have hnil := HNO.out rfl
    have hl0 : l.length = 0 := by rw [hnil]; rfl
    rw [hl0]
    clear hnil hl0 HV5 HON HNO HIN HPL HCU hl4 hc3
    go_wp2_with (first | (go_at_call 15; fail))
    refine (wawake w5).mono ?_
    rintro e w6 ⟨rfl, hb6⟩
    have HB6 := Lib.hid (HB5.out.trans (below_le hb6 HB5.out.size))
    clear hb6 HB5
    go_wp2_with (first | (go_at_call 13; fail))
    refine (HWW.out w6).mono ?_
    rintro e w7 ⟨v7, rfl, hv7, hb7⟩
    have HB7 := Lib.hid (HB6.out.trans (below_le hb7 HB6.out.size))
    clear hb7 HB6 hv7
    go_wp2
    go_ret
    exact ⟨rfl, HB7.out⟩
  | true =>
    clear HNO
    go_wp2_with (first | (go_at_call 15; fail))
    refine (wawake w5).mono ?_
    rintro e w6 ⟨rfl, hb6⟩
    have HB6 := Lib.hid (HB5.out.trans (below_le hb6 HB5.out.size))
    have HV6 := Lib.hid (HV5.out.below hb6)
    clear hb6 HB5 HV5
    go_wp2_with (first | (go_at_call 13; fail))
    refine (HWW.out w6).mono ?_
    rintro e w7 ⟨v7, rfl, hv7, hb7⟩
    have HB7 := Lib.hid (HB6.out.trans (below_le hb7 HB6.out.size))
    have HV7 := Lib.hid (HV6.out.below hb7)
    rw [← List.length_map (f := List.flatten)] at hv7
    have ht7 := TxV.of_row hv7 (by rw [List.length_map]; omega)
    rw [List.length_map] at hv7
    obtain ⟨x7, c7, he7, hq7, _, hget7⟩ := ht7.old
    rw [List.length_map] at he7 hq7 hget7
    subst he7
    have HT7 := Lib.hid hget7
    clear hb7 HB6 HV6 hv7 ht7 hget7
    by_cases h1 : ws.length = 1
    · obtain ⟨wd, rfl⟩ : ∃ wd, ws = [wd] := List.length_eq_one_iff.1 h1
      have HEQ : Hid (putAt o l l.length = wd.flatten) := Lib.hid (by have h := HON.out; first | exact h rfl wd rfl | exact h trivial wd rfl | simpa using h)
      obtain ⟨g7, o7, rfl, hg7, hget7⟩ := HT7.out (by simp)
      have k7 : w7.cell? ⟨g7, o7, none⟩ = some (.string (tx wd.flatten)) := hget7 0 (by simp)
      have l1 : ([wd] : List (List Bs)).length = 1 := rfl
      rw [l1] at hq7 ⊢
      clear HT7 HON hget7 h1 l1 hwl
      go_wp2_with (first | (go_at_call 10; fail))
      refine (HFW.out w7).mono ?_
      rintro e w8 ⟨rfl, hb8⟩
      have HB8 := Lib.hid (HB7.out.trans (below_le hb8 HB7.out.size))
      have HV8 := Lib.hid (HV7.out.below hb8)
      have k8 := (hb8.cell (p := ⟨g7, o7, none⟩) hg7).trans k7
      have hg8 := Nat.lt_of_lt_of_le hg7 hb8.size
      clear hb8 HB7 HV7 hg7 k7
      go_wp2_with (first | (go_at_call 21; fail))
      refine (HCU.out w8).mono ?_
      rintro e w9 ⟨v9, rfl, hv9, hb9⟩
      have HB9 := Lib.hid (HB8.out.trans (below_le hb9 HB8.out.size))
      have HV9 := Lib.hid (HV8.out.below hb9)
      have HK9 := Lib.hid ((hb9.cell (p := ⟨g7, o7, none⟩) hg8).trans k8)
      have HG9 := Lib.hid (Nat.lt_of_lt_of_le hg8 hb9.size)
      have ht9 := TxV.of_row hv9 (by omega)
      obtain ⟨x9, c9, rfl, hq9, _, hget9⟩ := ht9.old
      have HT9 := Lib.hid hget9
      obtain ⟨x', c', he, _, hl9⟩ := HV9.out.at_
      obtain ⟨rfl, rfl⟩ : x3 = x' ∧ c3 = c' := by simpa using he
      have HL9 := Lib.hid hl9
      clear hb9 HB8 HV8 hg8 k8 hv9 ht9 hget9 HCU HFW HWW HMW HMR HCW HCR HX HY he hl9 HV9 n1 n2 n4
      go_wp2
      go_loopw [14, 15] (fun t i wr => ∃ k : Nat, t = .string (tx (putAt o l k)) ∧ i = .int .i64 (k : Int) ∧ k ≤ l.length ∧ Hid (Below w9.heap.size w9 wr)) (fun _ i _ => l.length - (intOf i).toNat)
      case atStart => exact ⟨0, rfl, rfl, Nat.zero_le _, Lib.hid (Below.refl _ _)⟩
      case round =>
        obtain ⟨k, rfl, rfl, hk, HW⟩ := hrel
        have i1 : (0 : Int) ≤ (k : Int) := by omega
        by_cases hlt : k < l.length
        · have i2 : (k : Int) < (l.length : Int) := by omega
          have hne : l ≠ [] := List.ne_nil_of_length_pos (by omega)
          obtain ⟨gl, rfl, hgl⟩ := HL9.out wr HW.out hne
          have e1 := hgl k hlt
          have hbd := HIN.out.2 (l.getD k 0) (getD_mem hlt)
          obtain ⟨go, oo, rfl, hgo, hgc⟩ := HT9.out (List.ne_nil_of_length_pos (by omega))
          have e2 : wr.cell? ⟨go, oo + l.getD k 0, none⟩ = some (.string (tx (o.getD (l.getD k 0) []))) := (HW.out.cell (p := ⟨go, oo + l.getD k 0, none⟩) hgo).trans (hgc _ hbd)
          have HPS := Lib.hid (putAt_succ o l k hlt)
          have hs1 : (tx (putAt o l k)).size ≤ 256000 := by
            have := HPL.out k
            have h2 : (tx (putAt o l k)).size = (putAt o l k).length := by simp [tx, ByteArray.size]
            omega
          have hs2 : (tx (o.getD (l.getD k 0) [])).size ≤ 256000 := by
            have := HPL.out (k + 1)
            rw [HPS.out, List.length_append] at this
            have h2 : (tx (o.getD (l.getD k 0) [])).size = (o.getD (l.getD k 0) []).length := by simp [tx, ByteArray.size]
            omega
          have HTA : Hid (tx (putAt o l k) ++ tx (o.getD (l.getD k 0) []) = tx (putAt o l (k + 1))) := Lib.hid (by rw [tx_app, HPS.out])
          have hprev : 0 < k → wr.cell? ⟨gl, k - 1, none⟩ = some (.int .i64 (l.getD (k - 1) 0 : Nat)) ∧ l.getD (k - 1) 0 < l.getD k 0 := fun h => ⟨hgl (k - 1) (by omega), by
            have := List.pairwise_iff_getElem.1 HIN.out.1 (k - 1) k (by omega) hlt (by omega)
            rw [List.getD_eq_getElem?_getD, List.getElem?_eq_getElem (by omega), List.getD_eq_getElem?_getD, List.getElem?_eq_getElem hlt]
            exact this⟩
          generalize l.getD k 0 = q at e1 e2 hbd HTA hs2 hprev
          generalize tx (o.getD q []) = U at e2 HTA hs2
          generalize tx (putAt o l k) = V at HTA hs1 ⊢
          have HB2 : Hid (∀ nq, Below w9.heap.size w9 (wr.drewN nq)) := Lib.hid (fun nq => below_drewN HW.out nq)
          have j1 : ¬ (q : Int) < 0 := by omega
          have j2 : ¬ (o.length : Int) ≤ (q : Int) := by omega
          clear hgl hgc hne HPS
          rcases Nat.eq_zero_or_pos k with hk0 | hk0
          · subst hk0
            clear hprev
            have d1 : decide ((q : Int) < 0) = false := decide_eq_false j1
            have d2 : decide (o.length ≤ q) = false := decide_eq_false (by omega)
            have d3 : decide ((o.length : Int) ≤ (q : Int)) = false := decide_eq_false (by omega)
            go_wp2
            go_quiet (fail)
            have k1 : (wr.drewN nq).cell? ⟨gl, 0, none⟩ = some (.int .i64 (q : Int)) := by simpa [go_sem] using e1
            have k2 : (wr.drewN nq).cell? ⟨go, oo + q, none⟩ = some (.string U) := by simpa [go_sem] using e2
            have HB3 := Lib.hid (HB2.out nq)
            clear e1 e2 HB2 d1 d2 d3
            generalize wr.drewN nq = wz at k1 k2 HB3 ⊢
            go_wp2
            rw [HTA.out]
            go_roundw
            case rel => exact ⟨0 + 1, rfl, by go_num, by omega, HB3⟩
            case measure => simp [intOf]; omega
          · obtain ⟨k', rfl⟩ : ∃ k', k = k' + 1 := ⟨k - 1, by omega⟩
            obtain ⟨e3, hpq⟩ := hprev (by omega)
            rw [Nat.add_sub_cancel] at e3 hpq
            generalize l.getD k' 0 = p at e3 hpq
            have d1 : decide ((q : Int) < 0) = false := decide_eq_false j1
            have d2 : decide (o.length ≤ q) = false := decide_eq_false (by omega)
            have d3 : decide ((o.length : Int) ≤ (q : Int)) = false := decide_eq_false (by omega)
            have d4 : decide (q ≤ p) = false := decide_eq_false (by omega)
            have d5 : decide ((q : Int) ≤ (p : Int)) = false := decide_eq_false (by omega)
            have d6 : decide ((0 : Int) < ((k' + 1 : Nat) : Int)) = true := decide_eq_true (by omega)
            clear hprev hk0
            go_wp2
            go_quiet (fail)
            have k1 : (wr.drewN nq).cell? ⟨gl, k' + 1, none⟩ = some (.int .i64 (q : Int)) := by simpa [go_sem] using e1
            have k2 : (wr.drewN nq).cell? ⟨go, oo + q, none⟩ = some (.string U) := by simpa [go_sem] using e2
            have HB3 := Lib.hid (HB2.out nq)
            clear e1 e2 HB2 d1 d2 d3 e3 d4 d5 d6
            generalize wr.drewN nq = wz at k1 k2 HB3 ⊢
            go_wp2
            rw [HTA.out]
            go_roundw
            case rel => exact ⟨k' + 1 + 1, rfl, by go_num, by omega, HB3⟩
            case measure => simp [intOf]; omega
        · obtain rfl : k = l.length := by omega
          have i2 : ¬ (l.length : Int) < (l.length : Int) := by omega
          have k9 := (HW.out.cell (p := ⟨g7, o7, none⟩) HG9.out).trans HK9.out
          have HBE := Lib.hid (HB9.out.trans (below_le HW.out HB9.out.size))
          rw [HEQ.out]
          generalize tx wd.flatten = V at k9 ⊢
          clear HW
          go_wp2
          go_ret
          exact ⟨by first | rfl | exact ret_bool (by simp), HBE.out⟩
    · have h2 : ((ws.length : Int) != 1) = true := by rw [bne_iff_ne]; omega
      clear HT7 HON
      go_wp2
      go_ret
      exact ⟨rfl, HB7.out⟩
theorem costs_any (x y : ByteArray) (w : World) : Calls Tryz.prog 4 #[.string x, .string y] w fun e w' => e = .returned (.bool true) ∧ Below w.heap.size w w' := by
  have h := costs_law x.data.toList y.data.toList w
  have e : ∀ s : ByteArray, tx s.data.toList = s := fun s => by simp [tx]
  rw [e, e] at h
  exact h
end Go.Proofs.YtdehjofmangmbaaGreat
/- Walks: the law FilterSieves. -/
namespace Go.Proofs.YtdehjofmangmbaaGreat
open Go.RowKit Go.Shelf
theorem sieT_lt (q : Bs) (opts : List Bs) : ∀ r ∈ sieT q opts, r < opts.length := by
  intro r hr
  unfold sieT at hr
  obtain ⟨p, hp, rfl⟩ := List.mem_map.1 hr
  have := (sie_perm (wds q) opts).mem_iff.1 hp
  rw [← plcN_all] at this
  exact (plcN_mem this).1
theorem sieT_le (q : Bs) (opts : List Bs) : (sieT q opts).length ≤ opts.length := by
  unfold sieT
  rw [List.length_map, (sie_perm (wds q) opts).length_eq, ← plcN_all]
  exact plcN_len _ _ _
theorem sieT_fold (q : Bs) (opts : List Bs) : sieT (foldS q) opts = sieT q opts := by unfold sieT; rw [wds_fold]
set_option maxRecDepth 100000 in
theorem wds_sp : wds [32] = [] := by kernel_rfl
theorem plc_all (opts : List Bs) : plcs [] opts = (List.range opts.length).map (fun i => (0, 0, i)) := by
  unfold plcs
  rw [← List.filterMap_eq_map]
  rfl
/-- Without a word all are kept as they stand. -/
theorem sieT_sp (opts : List Bs) : sieT [32] opts = List.range opts.length := by
  unfold sieT
  rw [wds_sp]
  have h : plcs [] opts = sieQ [] opts := sie_is (List.Perm.refl _) (by
    rw [plc_all, List.pairwise_map]
    refine List.pairwise_lt_range.imp (fun {a b} hab => ?_)
    rw [nahd_iff]
    simp only
    omega)
  have e : ((fun p : Plc => p.2.2) ∘ fun i : Nat => ((0, 0, i) : Plc)) = id := rfl
  rw [← h, plc_all, List.map_map, e, List.map_id]
/-- The first numbers of a row. -/
theorem IntV.head {W : World} {x : Option Addr} {c : Nat} {l : List Nat} (h : IntV W (.slice x l.length c) l) (k : Nat) (hk : k ≤ l.length) : IntV W (.slice x k c) (l.take k) := by
  obtain ⟨x', c', he, hc, hg⟩ := h
  obtain ⟨rfl, rfl⟩ : x = x' ∧ c = c' := by simpa using he
  have hl : (l.take k).length = k := by rw [List.length_take]; omega
  refine ⟨x, c, by rw [hl], by omega, fun hne => ?_⟩
  obtain ⟨g, e, hgl, hget⟩ := hg (fun q => hne (by rw [q]; simp))
  refine ⟨g, e, hgl, fun i hi => ?_⟩
  rw [hl] at hi
  rw [hget i (by omega), List.getD_eq_getElem?_getD, List.getD_eq_getElem?_getD, List.getElem?_take, if_pos hi]
set_option maxRecDepth 100000 in
set_option maxHeartbeats 4000000 in
theorem sieves_law (x : Bs) (x0 : Option Addr) (n0 c0 : Nat) (ss : List Bs) (st : Nat) (hst : st < 256) (w : World) (hc0 : n0 ≤ c0) (hs0 : StrsV w x0 n0 ss) : Calls Tryz.prog 5 #[.string (tx x), .slice x0 n0 c0, .int .u8 (st : Int)] w fun e w' => e = .returned (.bool true) ∧ Below w.heap.size w w' := by
  have HX := Lib.hid (fun W => lcut x W)
  have hq : (x.take 60).length ≤ 60 := by rw [List.length_take]; omega
  generalize x.take 60 = q at HX hq
  generalize tx x = TX at HX ⊢
  have HFE := Lib.hid (lfew x0 n0 c0 ss hc0 w hs0)
  have hsh := fewL_short ss 40
  have hln : (fewL ss 40).length ≤ 40 := by unfold fewL; rw [List.length_map, List.length_take]; omega
  generalize fewL ss 40 = L at HFE hsh hln
  have hlt := sieT_lt q L
  have hle := sieT_le q L
  have hsh2 : ∀ s ∈ L, s.length ≤ 10000 := fun s hs => by have := hsh s hs; omega
  have hfl := foldS_len q
  have HS1 := Lib.hid (fun v W (h : TxV W v L) => wsieve q v L (by omega) hsh2 W h)
  have HS2 := Lib.hid (fun v W (h : TxV W v L) => rsieve q v L (by omega) hsh2 (by omega) W h)
  have HS3 := Lib.hid (fun v W (h : TxV W v L) => wsieve (foldS q) v L (by omega) hsh2 W h)
  have HS4 := Lib.hid (fun v W (h : TxV W v L) => wsieve [32] v L (by decide) hsh2 W h)
  have HT1 := Lib.hid (fun xo co W (h : TxV W (.slice xo L.length co) L) => wtold q (by omega) L (by omega) hsh2 hlt (by omega) xo co 1000 (by omega) W h)
  have HT2 := Lib.hid (fun xo co W (h : TxV W (.slice xo L.length co) L) => wtold q (by omega) L (by omega) hsh2 hlt (by omega) xo co st (by omega) W h)
  have HFO := Lib.hid (fun W => wfold q (by omega) W)
  rw [sieT_fold] at HS3
  rw [sieT_sp] at HS4
  unfold SvEnd at HS1 HS3 HS4
  unfold ToldE at HT1 HT2
  generalize sieT q L = R at HS1 HS2 HS3 HT1 HT2 hlt hle
  have e1000 : R.take 1000 = R := List.take_of_length_le (by omega)
  rw [e1000] at HT1
  have hRl : R.length ≤ 40 := by omega
  have HRL : Hid (R.take st = R.take (min R.length st)) := Lib.hid (by
    rcases Nat.le_total R.length st with h | h
    · rw [Nat.min_eq_left h, List.take_length, List.take_of_length_le h]
    · rw [Nat.min_eq_right h])
  obtain ⟨RS, hRS⟩ : ∃ RS, RS = R.take st := ⟨_, rfl⟩
  rw [← hRS] at HT2 HRL
  have hRSl : RS.length ≤ 40 := by rw [hRS, List.length_take]; omega
  clear hRS
  generalize tx (foldS q) = TF at HFO HS3
  have HSP : Hid (tx [32] = ⟨#[32]⟩) := Lib.hid rfl
  rw [HSP.out] at HS4
  generalize tx q = TQ at HX HS1 HS2 HT1 HT2 HFO
  clear hlt hle hsh hsh2 hs0 hc0 hfl hq e1000
  go_enter Tryz.func5, Tryz.ntmps5
  go_wp2_with (first | (go_at_call 7; fail))
  refine (HX.out w).mono ?_
  rintro e w' ⟨rfl, rfl⟩
  go_wp2_with (first | (go_at_call 22; fail))
  refine HFE.out.mono ?_
  rintro e w1 ⟨v1, rfl, hv1, hb1⟩
  have ht1 := TxV.of_row hv1 (by omega)
  have HV1 := Lib.hid ht1
  have HB1 := Lib.hid hb1
  obtain ⟨x1, c1, rfl, hc1, _, _⟩ := ht1.old
  clear hv1 hb1 ht1 HFE
  go_wp2_with (first | (go_at_call 23; fail))
  refine (HS1.out _ w1 HV1.out).mono ?_
  rintro e w2 ⟨v2, rfl, hv2, hb2⟩
  have HR2 := Lib.hid hv2.view
  have HV2 := Lib.hid (HV1.out.below hb2)
  have HB2 := Lib.hid (HB1.out.trans (below_le hb2 HB1.out.size))
  obtain ⟨x2, c2, rfl, hc2, _⟩ := hv2.view
  clear hv2 hb2 HV1 HB1
  go_wp2_with (first | (go_at_call 24; fail))
  refine (HT1.out _ _ w2 HV2.out).mono ?_
  rintro e w3 ⟨x3, c3, rfl, hv3, hb3⟩
  have HM3 := Lib.hid hv3.view
  have HR3 := Lib.hid (HR2.out.below hb3)
  have HV3 := Lib.hid (HV2.out.below hb3)
  have HB3 := Lib.hid (HB2.out.trans (below_le hb3 HB2.out.size))
  clear hv3 hb3 HV2 HB2 HR2
  go_wp2_with (first | (go_at_call 24; fail))
  refine (HT2.out _ _ w3 HV3.out).mono ?_
  rintro e w4 ⟨x4, c4, rfl, hv4, hb4⟩
  have HN4 := Lib.hid hv4.view
  have HM4 := Lib.hid (HM3.out.below hb4)
  have HR4 := Lib.hid (HR3.out.below hb4)
  have HV4 := Lib.hid (HV3.out.below hb4)
  have HB4 := Lib.hid (HB3.out.trans (below_le hb4 HB3.out.size))
  clear hv4 hb4 HV3 HB3 HR3 HM3
  go_wp2_with (first | (go_at_call 25; fail))
  refine (HS2.out _ w4 HV4.out).mono ?_
  rintro e w5 ⟨v5, rfl, hv5, hb5⟩
  have HQ5 := Lib.hid hv5.view
  have HN5 := Lib.hid (HN4.out.below hb5)
  have HM5 := Lib.hid (HM4.out.below hb5)
  have HR5 := Lib.hid (HR4.out.below hb5)
  have HV5 := Lib.hid (HV4.out.below hb5)
  have HB5 := Lib.hid (HB4.out.trans (below_le hb5 HB4.out.size))
  obtain ⟨x5, c5, rfl⟩ := hv5.is
  clear hv5 hb5 HV4 HB4 HR4 HM4 HN4
  go_wp2_with (first | (go_at_call 19; fail))
  refine (lsame _ _ R (by omega) w5 HR5.out HQ5.out).mono ?_
  rintro e w6 ⟨rfl, hb6⟩
  have HN6 := Lib.hid (HN5.out.below hb6)
  have HM6 := Lib.hid (HM5.out.below hb6)
  have HR6 := Lib.hid (HR5.out.below hb6)
  have HV6 := Lib.hid (HV5.out.below hb6)
  have HB6 := Lib.hid (HB5.out.trans (below_le hb6 HB5.out.size))
  clear hb6 HV5 HB5 HR5 HM5 HN5 HQ5
  go_wp2_with (first | (go_at_call 19; fail))
  refine (lsame _ _ R (by omega) w6 HM6.out HR6.out).mono ?_
  rintro e w7 ⟨rfl, hb7⟩
  have HN7 := Lib.hid (HN6.out.below hb7)
  have HR7 := Lib.hid (HR6.out.below hb7)
  have HV7 := Lib.hid (HV6.out.below hb7)
  have HB7 := Lib.hid (HB6.out.trans (below_le hb7 HB6.out.size))
  clear hb7 HV6 HB6 HR6 HM6 HN6
  obtain ⟨K, hK⟩ : ∃ K, K = min R.length st := ⟨_, rfl⟩
  have hmn : min (R.length : Int) (st : Int) = (K : Int) := by omega
  have hKR : K ≤ R.length := by omega
  have HKR : Hid (IntV w7 (.slice x2 K c2) RS) := Lib.hid (by
    have h := HR7.out.head K hKR
    have e := HRL.out
    rw [← hK] at e
    rw [e]
    exact h)
  clear hK HRL
  go_wp2_with (first | (go_at_call 19; fail))
  refine (lsame _ _ RS (by omega) w7 HN7.out HKR.out).mono ?_
  rintro e w8 ⟨rfl, hb8⟩
  have HR8 := Lib.hid (HR7.out.below hb8)
  have HV8 := Lib.hid (HV7.out.below hb8)
  have HB8 := Lib.hid (HB7.out.trans (below_le hb8 HB7.out.size))
  clear hb8 HV7 HB7 HR7 HN7 HKR
  go_wp2_with (first | (go_at_call 15; fail))
  refine (wawake w8).mono ?_
  rintro e w9 ⟨rfl, hb9⟩
  have HR9 := Lib.hid (HR8.out.below hb9)
  have HV9 := Lib.hid (HV8.out.below hb9)
  have HB9 := Lib.hid (HB8.out.trans (below_le hb9 HB8.out.size))
  clear hb9 HV8 HB8 HR8
  go_wp2_with (first | (go_at_call 10; fail))
  refine (HFO.out w9).mono ?_
  rintro e wA ⟨rfl, hbA⟩
  have HRA := Lib.hid (HR9.out.below hbA)
  have HVA := Lib.hid (HV9.out.below hbA)
  have HBA := Lib.hid (HB9.out.trans (below_le hbA HB9.out.size))
  clear hbA HV9 HB9 HR9
  go_wp2_with (first | (go_at_call 23; fail))
  refine (HS3.out _ wA HVA.out).mono ?_
  rintro e wB ⟨vB, rfl, hvB, hbB⟩
  have HQB := Lib.hid hvB.view
  have HRB := Lib.hid (HRA.out.below hbB)
  have HVB := Lib.hid (HVA.out.below hbB)
  have HBB := Lib.hid (HBA.out.trans (below_le hbB HBA.out.size))
  obtain ⟨xB, cB, rfl⟩ := hvB.is
  clear hvB hbB HVA HBA HRA
  go_wp2_with (first | (go_at_call 19; fail))
  refine (lsame _ _ R (by omega) wB HQB.out HRB.out).mono ?_
  rintro e wC ⟨rfl, hbC⟩
  have HVC := Lib.hid (HVB.out.below hbC)
  have HBC := Lib.hid (HBB.out.trans (below_le hbC HBB.out.size))
  clear hbC HVB HBB HRB HQB
  go_wp2_with (first | (go_at_call 23; fail))
  refine (HS4.out _ wC HVC.out).mono ?_
  rintro e wD ⟨vD, rfl, hvD, hbD⟩
  have HBD := Lib.hid (HBC.out.trans (below_le hbD HBC.out.size))
  obtain ⟨xD, cD, he, hcD, hgD⟩ := hvD.view.at_
  have HGD := Lib.hid hgD
  subst he
  have hlr : (List.range L.length).length = L.length := List.length_range
  rw [hlr] at hcD ⊢
  have HRG : Hid (∀ k, k < L.length → (List.range L.length).getD k 0 = k) := Lib.hid (fun k hk => by
    rw [List.getD_eq_getElem?_getD, List.getElem?_range hk]; rfl)
  clear hvD hbD HVC HBC hgD hlr
  go_wp2
  go_loopw [13] (fun iv wr => ∃ k : Nat, iv = .int .i64 (k : Int) ∧ k ≤ L.length ∧ Hid (Below wD.heap.size wD wr)) (fun iv _ => L.length - (intOf iv).toNat)
  case atStart => exact ⟨0, rfl, Nat.zero_le _, Lib.hid (Below.refl _ _)⟩
  case round =>
    obtain ⟨k, rfl, hk, HB⟩ := hrel
    have i1 : (0 : Int) ≤ (k : Int) := by omega
    by_cases hlt : k < L.length
    · have i2 : (k : Int) < (L.length : Int) := by omega
      obtain ⟨g, rfl, hget⟩ := HGD.out wr HB.out (List.ne_nil_of_length_pos (by rw [List.length_range]; omega))
      have ck := hget k (by rw [List.length_range]; exact hlt)
      rw [HRG.out k hlt] at ck
      have n1 : ((k : Int) != (k : Int)) = false := by simp
      clear hget
      go_wp2
      go_roundw
      case rel => exact ⟨k + 1, by go_num, by omega, HB⟩
      case measure => simp [intOf]; omega
    · obtain rfl : k = L.length := by omega
      have i2 : ¬ (L.length : Int) < (L.length : Int) := by omega
      go_wp2
      go_ret
      exact ⟨by first | rfl | exact ret_bool (by simp), HBD.out.trans (below_le HB.out HBD.out.size)⟩
theorem sieves_any (x : ByteArray) (x0 : Option Addr) (n0 c0 : Nat) (ss : List Bs) (st : Int) (h0 : 0 ≤ st) (hst : st < 256) (w : World) (hc0 : n0 ≤ c0) (hs0 : StrsV w x0 n0 ss) : Calls Tryz.prog 5 #[.string x, .slice x0 n0 c0, .int .u8 st] w fun e w' => e = .returned (.bool true) ∧ Below w.heap.size w w' := by
  obtain ⟨n, rfl⟩ : ∃ n : Nat, st = (n : Int) := ⟨st.toNat, by omega⟩
  have h := sieves_law x.data.toList x0 n0 c0 ss n (by omega) w hc0 hs0
  rw [txo] at h
  exact h
end Go.Proofs.YtdehjofmangmbaaGreat
