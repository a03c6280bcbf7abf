/- Own texts, merged: T2, T3, T4. -/
import Derived.BigRegion
import Derived.Test.YtmhfnpabgkkjaaaGreatMP38
/- Walk: the reference's bound. -/
namespace Go.Proofs.YtmhfnpabgkkjaaaGreat
open Go.RowKit Go.Shelf
attribute [local go_sem] run_store_float
/-- What the reference's bound gives. -/
def rbV (L : List Bnd) (s : Bs) : Value × Bool := match firstB s L with
  | none => (bvV none, false)
  | some b => (vlV b.v, decide (1 ≤ b.v.t ∧ b.v.t ≤ 3))
theorem rbV_some {L : List Bnd} {s : Bs} {b : Bnd} (h : firstB s L = some b) : rbV L s = (vlV b.v, decide (1 ≤ b.v.t ∧ b.v.t ≤ 3)) := by unfold rbV; rw [h]
theorem rbV_none {L : List Bnd} {s : Bs} (h : firstB s L = none) : rbV L s = (bvV none, false) := by unfold rbV; rw [h]
set_option maxRecDepth 100000 in
set_option maxHeartbeats 8000000 in
theorem rbound (s : Bs) (v : Value) (L : List Bnd) (hL : L.length ≤ 1000000) (w : World) (h : BndV w v L) : Calls Tryz.prog 43 #[.string (tx s), v] w fun e w' => e = .returned (.tuple #[(rbV L s).1, .bool (rbV L s).2]) ∧ Below w.heap.size w w' := by
  obtain ⟨x, cap, rfl, hcap, hx, hc⟩ := h
  have HC := Lib.hid hc
  have HX := Lib.hid hx
  obtain ⟨res, hres⟩ : ∃ y, y = rbV L s := ⟨_, rfl⟩
  rw [← hres]
  have HR := Lib.hid hres
  obtain ⟨N, hN⟩ : ∃ N, N = L.length := ⟨_, rfl⟩
  have HN := Lib.hid hN
  have HZ0 : Hid (VB (w.alloc (.cells #[.int .i64 0, .float .f64 0, .string ⟨#[]⟩, .bool false] 40)) w.heap.size (.int .i64 0) (.float .f64 0) (.string ⟨#[]⟩) (.bool false)) := Lib.hid (heap_alloc_new _ _)
  have HB0 := Lib.hid (bel1 w (.cells #[.int .i64 0, .float .f64 0, .string ⟨#[]⟩, .bool false] 40))
  rw [← hN] at hL hcap ⊢
  clear hc hx hN hres
  go_enter Tryz.func43, Tryz.ntmps43
  go_wp2_with fail
  generalize w.alloc (.cells #[.int .i64 0, .float .f64 0, .string ⟨#[]⟩, .bool false] 40) = W0 at HZ0 HB0 ⊢
  go_loopg [6] N (fun gh i wr => ∃ j : Nat, j + gh = N ∧ i = .int .i64 j ∧ Hid (firstB s L = firstB s (L.drop j)) ∧ Hid (wr = W0))
  case atStart => exact ⟨0, by omega, rfl, Lib.hid rfl, Lib.hid rfl⟩
  case round =>
    obtain ⟨j, hj, rfl, HF, HW⟩ := hrel
    have hW := HW.out
    subst hW
    clear HW
    have hlt := HZ0.out.lt
    by_cases q : j < N
    · have hjl : j < L.length := by have := HN.out; omega
      obtain ⟨a, rfl⟩ : ∃ a, x = some a := by
        cases x with
        | none => have := HX.out rfl; rw [this] at hjl; cases hjl
        | some a => exact ⟨a, rfl⟩
      obtain ⟨e0, e1, e2, e3, e4⟩ := (HC.out a rfl).2 j L[j] (List.getElem?_eq_getElem hjl)
      have hab : a.block < w.heap.size := (HC.out a rfl).1 (nil_not hjl)
      have hs : ∀ k, wr.heap[(a.add k).block]? = w.heap[(a.add k).block]? := fun k => by rw [add_block]; exact HB0.out.block _ hab
      have d0 := cell_same (hs _) e0
      have d1 := cell_same (hs _) e1
      have d2 := cell_same (hs _) e2
      have d3 := cell_same (hs _) e3
      have d4 := cell_same (hs _) e4
      rw [add_lit _ _ _ (by decide)] at d1 d2 d3 d4
      clear e0 e1 e2 e3 e4 hs
      have HST := Lib.hid (firstB_step (s := s) hjl)
      have hne : (a.add (j * 5)).block ≠ w.heap.size := by rw [add_block]; omega
      obtain ⟨bb, hbb⟩ : ∃ bb, bb = L[j] := ⟨_, rfl⟩
      rw [← hbb] at d0 d1 d2 d3 d4 HST
      clear hbb
      obtain ⟨nm, t, fn, sv, bv⟩ := bb
      simp only at d0 d1 d2 d3 d4
      by_cases q1 : nm = s
      · subst q1
        have HRV : Hid (res = (vlV ⟨t, fn, sv, bv⟩, decide (1 ≤ t ∧ t ≤ 3))) := Lib.hid (by rw [HR.out]; exact rbV_some (by rw [HF.out, HST.out, if_pos rfl]))
        have b0 := tx_same nm
        obtain ⟨k0, k1, k2, k3⟩ := HZ0.out.cells
        have f0 := HZ0.out.fr 0
        have f1 := HZ0.out.fr 1
        have f2 := HZ0.out.fr 2
        have f3 := HZ0.out.fr 3
        clear HF HST HR
        have HP : Hid (VB (putN wr w.heap.size (.int .i64 t) (.float .f64 fn) (.string (tx sv)) (.bool bv)).drew w.heap.size (.int .i64 t) (.float .f64 fn) (.string (tx sv)) (.bool bv) ∧ Below w.heap.size w (putN wr w.heap.size (.int .i64 t) (.float .f64 fn) (.string (tx sv)) (.bool bv)).drew) :=
          Lib.hid ⟨HZ0.out.put.below (Below.refl _ _).drew, (below_put HB0.out (Nat.le_refl _)).drew⟩
        by_cases t1 : 1 ≤ t
        · by_cases t2 : t ≤ 3
          · have HD : Hid (res = (vlV ⟨t, fn, sv, bv⟩, true)) := Lib.hid (by rw [HRV.out, decide_eq_true ⟨t1, t2⟩])
            have g1 : decide (1 ≤ t) = true := decide_eq_true t1
            have g2 : decide (t ≤ 3) = true := decide_eq_true t2
            clear HRV
            go_wp2_with fail
            go_region
            go_wp2
            refine bodyPost_ret (results_cell_tmp rfl _ _ w.heap.size 40 _ _ _ rfl HP.out.1 Tryz.underlying40 rfl (by kernel_rfl)) rfl ?_
            rw [HD.out]
            exact ⟨rfl, HP.out.2⟩
          · have HD : Hid (res = (vlV ⟨t, fn, sv, bv⟩, false)) := Lib.hid (by rw [HRV.out, decide_eq_false (fun h => t2 h.2)])
            have g1 : decide (1 ≤ t) = true := decide_eq_true t1
            have g2 : decide (t ≤ 3) = false := decide_eq_false t2
            clear HRV
            go_wp2_with fail
            go_region
            go_wp2
            refine bodyPost_ret (results_cell_tmp rfl _ _ w.heap.size 40 _ _ _ rfl HP.out.1 Tryz.underlying40 rfl (by kernel_rfl)) rfl ?_
            rw [HD.out]
            exact ⟨rfl, HP.out.2⟩
        · have HD : Hid (res = (vlV ⟨t, fn, sv, bv⟩, false)) := Lib.hid (by rw [HRV.out, decide_eq_false (fun h => t1 h.1)])
          have g1 : decide (1 ≤ t) = false := decide_eq_false t1
          clear HRV
          go_wp2_with fail
          go_region
          go_wp2
          refine bodyPost_ret (results_cell_tmp rfl _ _ w.heap.size 40 _ _ _ rfl HP.out.1 Tryz.underlying40 rfl (by kernel_rfl)) rfl ?_
          rw [HD.out]
          exact ⟨rfl, HP.out.2⟩
      · have b0 : ((tx nm).toList == (tx s).toList) = false := by rw [tx_toList, tx_toList]; simpa using q1
        have HF2 : Hid (firstB s L = firstB s (L.drop (j + 1))) := Lib.hid (by rw [HF.out, HST.out, if_neg q1])
        clear q1 HF HST
        go_wp2
        go_roundg (gk - 1)
        case measure => omega
        case rel => exact ⟨j + 1, by omega, by go_num, HF2, Lib.hid rfl⟩
    · have HD : Hid (res = (bvV none, false)) := Lib.hid (by rw [HR.out]; exact rbV_none (by rw [HF.out]; exact firstB_end (by have := HN.out; omega)))
      obtain ⟨k0, k1, k2, k3⟩ := HZ0.out.cells
      have f0 := HZ0.out.fr 0
      have f1 := HZ0.out.fr 1
      have f2 := HZ0.out.fr 2
      have f3 := HZ0.out.fr 3
      have HP : Hid (VB (putN wr w.heap.size (.int .i64 0) (.float .f64 0) (.string ⟨#[]⟩) (.bool false)) w.heap.size (.int .i64 0) (.float .f64 0) (.string ⟨#[]⟩) (.bool false) ∧ Below w.heap.size w (putN wr w.heap.size (.int .i64 0) (.float .f64 0) (.string ⟨#[]⟩) (.bool false))) :=
        Lib.hid ⟨HZ0.out.put, below_put HB0.out (Nat.le_refl _)⟩
      clear HR HF
      go_wp2
      refine bodyPost_ret (results_cell_tmp rfl _ _ w.heap.size 40 _ _ _ rfl HP.out.1 Tryz.underlying40 rfl (by kernel_rfl)) rfl ?_
      rw [HD.out]
      exact ⟨rfl, HP.out.2⟩
end Go.Proofs.YtmhfnpabgkkjaaaGreat
/- Walk: the reference's typed. -/
namespace Go.Proofs.YtmhfnpabgkkjaaaGreat
open Go.RowKit Go.Shelf
attribute [local go_sem] run_store_float
/-- A tree's type, as the reference says it. -/
theorem tyT_of (L : List Bnd) (op s : Bs) (c : List Tree) :
    (if takesT op ≠ some c.length then (0, 190) else if op = wnum then (1, 0) else if op = wtext then (2, 0)
    else if op = wname then (match boundV L s with | none => (0, 6) | some v => (v.t.toNat, 0))
    else if madeT op (c.map (fun t => (tyT L t).1)) = 0 then (0, 190) else (madeT op (c.map (fun t => (tyT L t).1)), 0)) =
    if takesT op ≠ some c.length then (0, 190) else if op = wname then (match boundV L s with | none => (0, 6) | some v => (v.t.toNat, 0))
    else if ofT op (c.map (fun t => (tyT L t).1)) = 0 then (0, 190) else (ofT op (c.map (fun t => (tyT L t).1)), 0) := by
  generalize c.map (fun t => (tyT L t).1) = X
  by_cases q : takesT op = some c.length
  · have hq : ¬ (takesT op ≠ some c.length) := fun e => e q
    rw [if_neg hq, if_neg hq]
    by_cases o0 : op = wnum
    · have hn : op ≠ wname := by rw [o0]; decide
      have ho : ofT op X = 1 := by unfold ofT; rw [if_pos o0]
      rw [if_pos o0, if_neg hn, ho]; rfl
    · by_cases o1 : op = wtext
      · have hn : op ≠ wname := by rw [o1]; decide
        have ho : ofT op X = 2 := by unfold ofT; rw [if_neg o0, if_pos o1]
        rw [if_neg o0, if_pos o1, if_neg hn, ho]; rfl
      · have ho : ofT op X = madeT op X := by unfold ofT; rw [if_neg o0, if_neg o1]
        rw [if_neg o0, if_neg o1, ho]
  · rw [if_pos q, if_pos q]
theorem rb_bound {L : List Bnd} {s : Bs} : (boundV L s = none ∧ (rbV L s).2 = false) ∨ ∃ v b, boundV L s = some v ∧ rbV L s = (vlV b, true) ∧ b.t = v.t ∧ plainV b = some v := by
  unfold boundV
  cases h : firstB s L with
  | none => exact .inl ⟨rfl, by rw [rbV_none h]⟩
  | some b =>
    rw [rbV_some h]
    simp only
    unfold plainV
    by_cases t1 : b.v.t = 1
    · rw [if_pos t1]
      exact .inr ⟨_, b.v, rfl, by rw [decide_eq_true (by omega)], t1, by rw [if_pos t1]⟩
    · rw [if_neg t1]
      by_cases t2 : b.v.t = 2
      · rw [if_pos t2]
        exact .inr ⟨_, b.v, rfl, by rw [decide_eq_true (by omega)], t2, by rw [if_neg t1, if_pos t2]⟩
      · rw [if_neg t2]
        by_cases t3 : b.v.t = 3
        · rw [if_pos t3]
          exact .inr ⟨_, b.v, rfl, by rw [decide_eq_true (by omega)], t3, by rw [if_neg t1, if_neg t2, if_pos t3]⟩
        · rw [if_neg t3]
          exact .inl ⟨rfl, decide_eq_false (by omega)⟩
set_option maxRecDepth 100000 in
set_option maxHeartbeats 8000000 in
theorem rtyped (L : List Bnd) (hLL : L.length ≤ 1000000) (vb : Value) : ∀ (n : Nat) (t : Tree), szT t ≤ n → ∀ (A : Nat → Prop) (v : Value) (w : World), szT t ≤ 1000000 → NodeV A w v t → BndV w vb L →
    Calls Tryz.prog 42 #[v, vb] w fun e w' => e = .returned (.tuple #[.int .i64 ((tyT L t).1 : Nat), .int .i64 ((tyT L t).2 : Nat)]) ∧ Below w.heap.size w w' := by
  intro n
  induction n with
  | zero => intro t h; cases t; simp only [szT] at h; omega
  | succ n ih =>
    intro t hn A v w hd hv hbv
    obtain ⟨op, fn, s, l⟩ := t
    have HV := Lib.hid hv
    have HBV := Lib.hid hbv
    obtain ⟨bx, bn, bc, rfl⟩ := hbv.agg
    obtain ⟨x, cap, rfl, hcap, hx, hch⟩ := hv
    have HIH := Lib.hid ih
    have HN := Lib.hid (show szL l ≤ n by simp only [szT] at hn; omega)
    have HD := Lib.hid (show 1 + szL l ≤ 1000000 by simpa only [szT] using hd)
    have HC := Lib.hid hch
    have hll : l.length ≤ 1000000 := by have := len_szL l; have := HD.out; omega
    have HX := Lib.hid hx
    obtain ⟨R, hR⟩ : ∃ R, R = tyT L (.mk op fn s l) := ⟨_, rfl⟩
    rw [← hR]
    have HR := Lib.hid hR
    have HLL := Lib.hid hLL
    obtain ⟨N, hN⟩ : ∃ N, N = l.length := ⟨_, rfl⟩
    rw [← hN] at hll hcap HV ⊢
    have HNL := Lib.hid hN
    obtain ⟨i0, hi, hi0, hi1, hi2⟩ := info_ty
    have HII := Lib.hid (And.intro hi (And.intro hi0 (And.intro hi1 hi2)))
    have HB0 := Lib.hid (bel1 w (.cells #[.string (tx op), .float .f64 fn, .string (tx s), .slice x N cap] 26))
    have HA0 : Hid (NB (w.alloc (.cells #[.string (tx op), .float .f64 fn, .string (tx s), .slice x N cap] 26)) w.heap.size (.agg #[.string (tx op), .float .f64 fn, .string (tx s), .slice x N cap])) := Lib.hid ⟨_, _, _, _, rfl, heap_alloc_new _ _⟩
    have HO0 : Hid ((w.alloc (.cells #[.string (tx op), .float .f64 fn, .string (tx s), .slice x N cap] 26)).ownsRow (w.heap.size + 1) 38 1 (.slice none 0 0) 0 []) := Lib.hid (World.ownsRow_nil _ _ _ _)
    clear hN hn hd hch hx ih hR hbv hi hi0 hi1 hi2 hLL
    go_enter Tryz.func42, Tryz.ntmps42
    go_wp2_with fail
    generalize (w.alloc (.cells #[.string (tx op), .float .f64 fn, .string (tx s), .slice x N cap] 26)) = W0 at HB0 HA0 HO0 ⊢
    go_loopg [6, 7] N (fun gh kv i wr => ∃ j : Nat, j + gh = N ∧ i = .int .i64 j ∧ Hid (∀ i (hi : i < l.length), i < j → (tyT L l[i]).2 = 0) ∧ Hid (wr.ownsRow (w.heap.size + 1) 38 1 kv j (tysV ((l.take j).map (fun t => (tyT L t).1)))) ∧ Hid (NB wr w.heap.size (.agg #[.string (tx op), .float .f64 fn, .string (tx s), .slice x N cap])) ∧ Hid (Below w.heap.size w wr))
    case atStart => exact ⟨0, by omega, rfl, Lib.hid (fun i _ h => by omega), HO0, HA0, HB0⟩
    case round =>
      obtain ⟨j, hj, rfl, HG, HO, HNB, HB⟩ := hrel
      obtain ⟨p0, p1, p2, p3, _⟩ := HNB.out.cells
      have hbl := HNB.out.lt
      obtain ⟨kx, kc, rfl⟩ := ownsRow_is HO.out
      clear HA0 HO0 HB0
      by_cases q : j < N
      · have hjl : j < l.length := by have := HNL.out; omega
        obtain ⟨a, rfl⟩ : ∃ a, x = some a := by
          cases x with
          | none => have := HX.out rfl; rw [this] at hjl; cases hjl
          | some a => exact ⟨a, rfl⟩
        obtain ⟨v0, v1, v2, v3, e0, e1, e2, e3, hnode⟩ := NodesV.get l 0 (HC.out a rfl).2 j hjl
        rw [Nat.zero_add] at e0 e1 e2 e3
        have hab : a.block < w.heap.size := ((HC.out a rfl).1 (nil_not hjl)).2
        have hs : ∀ k, wr.heap[(a.add k).block]? = w.heap[(a.add k).block]? := fun k => by rw [add_block]; exact HB.out.block _ hab
        have d0 := cell_same (hs _) e0
        have d1 := cell_same (hs _) e1
        have d2 := cell_same (hs _) e2
        have d3 := cell_same (hs _) e3
        rw [add_lit _ _ _ (by decide)] at d1 d2 d3
        clear e0 e1 e2 e3 hs
        obtain ⟨o1, n1, s1, x1, l1, c1, hag⟩ := hnode.agg
        cases hag
        have HNODE := Lib.hid hnode
        clear hnode
        obtain ⟨K1, hK1⟩ : ∃ K, K = (tyT L l[j]).1 := ⟨_, rfl⟩
        obtain ⟨E1, hE1⟩ : ∃ E, E = (tyT L l[j]).2 := ⟨_, rfl⟩
        have HCH : Hid (∀ W, Below w.heap.size w W → Calls Tryz.prog 42 #[.agg #[.string o1, .float .f64 n1, .string s1, .slice x1 l1 c1], .slice bx bn bc] W fun e w' => e = .returned (.tuple #[.int .i64 (K1 : Nat), .int .i64 (E1 : Nat)]) ∧ Below W.heap.size W w') := Lib.hid (fun W hW => by
          have h1 := szL_get l j hjl
          have h2 := HN.out
          have h3 := HD.out
          rw [hK1, hE1]
          exact HIH.out l[j] (by omega) A _ W (by omega) (HNODE.out.below hW) (HBV.out.below hW))
        have HB1 := HB
        have HNB1 := HNB
        have HO1 := HO
        by_cases qe : E1 = 0
        · have HG2 : Hid (∀ i (hi : i < l.length), i < j + 1 → (tyT L l[i]).2 = 0) := Lib.hid (fun i hi hij => by
            by_cases e : i = j
            · subst e; rw [← hE1]; exact qe
            · exact HG.out i hi (by omega))
          have HTS : Hid (tysV ((l.take (j + 1)).map (fun t => (tyT L t).1)) = tysV ((l.take j).map (fun t => (tyT L t).1)) ++ [.int .i64 (K1 : Nat)]) := Lib.hid (by rw [List.take_succ_eq_append_getElem hjl, List.map_append, hK1]; unfold tysV; rw [List.map_append]; rfl)
          subst qe
          have HCH0 : Hid (Calls Tryz.prog 42 #[.agg #[.string o1, .float .f64 n1, .string s1, .slice x1 l1 c1], .slice bx bn bc] wr fun e w' => e = .returned (.tuple #[.int .i64 (K1 : Nat), .int .i64 0]) ∧ Below wr.heap.size wr w') := Lib.hid (HCH.out _ HB1.out)
          clear hK1 hE1 HG HCH HNODE
          go_wp2_with (first | (go_at_call 42; fail))
          refine (HCH0.out).mono ?_
          rintro e w2 ⟨rfl, hb2⟩
          have HB2 := Lib.hid (HB1.out.trans (below_le hb2 HB1.out.size))
          have HNB2 := Lib.hid (HNB1.out.below hb2)
          have HO2 := Lib.hid (row_kept HO1.out (fun k hk => hb2.block k (HO1.out.lt k hk).2))
          have hsz2 := HNB2.out.lt
          clear hb2 HB HNB HO HB1 HNB1 HO1 HCH0 d0 d1 d2 d3 p0 p1 p2 p3 hbl
          go_wp2_with (first | (at_builtin; go_loud (refine wpList_append_own _ rfl _ _ 89 rfl (w.heap.size + 1) 38 i0 (.int .i64 0) 1 8 Tryz.underlying89 HII.out.1 HII.out.2.1 HII.out.2.2.1 HII.out.2.2.2 rfl (by decide) _ _ _ rfl (HO2.out.alloc _) ⟨w2.heap.size, 0, none⟩ 1 1 [.int .i64 (K1 : Nat)] rfl rfl (cell_one_new _ _ _) (by simp [Value.oneCell']) (by unfold maxLen; omega) (by omega) (by simp; omega) ?_)))
          intro v' w3 ho1 hg1 _
          have HO3 : Hid (w3.ownsRow (w.heap.size + 1) 38 1 v' (j + 1) (tysV ((l.take (j + 1)).map (fun t => (tyT L t).1)))) := Lib.hid (by rw [HTS.out, List.map_take]; exact ho1)
          have HNB3 := Lib.hid ((HNB2.out.below ((Below.refl w2.heap.size w2).alloc (Nat.le_refl _) (.cells #[.int .i64 (K1 : Nat)] 38))).kept (hg1.block w.heap.size (by simp; omega) (fun e => by have := HO2.out.lt w.heap.size e.symm; omega)))
          have HB3 : Hid (Below w.heap.size w w3) := Lib.hid ((HB2.out.alloc HB2.out.size _).grown hg1 (by have := HB2.out.size; simp; omega) (fun k e => by have := HO2.out.lt k e; omega))
          clear ho1 hg1 HB2 HNB2 HO2
          go_wp2
          go_roundg (gk - 1)
          case measure => omega
          case rel => exact ⟨j + 1, by omega, by go_num, HG2, HO3, HNB3, HB3⟩
        · have HRE : Hid (R = (0, E1)) := Lib.hid (by rw [HR.out, tyT_bad L op s fn l j hjl HG.out (by rw [← hE1]; exact qe), hE1])
          have q1 : ((E1 : Int) == 0) = false := by simpa using (show ¬ ((E1 : Int) = 0) by omega)
          clear hK1 hE1 HG HNODE
          go_wp2_with (first | (go_at_call 42; fail))
          refine (HCH.out _ HB1.out).mono ?_
          rintro e w2 ⟨rfl, hb2⟩
          have HB2 := Lib.hid (HB1.out.trans (below_le hb2 HB1.out.size))
          clear hb2 d0 d1 d2 d3
          go_wp2
          go_ret2
          exact ⟨by rw [HRE.out]; rfl, HB2.out⟩
      · have e : j = l.length := by have := HNL.out; omega
        have HG2 : Hid (∀ i (hi : i < l.length), (tyT L l[i]).2 = 0) := Lib.hid (fun i hi => HG.out i hi (by omega))
        have HRG := Lib.hid (HR.out.trans (tyT_good L op s fn l HG2.out))
        have HTY : Hid (TyV wr (.slice kx j kc) (l.map (fun t => (tyT L t).1))) := Lib.hid (by
          have h := HO.out
          rw [show l.take j = l by rw [e, List.take_length]] at h
          exact tyV_row (by rw [List.length_map, ← e]; exact h))
        have HRG2 := Lib.hid (HRG.out.trans (tyT_of L op s l))
        rw [← HNL.out] at HRG2
        have HTK := Lib.hid (fun W => rtakes op W)
        have HBN := Lib.hid (fun W h => rbound s (.slice bx bn bc) L HLL.out W h)
        have HOF : Hid (takesT op = some N → op ≠ wname → ∀ W, Below wr.heap.size wr W → Calls Tryz.prog 69 #[.string (tx op), .slice kx j kc] W fun e w' => e = .returned (.int .i64 (ofT op (l.map (fun t => (tyT L t).1)) : Nat)) ∧ W = w') := Lib.hid (fun ht hn W hW => by
          refine rof op _ _ (fun t ht => ?_) (by rw [List.length_map, ← HNL.out]; exact ht) hn W ?_
          · obtain ⟨u, hu, rfl⟩ := List.mem_map.1 ht
            obtain ⟨i, hi, rfl⟩ := List.getElem_of_mem hu
            exact ty_range (HG2.out i hi)
          · obtain ⟨y, yc, hy, h1, h2, h3⟩ := HTY.out
            refine ⟨y, yc, hy, h1, h2, fun a ha i t hi => ?_⟩
            have h4 := h3 a ha i t hi
            exact cell_same (hW.block _ (cell_lt h4)) h4)
        clear HO HG HTY HC HIH HG2 e HRG HV
        by_cases ht : takesT op = some N
        · have HTK1 : Hid (∀ W, Calls Tryz.prog 68 #[.string (tx op)] W fun e w' => e = .returned (.int .i64 N) ∧ W = w') := Lib.hid (fun W => by
            have h := HTK.out W
            unfold takesR at h
            rw [ht] at h
            exact h)
          have b0 : ((N : Int) != (N : Int)) = false := bne_self_eq_false _
          rw [if_neg (fun h => h ht)] at HRG2
          have HOF1 := Lib.hid (HOF.out ht)
          clear HOF HTK ht
          go_wp2_with fail
          go_quiet ((go_at_call 68; exact quiet_eq (HTK1.out _)))
          have HBK := Lib.hid (fun k => below_drewN HB.out k)
          by_cases o2 : op = wname
          · have b2 : ((tx op).toList == [110, 97, 109, 101]) = true := by rw [o2]; exact tx_same _
            rw [if_pos o2] at HRG2
            clear o2 HOF1
            generalize tx op = T at *
            rcases rb_bound (L := L) (s := s) with ⟨h1, h2⟩ | ⟨bv, bb, h1, h2, h3, h4⟩
            · rw [h1] at HRG2
              obtain ⟨rv, hrv⟩ : ∃ rv, rv = (rbV L s).1 := ⟨_, rfl⟩
              rw [h2, ← hrv] at HBN
              have HZ : Hid (∃ u0 u1 u2 u3, rv = .agg #[.int .i64 u0, .float .f64 u1, .string u2, .bool u3]) := Lib.hid (by
                rw [hrv]
                unfold rbV
                split
                · exact ⟨_, _, _, _, rfl⟩
                · exact ⟨_, _, _, _, rfl⟩)
              clear h1 h2 hrv
              obtain ⟨u0, u1, u2, u3, rfl⟩ := HZ.out
              go_wp2_with (first | (go_at_call 43; fail))
              refine (HBN.out _ (HBV.out.below (HBK.out _))).mono ?_
              rintro e w3 ⟨rfl, hb3⟩
              have HB3 := Lib.hid (fun c => ((HBK.out _).trans (below_le hb3 (HBK.out _).size)).alloc (by have := (HBK.out 0).size; have h9 : wr.heap.size ≤ w3.heap.size := hb3.size; have h8 : w.heap.size ≤ wr.heap.size := HB.out.size; omega) c)
              clear hb3
              go_wp2
              go_ret2
              exact ⟨by rw [HRG2.out]; rfl, HB3.out _⟩
            · rw [h1] at HRG2
              rw [h2] at HBN
              have HT3 : Hid (bb.t = ((bv.t.toNat : Nat) : Int)) := Lib.hid (by
                have h5 := bound_t h1
                rw [h3]
                omega)
              clear h1 h2 h3 h4
              obtain ⟨vt, vn, vs, vb'⟩ := bb
              unfold vlV at HBN
              go_wp2_with (first | (go_at_call 43; fail))
              refine (HBN.out _ (HBV.out.below (HBK.out _))).mono ?_
              rintro e w3 ⟨rfl, hb3⟩
              have HB3 := Lib.hid (fun c => ((HBK.out _).trans (below_le hb3 (HBK.out _).size)).alloc (by have h9 : wr.heap.size ≤ w3.heap.size := hb3.size; have h8 : w.heap.size ≤ wr.heap.size := HB.out.size; omega) c)
              clear hb3
              go_wp2
              go_ret2
              refine ⟨?_, HB3.out _⟩
              rw [HRG2.out]
              have h3 : vt = ((bv.t.toNat : Nat) : Int) := HT3.out
              rw [h3]
              rfl
          · have b2 : ((tx op).toList == [110, 97, 109, 101]) = false := tx_ne o2
            rw [if_neg o2] at HRG2
            have HOF2 := Lib.hid (HOF1.out o2)
            obtain ⟨M, hM⟩ : ∃ M, M = ofT op (l.map (fun t => (tyT L t).1)) := ⟨_, rfl⟩
            rw [← hM] at HRG2 HOF2
            clear o2 hM HOF1
            generalize tx op = T at *
            have hdr : ∀ k, Below wr.heap.size wr (wr.drewN k) := fun k => below_drewN (Below.refl _ _) k
            by_cases m0 : M = 0
            · subst m0
              rw [if_pos rfl] at HRG2
              have HOF3 : Hid (∀ k, Calls Tryz.prog 69 #[.string T, .slice kx j kc] (wr.drewN k) fun e w' => e = .returned (.int .i64 0) ∧ wr.drewN k = w') := Lib.hid (fun k => HOF2.out _ (hdr k))
              clear HOF2 hdr
              go_wp2_with (first | (go_at_call 69; refine (HOF3.out _).mono ?_; rintro e w3 ⟨rfl, rfl⟩))
              go_ret2
              exact ⟨by rw [HRG2.out]; rfl, HBK.out _⟩
            · rw [if_neg m0] at HRG2
              have m1 : ((M : Int) == 0) = false := by simpa using (show ¬ ((M : Int) = 0) by omega)
              have HOF3 := Lib.hid (fun k => HOF2.out _ (hdr k))
              clear HOF2 hdr
              go_wp2_with (first | (go_at_call 69; refine (HOF3.out _).mono ?_; rintro e w3 ⟨rfl, rfl⟩))
              go_ret2
              exact ⟨by rw [HRG2.out]; rfl, HBK.out _⟩
        · have HTK1 : Hid (∃ K : Int, ((K != (N : Int)) = true) ∧ ∀ W, Calls Tryz.prog 68 #[.string (tx op)] W fun e w' => e = .returned (.int .i64 K) ∧ W = w') := Lib.hid (by
            refine ⟨takesR op, ?_, HTK.out⟩
            unfold takesR
            cases hk : takesT op with
            | none => simp only [bne_iff_ne]; omega
            | some k =>
              rw [hk] at ht
              simp only [bne_iff_ne]
              intro e
              exact ht (by rw [show k = N by omega]))
          obtain ⟨K, hK, hTK⟩ := HTK1.out
          have HTK2 := Lib.hid hTK
          have b0 : (K == (N : Int)) = false := by simpa using hK
          rw [if_pos ht] at HRG2
          clear HOF HTK HTK1 ht hTK hK
          go_wp2_with fail
          go_quiet ((go_at_call 68; exact quiet_eq (HTK2.out _)))
          have HBK := Lib.hid (fun k => below_drewN HB.out k)
          go_wp2
          go_ret2
          exact ⟨by rw [HRG2.out]; rfl, HBK.out _⟩
end Go.Proofs.YtmhfnpabgkkjaaaGreat
/- Walk: the reference's TypeOf. -/
namespace Go.Proofs.YtmhfnpabgkkjaaaGreat
open Go.RowKit Go.Shelf Ieee
attribute [local go_sem] run_store_float
set_option maxRecDepth 100000 in
set_option maxHeartbeats 4000000 in
theorem rtypeOf (L : List Bnd) (hLL : L.length ≤ 1000000) (vb : Value) (t : Tree) (A : Nat → Prop) (v : Value) (w : World) (hz : szT t ≤ 1000000) (hv : NodeV A w v t) (hb : BndV w vb L) :
    Calls Tryz.prog 25 #[v, vb] w fun e w' => e = .returned (.tuple #[.int .i64 ((tyP L t).1 : Nat), .int .i64 ((tyP L t).2 : Nat)]) ∧ Below w.heap.size w w' := by
  have HDP := Lib.hid (fun W (h : NodeV A W v t) => rdepth _ t (Nat.le_refl _) A v W hz h)
  have HTY := Lib.hid (fun W (h : NodeV A W v t) (k : BndV W vb L) => rtyped L hLL vb _ t (Nat.le_refl _) A v W hz h k)
  have HDD : Hid (depT t ≤ 1000000) := Lib.hid (by have := dep_sz t; omega)
  have HV := Lib.hid hv
  have HBV := Lib.hid hb
  obtain ⟨o, n, s, x, l, c, rfl⟩ := hv.agg
  obtain ⟨bx, bn, bc, rfl⟩ := hb.agg
  obtain ⟨R, hR⟩ : ∃ R, R = tyP L t := ⟨_, rfl⟩
  rw [← hR]
  unfold tyP at hR
  obtain ⟨T, hT⟩ : ∃ T, T = tyT L t := ⟨_, rfl⟩
  rw [← hT] at hR HTY
  obtain ⟨D, hD⟩ : ∃ D, D = depT t := ⟨_, rfl⟩
  rw [← hD] at hR HDP HDD
  have HR := Lib.hid hR
  have hdd := HDD.out
  have HB0 := Lib.hid (bel1 w (.cells #[.string o, .float .f64 n, .string s, .slice x l c] 26))
  have HNB : Hid (NB (w.alloc (.cells #[.string o, .float .f64 n, .string s, .slice x l c] 26)) w.heap.size (.agg #[.string o, .float .f64 n, .string s, .slice x l c])) := Lib.hid ⟨_, _, _, _, rfl, heap_alloc_new _ _⟩
  clear hv hb hz hR hT hD
  go_enter Tryz.func25, Tryz.ntmps25
  go_wp2_with (first | (go_at_call 10; fail))
  generalize w.alloc (.cells #[.string o, .float .f64 n, .string s, .slice x l c] 26) = W0 at HB0 HNB ⊢
  go_at_call 10
  refine (HDP.out _ (HV.out.below HB0.out)).mono ?_
  rintro e w2 ⟨rfl, hb2⟩
  have HB2 := Lib.hid (HB0.out.trans (below_le hb2 HB0.out.size))
  obtain ⟨p0, p1, p2, p3, _⟩ := (HNB.out.below hb2).cells
  have hlt := (HNB.out.below hb2).lt
  clear hb2 HB0 HNB HDP
  by_cases q : 16 < D
  · have HR2 : Hid (R = (0, 190)) := Lib.hid (by rw [HR.out, if_pos q])
    go_wp2
    go_ret2
    exact ⟨by rw [HR2.out]; rfl, HB2.out⟩
  · have HR2 : Hid (R = T) := Lib.hid (by rw [HR.out, if_neg q])
    obtain ⟨T1, T2⟩ := T
    go_wp2_with (first | (go_at_call 42; fail))
    go_at_call 42
    refine (HTY.out _ (HV.out.below HB2.out) (HBV.out.below HB2.out)).mono ?_
    rintro e w3 ⟨rfl, hb3⟩
    have HB3 := Lib.hid (HB2.out.trans (below_le hb3 HB2.out.size))
    clear hb3
    go_wp2
    go_ret2
    exact ⟨by rw [HR2.out]; rfl, HB3.out⟩
end Go.Proofs.YtmhfnpabgkkjaaaGreat
