/- Own texts, merged: T2, T3, T4, TC, TD, HA. -/
import Derived.BigRegion
import Derived.Test.YtfalcmbjjlgoaaaGreatDoorH9
import Derived.Test.YtfalcmbjjlgoaaaGreatDoorMT42
/- Walk: the reference's bound. -/
namespace Go.Proofs.YtfalcmbjjlgoaaaGreatDoor
open Go.RowKit Go.Shelf
attribute [local go_sem] run_store_float
/-- What the reference's bound gives. -/
def rbV (L : List Bnd) (s : Bs) : Value × Bool := match firstB s L with
  | none => (bvV none, false)
  | some b => (vlV b.v, decide (1 ≤ b.v.t ∧ b.v.t ≤ 3))
theorem rbV_some {L : List Bnd} {s : Bs} {b : Bnd} (h : firstB s L = some b) : rbV L s = (vlV b.v, decide (1 ≤ b.v.t ∧ b.v.t ≤ 3)) := by unfold rbV; rw [h]
theorem rbV_none {L : List Bnd} {s : Bs} (h : firstB s L = none) : rbV L s = (bvV none, false) := by unfold rbV; rw [h]
set_option maxRecDepth 100000 in
set_option maxHeartbeats 8000000 in
theorem rbound (s : Bs) (v : Value) (L : List Bnd) (hL : L.length ≤ 1000000) (w : World) (h : BndV w v L) : Calls Tryz.prog 47 #[.string (tx s), v] w fun e w' => e = .returned (.tuple #[(rbV L s).1, .bool (rbV L s).2]) ∧ Below w.heap.size w w' := by
  obtain ⟨x, cap, rfl, hcap, hx, hc⟩ := h
  have HC := Lib.hid hc
  have HX := Lib.hid hx
  obtain ⟨res, hres⟩ : ∃ y, y = rbV L s := ⟨_, rfl⟩
  rw [← hres]
  have HR := Lib.hid hres
  obtain ⟨N, hN⟩ : ∃ N, N = L.length := ⟨_, rfl⟩
  have HN := Lib.hid hN
  have HZ0 : Hid (VB (w.alloc (.cells #[.int .i64 0, .float .f64 0, .string ⟨#[]⟩, .bool false] 51)) w.heap.size (.int .i64 0) (.float .f64 0) (.string ⟨#[]⟩) (.bool false)) := Lib.hid (heap_alloc_new _ _)
  have HB0 := Lib.hid (bel1 w (.cells #[.int .i64 0, .float .f64 0, .string ⟨#[]⟩, .bool false] 51))
  rw [← hN] at hL hcap ⊢
  clear hc hx hN hres
  go_enter Tryz.func47, Tryz.ntmps47
  go_wp2_with fail
  generalize w.alloc (.cells #[.int .i64 0, .float .f64 0, .string ⟨#[]⟩, .bool false] 51) = W0 at HZ0 HB0 ⊢
  go_loopg [6] N (fun gh i wr => ∃ j : Nat, j + gh = N ∧ i = .int .i64 j ∧ Hid (firstB s L = firstB s (L.drop j)) ∧ Hid (wr = W0))
  case atStart => exact ⟨0, by omega, rfl, Lib.hid rfl, Lib.hid rfl⟩
  case round =>
    obtain ⟨j, hj, rfl, HF, HW⟩ := hrel
    have hW := HW.out
    subst hW
    clear HW
    have hlt := HZ0.out.lt
    by_cases q : j < N
    · have hjl : j < L.length := by have := HN.out; omega
      obtain ⟨a, rfl⟩ : ∃ a, x = some a := by
        cases x with
        | none => have := HX.out rfl; rw [this] at hjl; cases hjl
        | some a => exact ⟨a, rfl⟩
      obtain ⟨e0, e1, e2, e3, e4⟩ := (HC.out a rfl).2 j L[j] (List.getElem?_eq_getElem hjl)
      have hab : a.block < w.heap.size := (HC.out a rfl).1 (nil_not hjl)
      have hs : ∀ k, wr.heap[(a.add k).block]? = w.heap[(a.add k).block]? := fun k => by rw [add_block]; exact HB0.out.block _ hab
      have d0 := cell_same (hs _) e0
      have d1 := cell_same (hs _) e1
      have d2 := cell_same (hs _) e2
      have d3 := cell_same (hs _) e3
      have d4 := cell_same (hs _) e4
      rw [add_lit _ _ _ (by decide)] at d1 d2 d3 d4
      clear e0 e1 e2 e3 e4 hs
      have HST := Lib.hid (firstB_step (s := s) hjl)
      have hne : (a.add (j * 5)).block ≠ w.heap.size := by rw [add_block]; omega
      obtain ⟨bb, hbb⟩ : ∃ bb, bb = L[j] := ⟨_, rfl⟩
      rw [← hbb] at d0 d1 d2 d3 d4 HST
      clear hbb
      obtain ⟨nm, t, fn, sv, bv⟩ := bb
      simp only at d0 d1 d2 d3 d4
      by_cases q1 : nm = s
      · subst q1
        have HRV : Hid (res = (vlV ⟨t, fn, sv, bv⟩, decide (1 ≤ t ∧ t ≤ 3))) := Lib.hid (by rw [HR.out]; exact rbV_some (by rw [HF.out, HST.out, if_pos rfl]))
        have b0 := tx_same nm
        obtain ⟨k0, k1, k2, k3⟩ := HZ0.out.cells
        have f0 := HZ0.out.fr 0
        have f1 := HZ0.out.fr 1
        have f2 := HZ0.out.fr 2
        have f3 := HZ0.out.fr 3
        clear HF HST HR
        have HP : Hid (VB (putN wr w.heap.size (.int .i64 t) (.float .f64 fn) (.string (tx sv)) (.bool bv)).drew w.heap.size (.int .i64 t) (.float .f64 fn) (.string (tx sv)) (.bool bv) ∧ Below w.heap.size w (putN wr w.heap.size (.int .i64 t) (.float .f64 fn) (.string (tx sv)) (.bool bv)).drew) :=
          Lib.hid ⟨HZ0.out.put.below (Below.refl _ _).drew, (below_put HB0.out (Nat.le_refl _)).drew⟩
        by_cases t1 : 1 ≤ t
        · by_cases t2 : t ≤ 3
          · have HD : Hid (res = (vlV ⟨t, fn, sv, bv⟩, true)) := Lib.hid (by rw [HRV.out, decide_eq_true ⟨t1, t2⟩])
            have g1 : decide (1 ≤ t) = true := decide_eq_true t1
            have g2 : decide (t ≤ 3) = true := decide_eq_true t2
            clear HRV
            go_wp2_with fail
            go_region
            go_wp2
            refine bodyPost_ret (results_cell_tmp rfl _ _ w.heap.size 51 _ _ _ rfl HP.out.1 Tryz.underlying51 rfl (by kernel_rfl)) rfl ?_
            rw [HD.out]
            exact ⟨rfl, HP.out.2⟩
          · have HD : Hid (res = (vlV ⟨t, fn, sv, bv⟩, false)) := Lib.hid (by rw [HRV.out, decide_eq_false (fun h => t2 h.2)])
            have g1 : decide (1 ≤ t) = true := decide_eq_true t1
            have g2 : decide (t ≤ 3) = false := decide_eq_false t2
            clear HRV
            go_wp2_with fail
            go_region
            go_wp2
            refine bodyPost_ret (results_cell_tmp rfl _ _ w.heap.size 51 _ _ _ rfl HP.out.1 Tryz.underlying51 rfl (by kernel_rfl)) rfl ?_
            rw [HD.out]
            exact ⟨rfl, HP.out.2⟩
        · have HD : Hid (res = (vlV ⟨t, fn, sv, bv⟩, false)) := Lib.hid (by rw [HRV.out, decide_eq_false (fun h => t1 h.1)])
          have g1 : decide (1 ≤ t) = false := decide_eq_false t1
          clear HRV
          go_wp2_with fail
          go_region
          go_wp2
          refine bodyPost_ret (results_cell_tmp rfl _ _ w.heap.size 51 _ _ _ rfl HP.out.1 Tryz.underlying51 rfl (by kernel_rfl)) rfl ?_
          rw [HD.out]
          exact ⟨rfl, HP.out.2⟩
      · have b0 : ((tx nm).toList == (tx s).toList) = false := by rw [tx_toList, tx_toList]; simpa using q1
        have HF2 : Hid (firstB s L = firstB s (L.drop (j + 1))) := Lib.hid (by rw [HF.out, HST.out, if_neg q1])
        clear q1 HF HST
        go_wp2
        go_roundg (gk - 1)
        case measure => omega
        case rel => exact ⟨j + 1, by omega, by go_num, HF2, Lib.hid rfl⟩
    · have HD : Hid (res = (bvV none, false)) := Lib.hid (by rw [HR.out]; exact rbV_none (by rw [HF.out]; exact firstB_end (by have := HN.out; omega)))
      obtain ⟨k0, k1, k2, k3⟩ := HZ0.out.cells
      have f0 := HZ0.out.fr 0
      have f1 := HZ0.out.fr 1
      have f2 := HZ0.out.fr 2
      have f3 := HZ0.out.fr 3
      have HP : Hid (VB (putN wr w.heap.size (.int .i64 0) (.float .f64 0) (.string ⟨#[]⟩) (.bool false)) w.heap.size (.int .i64 0) (.float .f64 0) (.string ⟨#[]⟩) (.bool false) ∧ Below w.heap.size w (putN wr w.heap.size (.int .i64 0) (.float .f64 0) (.string ⟨#[]⟩) (.bool false))) :=
        Lib.hid ⟨HZ0.out.put, below_put HB0.out (Nat.le_refl _)⟩
      clear HR HF
      go_wp2
      refine bodyPost_ret (results_cell_tmp rfl _ _ w.heap.size 51 _ _ _ rfl HP.out.1 Tryz.underlying51 rfl (by kernel_rfl)) rfl ?_
      rw [HD.out]
      exact ⟨rfl, HP.out.2⟩
end Go.Proofs.YtfalcmbjjlgoaaaGreatDoor
/- Walk: the reference's typed. -/
namespace Go.Proofs.YtfalcmbjjlgoaaaGreatDoor
open Go.RowKit Go.Shelf
attribute [local go_sem] run_store_float
/-- A tree's type, as the reference says it. -/
theorem tyT_of (L : List Bnd) (op s : Bs) (c : List Tree) :
    (if takesT op ≠ some c.length then (0, 190) else if op = wnum then (1, 0) else if op = wtext then (2, 0)
    else if op = wname then (match boundV L s with | none => (0, 6) | some v => (v.t.toNat, 0))
    else if madeT op (c.map (fun t => (tyT L t).1)) = 0 then (0, 190) else (madeT op (c.map (fun t => (tyT L t).1)), 0)) =
    if takesT op ≠ some c.length then (0, 190) else if op = wname then (match boundV L s with | none => (0, 6) | some v => (v.t.toNat, 0))
    else if ofT op (c.map (fun t => (tyT L t).1)) = 0 then (0, 190) else (ofT op (c.map (fun t => (tyT L t).1)), 0) := by
  generalize c.map (fun t => (tyT L t).1) = X
  by_cases q : takesT op = some c.length
  · have hq : ¬ (takesT op ≠ some c.length) := fun e => e q
    rw [if_neg hq, if_neg hq]
    by_cases o0 : op = wnum
    · have hn : op ≠ wname := by rw [o0]; decide
      have ho : ofT op X = 1 := by unfold ofT; rw [if_pos o0]
      rw [if_pos o0, if_neg hn, ho]; rfl
    · by_cases o1 : op = wtext
      · have hn : op ≠ wname := by rw [o1]; decide
        have ho : ofT op X = 2 := by unfold ofT; rw [if_neg o0, if_pos o1]
        rw [if_neg o0, if_pos o1, if_neg hn, ho]; rfl
      · have ho : ofT op X = madeT op X := by unfold ofT; rw [if_neg o0, if_neg o1]
        rw [if_neg o0, if_neg o1, ho]
  · rw [if_pos q, if_pos q]
theorem rb_bound {L : List Bnd} {s : Bs} : (boundV L s = none ∧ (rbV L s).2 = false) ∨ ∃ v b, boundV L s = some v ∧ rbV L s = (vlV b, true) ∧ b.t = v.t ∧ plainV b = some v := by
  unfold boundV
  cases h : firstB s L with
  | none => exact .inl ⟨rfl, by rw [rbV_none h]⟩
  | some b =>
    rw [rbV_some h]
    simp only
    unfold plainV
    by_cases t1 : b.v.t = 1
    · rw [if_pos t1]
      exact .inr ⟨_, b.v, rfl, by rw [decide_eq_true (by omega)], t1, by rw [if_pos t1]⟩
    · rw [if_neg t1]
      by_cases t2 : b.v.t = 2
      · rw [if_pos t2]
        exact .inr ⟨_, b.v, rfl, by rw [decide_eq_true (by omega)], t2, by rw [if_neg t1, if_pos t2]⟩
      · rw [if_neg t2]
        by_cases t3 : b.v.t = 3
        · rw [if_pos t3]
          exact .inr ⟨_, b.v, rfl, by rw [decide_eq_true (by omega)], t3, by rw [if_neg t1, if_neg t2, if_pos t3]⟩
        · rw [if_neg t3]
          exact .inl ⟨rfl, decide_eq_false (by omega)⟩
set_option maxRecDepth 100000 in
set_option maxHeartbeats 8000000 in
theorem rtyped (L : List Bnd) (hLL : L.length ≤ 1000000) (vb : Value) : ∀ (n : Nat) (t : Tree), szT t ≤ n → ∀ (A : Nat → Prop) (v : Value) (w : World), szT t ≤ 1000000 → NodeV A w v t → BndV w vb L →
    Calls Tryz.prog 29 #[v, vb] w fun e w' => e = .returned (.tuple #[.int .i64 ((tyT L t).1 : Nat), .int .i64 ((tyT L t).2 : Nat)]) ∧ Below w.heap.size w w' := by
  intro n
  induction n with
  | zero => intro t h; cases t; simp only [szT] at h; omega
  | succ n ih =>
    intro t hn A v w hd hv hbv
    obtain ⟨op, fn, s, l⟩ := t
    have HV := Lib.hid hv
    have HBV := Lib.hid hbv
    obtain ⟨bx, bn, bc, rfl⟩ := hbv.agg
    obtain ⟨x, cap, rfl, hcap, hx, hch⟩ := hv
    have HIH := Lib.hid ih
    have HN := Lib.hid (show szL l ≤ n by simp only [szT] at hn; omega)
    have HD := Lib.hid (show 1 + szL l ≤ 1000000 by simpa only [szT] using hd)
    have HC := Lib.hid hch
    have hll : l.length ≤ 1000000 := by have := len_szL l; have := HD.out; omega
    have HX := Lib.hid hx
    obtain ⟨R, hR⟩ : ∃ R, R = tyT L (.mk op fn s l) := ⟨_, rfl⟩
    rw [← hR]
    have HR := Lib.hid hR
    have HLL := Lib.hid hLL
    obtain ⟨N, hN⟩ : ∃ N, N = l.length := ⟨_, rfl⟩
    rw [← hN] at hll hcap HV ⊢
    have HNL := Lib.hid hN
    obtain ⟨i0, hi, hi0, hi1, hi2⟩ := info_ty
    have HII := Lib.hid (And.intro hi (And.intro hi0 (And.intro hi1 hi2)))
    have HB0 := Lib.hid (bel1 w (.cells #[.string (tx op), .float .f64 fn, .string (tx s), .slice x N cap] 25))
    have HA0 : Hid (NB (w.alloc (.cells #[.string (tx op), .float .f64 fn, .string (tx s), .slice x N cap] 25)) w.heap.size (.agg #[.string (tx op), .float .f64 fn, .string (tx s), .slice x N cap])) := Lib.hid ⟨_, _, _, _, rfl, heap_alloc_new _ _⟩
    have HO0 : Hid ((w.alloc (.cells #[.string (tx op), .float .f64 fn, .string (tx s), .slice x N cap] 25)).ownsRow (w.heap.size + 1) 38 1 (.slice none 0 0) 0 []) := Lib.hid (World.ownsRow_nil _ _ _ _)
    clear hN hn hd hch hx ih hR hbv hi hi0 hi1 hi2 hLL
    go_enter Tryz.func29, Tryz.ntmps29
    go_wp2_with fail
    generalize (w.alloc (.cells #[.string (tx op), .float .f64 fn, .string (tx s), .slice x N cap] 25)) = W0 at HB0 HA0 HO0 ⊢
    go_loopg [6, 7] N (fun gh kv i wr => ∃ j : Nat, j + gh = N ∧ i = .int .i64 j ∧ Hid (∀ i (hi : i < l.length), i < j → (tyT L l[i]).2 = 0) ∧ Hid (wr.ownsRow (w.heap.size + 1) 38 1 kv j (tysV ((l.take j).map (fun t => (tyT L t).1)))) ∧ Hid (NB wr w.heap.size (.agg #[.string (tx op), .float .f64 fn, .string (tx s), .slice x N cap])) ∧ Hid (Below w.heap.size w wr))
    case atStart => exact ⟨0, by omega, rfl, Lib.hid (fun i _ h => by omega), HO0, HA0, HB0⟩
    case round =>
      obtain ⟨j, hj, rfl, HG, HO, HNB, HB⟩ := hrel
      obtain ⟨p0, p1, p2, p3, _⟩ := HNB.out.cells
      have hbl := HNB.out.lt
      obtain ⟨kx, kc, rfl⟩ := ownsRow_is HO.out
      clear HA0 HO0 HB0
      by_cases q : j < N
      · have hjl : j < l.length := by have := HNL.out; omega
        obtain ⟨a, rfl⟩ : ∃ a, x = some a := by
          cases x with
          | none => have := HX.out rfl; rw [this] at hjl; cases hjl
          | some a => exact ⟨a, rfl⟩
        obtain ⟨v0, v1, v2, v3, e0, e1, e2, e3, hnode⟩ := NodesV.get l 0 (HC.out a rfl).2 j hjl
        rw [Nat.zero_add] at e0 e1 e2 e3
        have hab : a.block < w.heap.size := ((HC.out a rfl).1 (nil_not hjl)).2
        have hs : ∀ k, wr.heap[(a.add k).block]? = w.heap[(a.add k).block]? := fun k => by rw [add_block]; exact HB.out.block _ hab
        have d0 := cell_same (hs _) e0
        have d1 := cell_same (hs _) e1
        have d2 := cell_same (hs _) e2
        have d3 := cell_same (hs _) e3
        rw [add_lit _ _ _ (by decide)] at d1 d2 d3
        clear e0 e1 e2 e3 hs
        obtain ⟨o1, n1, s1, x1, l1, c1, hag⟩ := hnode.agg
        cases hag
        have HNODE := Lib.hid hnode
        clear hnode
        obtain ⟨K1, hK1⟩ : ∃ K, K = (tyT L l[j]).1 := ⟨_, rfl⟩
        obtain ⟨E1, hE1⟩ : ∃ E, E = (tyT L l[j]).2 := ⟨_, rfl⟩
        have HCH : Hid (∀ W, Below w.heap.size w W → Calls Tryz.prog 29 #[.agg #[.string o1, .float .f64 n1, .string s1, .slice x1 l1 c1], .slice bx bn bc] W fun e w' => e = .returned (.tuple #[.int .i64 (K1 : Nat), .int .i64 (E1 : Nat)]) ∧ Below W.heap.size W w') := Lib.hid (fun W hW => by
          have h1 := szL_get l j hjl
          have h2 := HN.out
          have h3 := HD.out
          rw [hK1, hE1]
          exact HIH.out l[j] (by omega) A _ W (by omega) (HNODE.out.below hW) (HBV.out.below hW))
        have HB1 := HB
        have HNB1 := HNB
        have HO1 := HO
        by_cases qe : E1 = 0
        · have HG2 : Hid (∀ i (hi : i < l.length), i < j + 1 → (tyT L l[i]).2 = 0) := Lib.hid (fun i hi hij => by
            by_cases e : i = j
            · subst e; rw [← hE1]; exact qe
            · exact HG.out i hi (by omega))
          have HTS : Hid (tysV ((l.take (j + 1)).map (fun t => (tyT L t).1)) = tysV ((l.take j).map (fun t => (tyT L t).1)) ++ [.int .i64 (K1 : Nat)]) := Lib.hid (by rw [List.take_succ_eq_append_getElem hjl, List.map_append, hK1]; unfold tysV; rw [List.map_append]; rfl)
          subst qe
          have HCH0 : Hid (Calls Tryz.prog 29 #[.agg #[.string o1, .float .f64 n1, .string s1, .slice x1 l1 c1], .slice bx bn bc] wr fun e w' => e = .returned (.tuple #[.int .i64 (K1 : Nat), .int .i64 0]) ∧ Below wr.heap.size wr w') := Lib.hid (HCH.out _ HB1.out)
          clear hK1 hE1 HG HCH HNODE
          go_wp2_with (first | (go_at_call 29; fail))
          refine (HCH0.out).mono ?_
          rintro e w2 ⟨rfl, hb2⟩
          have HB2 := Lib.hid (HB1.out.trans (below_le hb2 HB1.out.size))
          have HNB2 := Lib.hid (HNB1.out.below hb2)
          have HO2 := Lib.hid (row_kept HO1.out (fun k hk => hb2.block k (HO1.out.lt k hk).2))
          have hsz2 := HNB2.out.lt
          clear hb2 HB HNB HO HB1 HNB1 HO1 HCH0 d0 d1 d2 d3 p0 p1 p2 p3 hbl
          go_wp2_with (first | (at_builtin; go_loud (refine wpList_append_own _ rfl _ _ 76 rfl (w.heap.size + 1) 38 i0 (.int .i64 0) 1 8 Tryz.underlying76 HII.out.1 HII.out.2.1 HII.out.2.2.1 HII.out.2.2.2 rfl (by decide) _ _ _ rfl (HO2.out.alloc _) ⟨w2.heap.size, 0, none⟩ 1 1 [.int .i64 (K1 : Nat)] rfl rfl (cell_one_new _ _ _) (by simp [Value.oneCell']) (by unfold maxLen; omega) (by omega) (by simp; omega) ?_)))
          intro v' w3 ho1 hg1 _
          have HO3 : Hid (w3.ownsRow (w.heap.size + 1) 38 1 v' (j + 1) (tysV ((l.take (j + 1)).map (fun t => (tyT L t).1)))) := Lib.hid (by rw [HTS.out, List.map_take]; exact ho1)
          have HNB3 := Lib.hid ((HNB2.out.below ((Below.refl w2.heap.size w2).alloc (Nat.le_refl _) (.cells #[.int .i64 (K1 : Nat)] 38))).kept (hg1.block w.heap.size (by simp; omega) (fun e => by have := HO2.out.lt w.heap.size e.symm; omega)))
          have HB3 : Hid (Below w.heap.size w w3) := Lib.hid ((HB2.out.alloc HB2.out.size _).grown hg1 (by have := HB2.out.size; simp; omega) (fun k e => by have := HO2.out.lt k e; omega))
          clear ho1 hg1 HB2 HNB2 HO2
          go_wp2
          go_roundg (gk - 1)
          case measure => omega
          case rel => exact ⟨j + 1, by omega, by go_num, HG2, HO3, HNB3, HB3⟩
        · have HRE : Hid (R = (0, E1)) := Lib.hid (by rw [HR.out, tyT_bad L op s fn l j hjl HG.out (by rw [← hE1]; exact qe), hE1])
          have q1 : ((E1 : Int) == 0) = false := by simpa using (show ¬ ((E1 : Int) = 0) by omega)
          clear hK1 hE1 HG HNODE
          go_wp2_with (first | (go_at_call 29; fail))
          refine (HCH.out _ HB1.out).mono ?_
          rintro e w2 ⟨rfl, hb2⟩
          have HB2 := Lib.hid (HB1.out.trans (below_le hb2 HB1.out.size))
          clear hb2 d0 d1 d2 d3
          go_wp2
          go_ret2
          exact ⟨by rw [HRE.out]; rfl, HB2.out⟩
      · have e : j = l.length := by have := HNL.out; omega
        have HG2 : Hid (∀ i (hi : i < l.length), (tyT L l[i]).2 = 0) := Lib.hid (fun i hi => HG.out i hi (by omega))
        have HRG := Lib.hid (HR.out.trans (tyT_good L op s fn l HG2.out))
        have HTY : Hid (TyV wr (.slice kx j kc) (l.map (fun t => (tyT L t).1))) := Lib.hid (by
          have h := HO.out
          rw [show l.take j = l by rw [e, List.take_length]] at h
          exact tyV_row (by rw [List.length_map, ← e]; exact h))
        have HRG2 := Lib.hid (HRG.out.trans (tyT_of L op s l))
        rw [← HNL.out] at HRG2
        have HTK := Lib.hid (fun W => rtakes op W)
        have HBN := Lib.hid (fun W h => rbound s (.slice bx bn bc) L HLL.out W h)
        have HOF : Hid (takesT op = some N → op ≠ wname → ∀ W, Below wr.heap.size wr W → Calls Tryz.prog 48 #[.string (tx op), .slice kx j kc] W fun e w' => e = .returned (.int .i64 (ofT op (l.map (fun t => (tyT L t).1)) : Nat)) ∧ W = w') := Lib.hid (fun ht hn W hW => by
          refine rof op _ _ (fun t ht => ?_) (by rw [List.length_map, ← HNL.out]; exact ht) hn W ?_
          · obtain ⟨u, hu, rfl⟩ := List.mem_map.1 ht
            obtain ⟨i, hi, rfl⟩ := List.getElem_of_mem hu
            exact ty_range (HG2.out i hi)
          · obtain ⟨y, yc, hy, h1, h2, h3⟩ := HTY.out
            refine ⟨y, yc, hy, h1, h2, fun a ha i t hi => ?_⟩
            have h4 := h3 a ha i t hi
            exact cell_same (hW.block _ (cell_lt h4)) h4)
        clear HO HG HTY HC HIH HG2 e HRG HV
        by_cases ht : takesT op = some N
        · have HTK1 : Hid (∀ W, Calls Tryz.prog 33 #[.string (tx op)] W fun e w' => e = .returned (.int .i64 N) ∧ W = w') := Lib.hid (fun W => by
            have h := HTK.out W
            unfold takesR at h
            rw [ht] at h
            exact h)
          have b0 : ((N : Int) != (N : Int)) = false := bne_self_eq_false _
          rw [if_neg (fun h => h ht)] at HRG2
          have HOF1 := Lib.hid (HOF.out ht)
          clear HOF HTK ht
          go_wp2_with fail
          go_quiet ((go_at_call 33; exact quiet_eq (HTK1.out _)))
          have HBK := Lib.hid (fun k => below_drewN HB.out k)
          by_cases o2 : op = wname
          · have b2 : ((tx op).toList == [110, 97, 109, 101]) = true := by rw [o2]; exact tx_same _
            rw [if_pos o2] at HRG2
            clear o2 HOF1
            generalize tx op = T at *
            rcases rb_bound (L := L) (s := s) with ⟨h1, h2⟩ | ⟨bv, bb, h1, h2, h3, h4⟩
            · rw [h1] at HRG2
              obtain ⟨rv, hrv⟩ : ∃ rv, rv = (rbV L s).1 := ⟨_, rfl⟩
              rw [h2, ← hrv] at HBN
              have HZ : Hid (∃ u0 u1 u2 u3, rv = .agg #[.int .i64 u0, .float .f64 u1, .string u2, .bool u3]) := Lib.hid (by
                rw [hrv]
                unfold rbV
                split
                · exact ⟨_, _, _, _, rfl⟩
                · exact ⟨_, _, _, _, rfl⟩)
              clear h1 h2 hrv
              obtain ⟨u0, u1, u2, u3, rfl⟩ := HZ.out
              go_wp2_with (first | (go_at_call 47; fail))
              refine (HBN.out _ (HBV.out.below (HBK.out _))).mono ?_
              rintro e w3 ⟨rfl, hb3⟩
              have HB3 := Lib.hid (fun c => ((HBK.out _).trans (below_le hb3 (HBK.out _).size)).alloc (by have := (HBK.out 0).size; have h9 : wr.heap.size ≤ w3.heap.size := hb3.size; have h8 : w.heap.size ≤ wr.heap.size := HB.out.size; omega) c)
              clear hb3
              go_wp2
              go_ret2
              exact ⟨by rw [HRG2.out]; rfl, HB3.out _⟩
            · rw [h1] at HRG2
              rw [h2] at HBN
              have HT3 : Hid (bb.t = ((bv.t.toNat : Nat) : Int)) := Lib.hid (by
                have h5 := bound_t h1
                rw [h3]
                omega)
              clear h1 h2 h3 h4
              obtain ⟨vt, vn, vs, vb'⟩ := bb
              unfold vlV at HBN
              go_wp2_with (first | (go_at_call 47; fail))
              refine (HBN.out _ (HBV.out.below (HBK.out _))).mono ?_
              rintro e w3 ⟨rfl, hb3⟩
              have HB3 := Lib.hid (fun c => ((HBK.out _).trans (below_le hb3 (HBK.out _).size)).alloc (by have h9 : wr.heap.size ≤ w3.heap.size := hb3.size; have h8 : w.heap.size ≤ wr.heap.size := HB.out.size; omega) c)
              clear hb3
              go_wp2
              go_ret2
              refine ⟨?_, HB3.out _⟩
              rw [HRG2.out]
              have h3 : vt = ((bv.t.toNat : Nat) : Int) := HT3.out
              rw [h3]
              rfl
          · have b2 : ((tx op).toList == [110, 97, 109, 101]) = false := tx_ne o2
            rw [if_neg o2] at HRG2
            have HOF2 := Lib.hid (HOF1.out o2)
            obtain ⟨M, hM⟩ : ∃ M, M = ofT op (l.map (fun t => (tyT L t).1)) := ⟨_, rfl⟩
            rw [← hM] at HRG2 HOF2
            clear o2 hM HOF1
            generalize tx op = T at *
            have hdr : ∀ k, Below wr.heap.size wr (wr.drewN k) := fun k => below_drewN (Below.refl _ _) k
            by_cases m0 : M = 0
            · subst m0
              rw [if_pos rfl] at HRG2
              have HOF3 : Hid (∀ k, Calls Tryz.prog 48 #[.string T, .slice kx j kc] (wr.drewN k) fun e w' => e = .returned (.int .i64 0) ∧ wr.drewN k = w') := Lib.hid (fun k => HOF2.out _ (hdr k))
              clear HOF2 hdr
              go_wp2_with (first | (go_at_call 48; refine (HOF3.out _).mono ?_; rintro e w3 ⟨rfl, rfl⟩))
              go_ret2
              exact ⟨by rw [HRG2.out]; rfl, HBK.out _⟩
            · rw [if_neg m0] at HRG2
              have m1 : ((M : Int) == 0) = false := by simpa using (show ¬ ((M : Int) = 0) by omega)
              have HOF3 := Lib.hid (fun k => HOF2.out _ (hdr k))
              clear HOF2 hdr
              go_wp2_with (first | (go_at_call 48; refine (HOF3.out _).mono ?_; rintro e w3 ⟨rfl, rfl⟩))
              go_ret2
              exact ⟨by rw [HRG2.out]; rfl, HBK.out _⟩
        · have HTK1 : Hid (∃ K : Int, ((K != (N : Int)) = true) ∧ ∀ W, Calls Tryz.prog 33 #[.string (tx op)] W fun e w' => e = .returned (.int .i64 K) ∧ W = w') := Lib.hid (by
            refine ⟨takesR op, ?_, HTK.out⟩
            unfold takesR
            cases hk : takesT op with
            | none => simp only [bne_iff_ne]; omega
            | some k =>
              rw [hk] at ht
              simp only [bne_iff_ne]
              intro e
              exact ht (by rw [show k = N by omega]))
          obtain ⟨K, hK, hTK⟩ := HTK1.out
          have HTK2 := Lib.hid hTK
          have b0 : (K == (N : Int)) = false := by simpa using hK
          rw [if_pos ht] at HRG2
          clear HOF HTK HTK1 ht hTK hK
          go_wp2_with fail
          go_quiet ((go_at_call 33; exact quiet_eq (HTK2.out _)))
          have HBK := Lib.hid (fun k => below_drewN HB.out k)
          go_wp2
          go_ret2
          exact ⟨by rw [HRG2.out]; rfl, HBK.out _⟩
end Go.Proofs.YtfalcmbjjlgoaaaGreatDoor
/- Walk: the reference's TypeOf. -/
namespace Go.Proofs.YtfalcmbjjlgoaaaGreatDoor
open Go.RowKit Go.Shelf Ieee
attribute [local go_sem] run_store_float
set_option maxRecDepth 100000 in
set_option maxHeartbeats 4000000 in
theorem rtypeOf (L : List Bnd) (hLL : L.length ≤ 1000000) (vb : Value) (t : Tree) (A : Nat → Prop) (v : Value) (w : World) (hz : szT t ≤ 1000000) (hv : NodeV A w v t) (hb : BndV w vb L) :
    Calls Tryz.prog 14 #[v, vb] w fun e w' => e = .returned (.tuple #[.int .i64 ((tyP L t).1 : Nat), .int .i64 ((tyP L t).2 : Nat)]) ∧ Below w.heap.size w w' := by
  have HDP := Lib.hid (fun W (h : NodeV A W v t) => rdepth _ t (Nat.le_refl _) A v W hz h)
  have HTY := Lib.hid (fun W (h : NodeV A W v t) (k : BndV W vb L) => rtyped L hLL vb _ t (Nat.le_refl _) A v W hz h k)
  have HDD : Hid (depT t ≤ 1000000) := Lib.hid (by have := dep_sz t; omega)
  have HV := Lib.hid hv
  have HBV := Lib.hid hb
  obtain ⟨o, n, s, x, l, c, rfl⟩ := hv.agg
  obtain ⟨bx, bn, bc, rfl⟩ := hb.agg
  obtain ⟨R, hR⟩ : ∃ R, R = tyP L t := ⟨_, rfl⟩
  rw [← hR]
  unfold tyP at hR
  obtain ⟨T, hT⟩ : ∃ T, T = tyT L t := ⟨_, rfl⟩
  rw [← hT] at hR HTY
  obtain ⟨D, hD⟩ : ∃ D, D = depT t := ⟨_, rfl⟩
  rw [← hD] at hR HDP HDD
  have HR := Lib.hid hR
  have hdd := HDD.out
  have HB0 := Lib.hid (bel1 w (.cells #[.string o, .float .f64 n, .string s, .slice x l c] 25))
  have HNB : Hid (NB (w.alloc (.cells #[.string o, .float .f64 n, .string s, .slice x l c] 25)) w.heap.size (.agg #[.string o, .float .f64 n, .string s, .slice x l c])) := Lib.hid ⟨_, _, _, _, rfl, heap_alloc_new _ _⟩
  clear hv hb hz hR hT hD
  go_enter Tryz.func14, Tryz.ntmps14
  go_wp2_with (first | (go_at_call 19; fail))
  generalize w.alloc (.cells #[.string o, .float .f64 n, .string s, .slice x l c] 25) = W0 at HB0 HNB ⊢
  go_at_call 19
  refine (HDP.out _ (HV.out.below HB0.out)).mono ?_
  rintro e w2 ⟨rfl, hb2⟩
  have HB2 := Lib.hid (HB0.out.trans (below_le hb2 HB0.out.size))
  obtain ⟨p0, p1, p2, p3, _⟩ := (HNB.out.below hb2).cells
  have hlt := (HNB.out.below hb2).lt
  clear hb2 HB0 HNB HDP
  by_cases q : 16 < D
  · have HR2 : Hid (R = (0, 190)) := Lib.hid (by rw [HR.out, if_pos q])
    go_wp2
    go_ret2
    exact ⟨by rw [HR2.out]; rfl, HB2.out⟩
  · have HR2 : Hid (R = T) := Lib.hid (by rw [HR.out, if_neg q])
    obtain ⟨T1, T2⟩ := T
    go_wp2_with (first | (go_at_call 29; fail))
    go_at_call 29
    refine (HTY.out _ (HV.out.below HB2.out) (HBV.out.below HB2.out)).mono ?_
    rintro e w3 ⟨rfl, hb3⟩
    have HB3 := Lib.hid (HB2.out.trans (below_le hb3 HB2.out.size))
    clear hb3
    go_wp2
    go_ret2
    exact ⟨by rw [HR2.out]; rfl, HB3.out⟩
end Go.Proofs.YtfalcmbjjlgoaaaGreatDoor
/- Walk: the law's size. -/
namespace Go.Proofs.YtfalcmbjjlgoaaaGreatDoor
open Go.RowKit Go.Shelf
attribute [local go_sem] run_store_float
mutual
/-- How large a tree is, up to where it is not looked at. -/
def szS : Tree → Nat
  | .mk _ _ s l => szSL (1 + s.length / 8) l
def szSL : Nat → List Tree → Nat
  | k, [] => k
  | k, t :: r => if k ≤ 400 then szSL (k + szS t) r else k
end
mutual
def bkT : Tree → Nat
  | .mk _ _ s l => 1 + s.length + bkL l
def bkL : List Tree → Nat
  | [] => 0
  | t :: r => bkT t + bkL r
end
mutual
theorem szS_le : ∀ t : Tree, szS t ≤ bkT t
  | .mk _ _ s l => by
    have := szSL_le l (1 + s.length / 8)
    have h2 : s.length / 8 ≤ s.length := Nat.div_le_self _ _
    simp only [szS, bkT]
    omega
theorem szSL_le : ∀ (l : List Tree) (k : Nat), szSL k l ≤ k + bkL l
  | [], k => by simp [szSL, bkL]
  | t :: r, k => by
    have h1 := szS_le t
    have h2 := szSL_le r (k + szS t)
    simp only [szSL, bkL]
    split <;> omega
end
theorem szSL_mono : ∀ (l : List Tree) (k : Nat), k ≤ szSL k l
  | [], k => by simp [szSL]
  | t :: r, k => by
    have h2 := szSL_mono r (k + szS t)
    simp only [szSL]
    split <;> omega
mutual
theorem small_T : ∀ t : Tree, szS t ≤ 400 → szT t ≤ szS t ∧ txT 4000 t
  | .mk _ _ s l, h => by
    simp only [szS] at h ⊢
    have h1 := szSL_mono l (1 + s.length / 8)
    have h2 := small_L l (1 + s.length / 8) h
    simp only [szT]
    exact ⟨by omega, ⟨by omega, h2.2⟩⟩
theorem small_L : ∀ (l : List Tree) (k : Nat), szSL k l ≤ 400 → k + szL l ≤ szSL k l ∧ txL 4000 l
  | [], k, _ => ⟨by simp [szSL, szL], trivial⟩
  | t :: r, k, h => by
    simp only [szSL] at h ⊢
    by_cases q : k ≤ 400
    · rw [if_pos q] at h ⊢
      have h1 := szSL_mono r (k + szS t)
      have h2 := small_T t (by omega)
      have h3 := small_L r (k + szS t) h
      simp only [szL]
      exact ⟨by omega, h2.2, h3.2⟩
    · rw [if_neg q] at h
      omega
end
theorem bkL_get (l : List Tree) (i : Nat) (h : i < l.length) : bkT l[i] ≤ bkL l := by
  induction l generalizing i with
  | nil => cases h
  | cons t r ih =>
    cases i with
    | zero => simp only [List.getElem_cons_zero, bkL]; omega
    | succ i => simp only [List.getElem_cons_succ, bkL]; have := ih i (by simpa using h); omega
theorem len_bkL (l : List Tree) : l.length ≤ bkL l := by
  induction l with
  | nil => simp
  | cons t r ih => obtain ⟨op, n, s, c⟩ := t; simp only [List.length_cons, bkL, bkT]; omega
theorem szSL_drop {l : List Tree} {j k : Nat} (h : j < l.length) : szSL k (l.drop j) = if k ≤ 400 then szSL (k + szS l[j]) (l.drop (j + 1)) else k := by
  rw [List.drop_eq_getElem_cons h]
  rfl
theorem bkL_drop {l : List Tree} {j : Nat} (h : j < l.length) : bkL (l.drop j) = bkT l[j] + bkL (l.drop (j + 1)) := by
  rw [List.drop_eq_getElem_cons h]
  rfl
set_option maxRecDepth 100000 in
set_option maxHeartbeats 4000000 in
theorem wsize : ∀ (n : Nat) (t : Tree), szT t ≤ n → ∀ (A : Nat → Prop) (v : Value) (w : World), bkT t ≤ 2000000 → NodeV A w v t →
    Calls Tryz.prog 11 #[v] w fun e w' => e = .returned (.int .i64 (szS t)) ∧ Below w.heap.size w w' := by
  intro n
  induction n with
  | zero => intro t h; cases t; simp only [szT] at h; omega
  | succ n ih =>
    intro t hn A v w hd hv
    obtain ⟨op, fn, s, l⟩ := t
    have HV := Lib.hid hv
    obtain ⟨x, cap, rfl, hcap, hx, hch⟩ := hv
    have HIH := Lib.hid ih
    have HN := Lib.hid (show szL l ≤ n by simp only [szT] at hn; omega)
    have HD := Lib.hid (show 1 + s.length + bkL l ≤ 2000000 by simpa only [bkT] using hd)
    have HC := Lib.hid hch
    have hll : l.length ≤ 2000000 := by have := len_bkL l; have := HD.out; omega
    have HX := Lib.hid hx
    have HS := Lib.hid (tx_size' s)
    obtain ⟨R, hR⟩ : ∃ R, R = szS (.mk op fn s l) := ⟨_, rfl⟩
    rw [← hR]
    have HR : Hid (R = szSL (1 + s.length / 8) (l.drop 0)) := Lib.hid (by rw [hR]; simp only [szS, List.drop_zero])
    obtain ⟨N, hN⟩ : ∃ N, N = l.length := ⟨_, rfl⟩
    rw [← hN] at hll hcap HV ⊢
    have HNL := Lib.hid hN
    have hsz : ((tx s).size : Int) / 8 = ((s.length / 8 : Nat) : Int) := by rw [HS.out]; omega
    have hsz2 : ((tx s).size : Int).tdiv 8 = ((s.length / 8 : Nat) : Int) := by rw [HS.out]; rw [Int.tdiv_eq_ediv_of_nonneg (by omega)]; omega
    obtain ⟨Q, hQ⟩ : ∃ Q, Q = s.length / 8 := ⟨_, rfl⟩
    rw [← hQ] at hsz hsz2 HR
    have hqq : Q ≤ 2000000 := by have := HD.out; have h2 : s.length / 8 ≤ s.length := Nat.div_le_self _ _; omega
    have HB0 : Hid (1 + Q + bkL (l.drop 0) ≤ 2000000) := Lib.hid (by have := HD.out; have h2 : s.length / 8 ≤ s.length := Nat.div_le_self _ _; rw [List.drop_zero]; omega)
    clear hN hn hd hch hx ih hR hQ
    go_enter Tryz.func11, Tryz.ntmps11
    go_wp2_with fail
    go_loopg [3, 4] N (fun gh k i wr => ∃ j K : Nat, j + gh = N ∧ i = .int .i64 j ∧ k = .int .i64 K ∧ Hid (R = szSL K (l.drop j)) ∧ Hid (K + bkL (l.drop j) ≤ 2000000) ∧ Hid (Below w.heap.size w wr) ∧ Hid (NB wr w.heap.size (.agg #[.string (tx op), .float .f64 fn, .string (tx s), .slice x N cap])))
    case atStart => exact ⟨0, 1 + Q, by omega, rfl, by go_num, HR, HB0, Lib.hid ((Below.refl _ _).alloc (Nat.le_refl _) _), Lib.hid ⟨_, _, _, _, rfl, heap_alloc_new _ _⟩⟩
    case round =>
      obtain ⟨j, K, hj, rfl, rfl, HRR, HBK, HB, HNB⟩ := hrel
      obtain ⟨p0, p1, p2, p3, _⟩ := HNB.out.cells
      have hbl := HNB.out.lt
      have hkk : K ≤ 2000000 := by have := HBK.out; omega
      clear HR HB0
      by_cases q : j < N
      · have hjl : j < l.length := by have := HNL.out; omega
        by_cases q4 : K ≤ 400
        · obtain ⟨a, rfl⟩ : ∃ a, x = some a := by
            cases x with
            | none => have := HX.out rfl; rw [this] at hjl; cases hjl
            | some a => exact ⟨a, rfl⟩
          obtain ⟨v0, v1, v2, v3, e0, e1, e2, e3, hnode⟩ := NodesV.get l 0 (HC.out a rfl).2 j hjl
          rw [Nat.zero_add] at e0 e1 e2 e3
          have hab : a.block < w.heap.size := ((HC.out a rfl).1 (nil_not hjl)).2
          have hs : ∀ k, wr.heap[(a.add k).block]? = w.heap[(a.add k).block]? := fun k => by rw [add_block]; exact HB.out.block _ hab
          have d0 := cell_same (hs _) e0
          have d1 := cell_same (hs _) e1
          have d2 := cell_same (hs _) e2
          have d3 := cell_same (hs _) e3
          rw [add_lit _ _ _ (by decide)] at d1 d2 d3
          clear e0 e1 e2 e3 hs
          obtain ⟨o1, n1, s1, x1, l1, c1, hag⟩ := hnode.agg
          cases hag
          have HNODE := Lib.hid hnode
          clear hnode
          have HBJ := Lib.hid (bkL_drop hjl)
          have HSJ := Lib.hid (szS_le l[j])
          have HRJ : Hid (R = szSL (K + szS l[j]) (l.drop (j + 1))) := Lib.hid (by rw [HRR.out, szSL_drop hjl, if_pos q4])
          have HCH : Hid (∀ W, Below w.heap.size w W → Calls Tryz.prog 11 #[.agg #[.string o1, .float .f64 n1, .string s1, .slice x1 l1 c1]] W fun e w' => e = .returned (.int .i64 (szS l[j])) ∧ Below W.heap.size W w') := Lib.hid (fun W hW => by
            have h1 := szL_get l j hjl
            have h2 := HN.out
            have h3 := HBK.out
            have h4 := HBJ.out
            exact HIH.out l[j] (by omega) A _ W (by omega) (HNODE.out.below hW))
          have hbj : K + szS l[j] ≤ 2000000 := by have := HBK.out; have := HBJ.out; have := HSJ.out; omega
          have HBK2 : Hid ((K + szS l[j]) + bkL (l.drop (j + 1)) ≤ 2000000) := Lib.hid (by have := HBK.out; have := HBJ.out; have := HSJ.out; omega)
          generalize szS l[j] = Z at HCH hbj HBK2 HRJ
          go_wp2_with (first | (go_at_call 11; fail))
          refine (HCH.out _ HB.out).mono ?_
          rintro e w2 ⟨rfl, hb2⟩
          have HB2 := Lib.hid (HB.out.trans (below_le hb2 HB.out.size))
          have HNB2 := Lib.hid (HNB.out.below hb2)
          clear hb2 d0 d1 d2 d3
          go_wp2
          go_roundg (gk - 1)
          case measure => omega
          case rel => exact ⟨j + 1, K + Z, by omega, by go_num, by go_num, HRJ, HBK2, HB2, HNB2⟩
        · have HRE : Hid (R = K) := Lib.hid (by rw [HRR.out, szSL_drop hjl, if_neg q4])
          have q5 : ¬ (K : Int) ≤ 400 := by omega
          go_wp2
          go_ret
          exact ⟨by rw [HRE.out]; rfl, HB.out⟩
      · have HRE : Hid (R = K) := Lib.hid (by rw [HRR.out, List.drop_eq_nil_of_le (by have := HNL.out; omega)]; rfl)
        go_wp2
        go_ret
        exact ⟨by rw [HRE.out]; rfl, HB.out⟩
end Go.Proofs.YtfalcmbjjlgoaaaGreatDoor
/- Walk: the law's few. -/
namespace Go.Proofs.YtfalcmbjjlgoaaaGreatDoor
open Go.RowKit Go.Shelf
attribute [local go_sem] run_store_float
def bndC (b : Bnd) : List Value := [.string (tx b.nm), .int .i64 b.v.t, .float .f64 b.v.n, .string (tx b.v.s), .bool b.v.b]
def bndsV (L : List Bnd) : List Value := L.flatMap bndC
theorem bndsV_app (A B : List Bnd) : bndsV (A ++ B) = bndsV A ++ bndsV B := by simp [bndsV]
theorem bndsV_get : ∀ (L : List Bnd) (i : Nat) (b : Bnd), L[i]? = some b → (bndsV L)[i * 5]? = some (.string (tx b.nm)) ∧ (bndsV L)[i * 5 + 1]? = some (.int .i64 b.v.t) ∧ (bndsV L)[i * 5 + 2]? = some (.float .f64 b.v.n) ∧ (bndsV L)[i * 5 + 3]? = some (.string (tx b.v.s)) ∧ (bndsV L)[i * 5 + 4]? = some (.bool b.v.b)
  | [], i, t, h => by cases h
  | u :: r, 0, t, h => by
    cases h
    exact ⟨rfl, rfl, rfl, rfl, rfl⟩
  | u :: r, i + 1, t, h => by
    have e : ∀ k, (bndsV (u :: r))[k + 5]? = (bndsV r)[k]? := fun k => rfl
    have g := bndsV_get r i t (by simpa using h)
    rw [show (i + 1) * 5 = i * 5 + 5 by omega, show i * 5 + 5 + 1 = (i * 5 + 1) + 5 by omega, show i * 5 + 5 + 2 = (i * 5 + 2) + 5 by omega, show i * 5 + 5 + 3 = (i * 5 + 3) + 5 by omega, show i * 5 + 5 + 4 = (i * 5 + 4) + 5 by omega, e, e, e, e, e]
    exact g
theorem bndV_row {n0 : Nat} {w : World} {v : Value} {L : List Bnd} (h : w.ownsRow n0 53 5 v L.length (bndsV L)) : BndV w v L := by
  have hc := fun g (hg : v.ownBlock = some g) => h.cells hg
  have hl := h.lt
  rcases h.2 with ⟨rfl, h3⟩ | ⟨g, cap, cur, rfl, _, _, hcap, _⟩
  · have : L = [] := List.length_eq_zero_iff.1 h3
    subst this
    exact BndV.nil w
  · refine ⟨some ⟨g, 0, none⟩, cap, rfl, hcap, (fun e => by cases e), fun a ha => ?_⟩
    cases ha
    refine ⟨fun _ => (hl g rfl).2, fun i b hi => ?_⟩
    obtain ⟨h1, h2, h3, h4, h5⟩ := bndsV_get L i b hi
    exact ⟨hc g rfl _ _ h1, hc g rfl _ _ h2, hc g rfl _ _ h3, hc g rfl _ _ h4, hc g rfl _ _ h5⟩
def cutB (b : Bnd) : Bnd := ⟨b.nm, ⟨b.v.t, b.v.n, b.v.s.take 100, b.v.b⟩⟩
def fewB (L : List Bnd) : List Bnd := (L.take 10).map cutB
theorem info_bind : ∃ i0, Tryz.prog.info? 53 = some i0 ∧ i0.zero = some (.agg #[.string ⟨#[]⟩, .int .i64 0, .float .f64 0, .string ⟨#[]⟩, .bool false]) ∧ i0.size = 5 ∧ i0.bytes = 56 :=
  info_parts (show (Tryz.prog.info? 53).map (fun i => (i.zero, i.size, i.bytes)) = some (some (.agg #[.string ⟨#[]⟩, .int .i64 0, .float .f64 0, .string ⟨#[]⟩, .bool false]), 5, 56) by kernel_rfl)
theorem five_cells (w : World) (a b c d e : Value) (T : TypeId) : ∀ j x, [a, b, c, d, e][j]? = some x → (w.alloc (.cells #[a, b, c, d, e] T)).cell? ((⟨w.heap.size, 0, none⟩ : Addr).add j) = some x := fun j x h => by
  rw [addr_add]
  have hh := heap_alloc_new w (.cells #[a, b, c, d, e] T)
  match j, h with
  | 0, h => cases h; unfold World.cell?; simp only; rw [hh]; rfl
  | 1, h => cases h; unfold World.cell?; simp only; rw [hh]; rfl
  | 2, h => cases h; unfold World.cell?; simp only; rw [hh]; rfl
  | 3, h => cases h; unfold World.cell?; simp only; rw [hh]; rfl
  | 4, h => cases h; unfold World.cell?; simp only; rw [hh]; rfl
  | j + 5, h => cases h
theorem five_cells2 (w : World) (o : Obj) (a b c d e : Value) (T : TypeId) : ∀ j x, [a, b, c, d, e][j]? = some x → ((w.alloc o).alloc (.cells #[a, b, c, d, e] T)).cell? ((⟨w.heap.size + 1, 0, none⟩ : Addr).add j) = some x := by
  have h := five_cells (w.alloc o) a b c d e T
  rwa [show (w.alloc o).heap.size = w.heap.size + 1 by simp] at h
set_option maxRecDepth 100000 in
set_option maxHeartbeats 8000000 in
theorem wfew (v : Value) (L : List Bnd) (hL : L.length ≤ 2000000) (w : World) (h : BndV w v L) : Calls Tryz.prog 12 #[v] w fun e w' => ∃ u, e = .returned u ∧ BndV w' u (fewB L) ∧ Below w.heap.size w w' := by
  obtain ⟨x, cap, rfl, hcap, hx, hc⟩ := h
  have HC := Lib.hid hc
  have HX := Lib.hid hx
  obtain ⟨i0, hi, hi0, hi1, hi2⟩ := info_bind
  have HII := Lib.hid (And.intro hi (And.intro hi0 (And.intro hi1 hi2)))
  obtain ⟨N, hN⟩ : ∃ N, N = L.length := ⟨_, rfl⟩
  have HN := Lib.hid hN
  rw [← hN] at hL hcap ⊢
  clear hc hx hN hi hi0 hi1 hi2
  go_enter Tryz.func12, Tryz.ntmps12
  go_wp2_with fail
  go_loopg [3, 4] (N + 1) (fun gh o i wr => ∃ j : Nat, j + gh = N + 1 ∧ j ≤ 10 ∧ j ≤ N ∧ i = .int .i64 j ∧ Hid (wr.ownsRow w.heap.size 53 5 o j (bndsV ((L.take j).map cutB))) ∧ Hid (Below w.heap.size w wr))
  case atStart => exact ⟨0, by omega, by omega, by omega, rfl, Lib.hid (World.ownsRow_nil _ _ _ _), Lib.hid (Below.refl _ _)⟩
  case round =>
    obtain ⟨j, hj, hj10, hjN, rfl, HO, HB⟩ := hrel
    obtain ⟨kx, kc, rfl⟩ := ownsRow_is HO.out
    by_cases q : j < N
    · by_cases q2 : j < 10
      · have hjl : j < L.length := by have := HN.out; omega
        obtain ⟨a, rfl⟩ : ∃ a, x = some a := by
          cases x with
          | none => have := HX.out rfl; rw [this] at hjl; cases hjl
          | some a => exact ⟨a, rfl⟩
        obtain ⟨e0, e1, e2, e3, e4⟩ := (HC.out a rfl).2 j L[j] (List.getElem?_eq_getElem hjl)
        have hab : a.block < w.heap.size := (HC.out a rfl).1 (nil_not hjl)
        have hs : ∀ k, wr.heap[(a.add k).block]? = w.heap[(a.add k).block]? := fun k => by rw [add_block]; exact HB.out.block _ hab
        have d0 := cell_same (hs _) e0
        have d1 := cell_same (hs _) e1
        have d2 := cell_same (hs _) e2
        have d3 := cell_same (hs _) e3
        have d4 := cell_same (hs _) e4
        rw [add_lit _ _ _ (by decide)] at d1 d2 d3 d4
        clear e0 e1 e2 e3 e4 hs
        have HTK : Hid (bndsV ((L.take (j + 1)).map cutB) = bndsV ((L.take j).map cutB) ++ bndC (cutB L[j])) := Lib.hid (by
          rw [List.take_succ_eq_append_getElem hjl, List.map_append, bndsV_app]
          simp [bndsV])
        obtain ⟨bb, hbb⟩ : ∃ bb, bb = L[j] := ⟨_, rfl⟩
        rw [← hbb] at d0 d1 d2 d3 d4 HTK
        clear hbb
        obtain ⟨nm, t, fn, sv, bv⟩ := bb
        simp only at d0 d1 d2 d3 d4
        have HS := Lib.hid (tx_size' sv)
        have hm : min ((tx sv).size : Int) 100 = ((min sv.length 100 : Nat) : Int) := by rw [HS.out]; omega
        have hle : ((min sv.length 100 : Nat) : Int) ≤ ((tx sv).size : Int) := by rw [HS.out]; omega
        have hle2 : min sv.length 100 ≤ (tx sv).size := by rw [HS.out]; omega
        have HE : Hid ((tx sv).extract 0 (min sv.length 100) = tx (sv.take 100)) := Lib.hid (by
          rw [tx_extract, List.drop_zero, Nat.sub_zero]
          by_cases h : sv.length ≤ 100
          · rw [Nat.min_eq_left h, List.take_length, List.take_of_length_le h]
          · rw [Nat.min_eq_right (by omega)])
        have HBC : Hid (bndC (cutB ⟨nm, ⟨t, fn, sv, bv⟩⟩) = [.string (tx nm), .int .i64 t, .float .f64 fn, .string ((tx sv).extract 0 (min sv.length 100)), .bool bv]) := Lib.hid (by rw [HE.out]; rfl)
        generalize min sv.length 100 = K at hm hle hle2 HE HBC
        have hbs := HB.out.size
        go_wp2_with (first | (at_builtin; go_loud (refine wpList_append_own _ rfl _ _ 35 rfl w.heap.size 53 i0 (.agg #[.string ⟨#[]⟩, .int .i64 0, .float .f64 0, .string ⟨#[]⟩, .bool false]) 5 56 Tryz.underlying35 HII.out.1 HII.out.2.1 HII.out.2.2.1 HII.out.2.2.2 rfl (by decide) _ _ _ rfl ((HO.out.alloc _).alloc _) ⟨wr.heap.size + 1, 0, none⟩ 1 1 [.string (tx nm), .int .i64 t, .float .f64 fn, .string ((tx sv).extract 0 K), .bool bv] rfl rfl (five_cells2 wr _ _ _ _ _ _ _) (by simp [Value.oneCell']) (by unfold maxLen; omega) (by omega) (by simp; omega) ?_)))
        intro v' w3 ho1 hg1 _
        have HO3 : Hid (w3.ownsRow w.heap.size 53 5 v' (j + 1) (bndsV ((L.take (j + 1)).map cutB))) := Lib.hid (by rw [HTK.out, HBC.out, List.map_take]; exact ho1)
        have HB3 : Hid (Below w.heap.size w w3) := Lib.hid (((HB.out.alloc HB.out.size _).alloc (by simp; omega) _).grown hg1 (by simp; omega) (fun k e => (HO.out.lt k e).1))
        clear ho1 hg1 d0 d1 d2 d3 d4
        go_wp2
        go_roundg (gk - 1)
        case measure => omega
        case rel => exact ⟨j + 1, by omega, by omega, by omega, by go_num, HO3, HB3⟩
      · have HR : Hid (BndV wr (.slice kx j kc) (fewB L)) := Lib.hid (bndV_row (n0 := w.heap.size) (by
          have e1 : fewB L = (L.take j).map cutB := by
            unfold fewB
            rw [show j = 10 by omega]
          rw [e1, List.length_map, List.length_take, show min j L.length = j by have := HN.out; omega]
          exact HO.out))
        have q3 : ¬ (j : Int) < 10 := by omega
        go_wp2
        go_ret
        exact ⟨_, rfl, HR.out, HB.out⟩
    · have HR : Hid (BndV wr (.slice kx j kc) (fewB L)) := Lib.hid (bndV_row (n0 := w.heap.size) (by
        have e1 : fewB L = (L.take j).map cutB := by
          unfold fewB
          rw [List.take_of_length_le (l := L) (i := 10) (by have := HN.out; omega), List.take_of_length_le (l := L) (i := j) (by have := HN.out; omega)]
        rw [e1, List.length_map, List.length_take, show min j L.length = j by have := HN.out; omega]
        exact HO.out))
      have q3 : ¬ (j : Int) < (N : Int) := by omega
      go_wp2
      go_ret
      exact ⟨_, rfl, HR.out, HB.out⟩
end Go.Proofs.YtfalcmbjjlgoaaaGreatDoor
/- Walks: a rune added to the builder. -/
namespace Go.Proofs.YtfalcmbjjlgoaaaGreatDoor
open Go.RowKit Go.Shelf
theorem step_call {P : Program} {ops : Array Oper} {o : Oper} {a : Act} {w : World} {K : Act → World → Prop} {Q : Exit → Act → World → Prop} {E : Prop}
    (hg : o.guard = none) (f : FuncId) (x : Operand) (T : TypeId) (hop : o.op = Op.call { callee := Callee.value (Operand.func f), args := #[x], argTypes := #[T] }) (hent : ∀ args w, (callFunc f args).run P w = .ok (.enter f args) w)
    (v : Value) (hx : a.eval x = v) (hc : Calls P f #[v] w fun e w' => ∃ u, e = .returned u ∧ K (a.put o.dst u) w') :
    if Region.wanted o (yielded ops a.tmps) = true then Oper.wp P o a w K Q else E := by
  have hw : Region.wanted o (yielded ops a.tmps) = true := by simp [Region.wanted, hg]
  rw [if_pos hw]
  have hrun : (execOp a.eval o).run P w = .ok (.enter f #[v]) w := by
    simp [execOp, hop, resolve, invoke, hent, Act.eval, go_sem]
    rw [← hx]
    cases x <;> simp [Act.eval]
  unfold Oper.wp
  rw [hrun, Oper.upon_enter]
  refine hc.mono ?_
  rintro e w' ⟨u, rfl, hk⟩
  exact hk
/-- More bytes to the cluster under way: what stands behind the append. -/
theorem BSt.app1 {B b : Nat} {D : List Bs} {N M : Bs} {o : Bool} {w w2 w' : World} {vd v' : Value} {y : Option Addr} {d : Nat} (hlt : b < B ∧ B ≤ w.heap.size) (hop : o = true → N ++ M ≠ []) (hb : w.heap[b]? = some (.cells #[vd, .slice y N.length d, .bool o] 126 (0, 0))) (hd : w.ownsRow B 9 1 vd D.length (strs D)) (hn : w.ownsRow B 5 1 (.slice y N.length d) N.length (Lib.byteCells N))
    (hbel : Below w.heap.size w w2) (ho : w'.ownsRow B 5 1 v' (N.length + M.length) (Lib.byteCells N ++ Lib.byteCells M)) (hg : w2.grownBy w' (Value.slice y N.length d).ownBlock) :
    w'.heap[b]? = some (.cells #[vd, .slice y N.length d, .bool o] 126 (0, 0)) ∧ BSt B b D (N ++ M) o (w'.setCell ⟨b, 1, none⟩ v') ∧ Stay b B w (w'.setCell ⟨b, 1, none⟩ v') := by
  have hbl : b < w.heap.size := (Array.getElem?_eq_some_iff.1 hb).1
  have hvl : ∀ k, (Value.slice y N.length d).ownBlock = some k → B ≤ k ∧ ∃ cur, w.heap[k]? = some (.cells cur 5 (0, 0)) := fun k hk => by
    refine ⟨(hn.lt k hk).1, ?_⟩
    rcases hn.2 with ⟨hv, _⟩ | ⟨g', cap, cur, hv, _, hg', _⟩
    · rw [hv] at hk; cases hk
    · rw [hv] at hk; cases hk; exact ⟨cur, hg'⟩
  have hold : ∀ k, k < w.heap.size → (Value.slice y N.length d).ownBlock ≠ some k → w'.heap[k]? = w.heap[k]? := fun k hk hne => by
    rw [hg.block k (by have := hbel.size; omega) (fun e => hne e.symm)]
    exact hbel.block k hk
  have hbb := (hold b hbl (fun e => by have := (hvl b e).1; omega)).trans hb
  have hs := set_block (o := 1) hbb v'
  have hsz : w.heap.size ≤ w'.heap.size := Nat.le_trans hbel.size hg.size
  refine ⟨hbb, ⟨⟨vd, v', ?_, ?_, ?_⟩, ⟨hlt.1, by simp; omega⟩, hop⟩, ?_⟩
  · rw [hs]; rfl
  · refine row_kept hd (fun j hj => ?_)
    obtain ⟨h1, h2⟩ := hd.lt j hj
    rw [set_other (by omega)]
    refine hold j h2 (fun e => ?_)
    obtain ⟨_, cur, h3⟩ := hvl j e
    rcases hd.2 with ⟨hv, _⟩ | ⟨g', cap, cur', hv, _, hg', _⟩
    · rw [hv] at hj; cases hj
    · rw [hv] at hj; cases hj; rw [h3] at hg'; cases hg'
  · have h1 : (N ++ M).length = N.length + M.length := by simp
    rw [h1, Lib.byteCells_append]
    exact row_kept ho (fun j hj => set_other (by have := (ho.lt j hj).1; omega))
  · refine Stay.trans ⟨hg.os.trans hbel.os, hg.tape.trans hbel.tape, hg.output.trans hbel.output, hsz, fun j hj _ => hold j (by omega) (fun e => by have := (hvl j e).1; omega), fun j o2 ho2 hc2 => ?_⟩ (Stay.set hbb)
    rw [hold j (Array.getElem?_eq_some_iff.1 ho2).1 (fun e => by obtain ⟨_, cur, h1⟩ := hvl j e; rw [h1] at ho2; cases ho2; cases hc2)]
    exact ho2
/-- The builder is opened. -/
theorem BSt.open {B b : Nat} {D : List Bs} {N : Bs} {o : Bool} {W : World} (h : BSt B b D N o W) (hN : N ≠ []) : (∃ v, W.cell? ⟨b, 2, none⟩ = some v) ∧ W.frozen? ⟨b, 2, none⟩ = false ∧ BSt B b D N true (W.setCell ⟨b, 2, none⟩ (.bool true)) ∧ Stay b B W (W.setCell ⟨b, 2, none⟩ (.bool true)) := by
  obtain ⟨vd, vn, hb, hd, hn⟩ := h.ex
  have hs := set_block (o := 2) hb (.bool true)
  refine ⟨⟨.bool o, by simp [World.cell?, hb]⟩, by simp [World.frozen?, hb], ⟨⟨vd, vn, by rw [hs]; rfl, row_kept hd (fun j hj => set_other (by have := (hd.lt j hj).1; have := h.lt.1; omega)), row_kept hn (fun j hj => set_other (by have := (hn.lt j hj).1; have := h.lt.1; omega))⟩, ⟨h.lt.1, by simpa using h.lt.2⟩, fun _ => hN⟩, Stay.set hb⟩
theorem BSt.kept {B b : Nat} {D : List Bs} {N : Bs} {o : Bool} {W W' : World} (h : BSt B b D N o W) (hb : Below W.heap.size W W') : BSt B b D N o W' := by
  obtain ⟨vd, vn, h1, hd, hn⟩ := h.ex
  exact ⟨⟨vd, vn, (hb.block b (Array.getElem?_eq_some_iff.1 h1).1).trans h1, row_kept hd (fun j hj => hb.block j (hd.lt j hj).2), row_kept hn (fun j hj => hb.block j (hn.lt j hj).2)⟩, ⟨h.lt.1, Nat.le_trans h.lt.2 hb.size⟩, h.op⟩
theorem rb0_len (x : Int) : rb0 x ≠ [] ∧ (rb0 x).length ≤ 4 := by
  unfold rb0
  split
  · simp
  · split
    · simp
    · split <;> simp
theorem rb_ne (r : Int) : rb r ≠ [] := (rb0_len _).1
theorem rb_len (r : Int) : (rb r).length ≤ 4 := (rb0_len _).2
/-- A rune added: the clusters done, the one under way, is it open. -/
def addS (s : List Bs × Bs × Bool) (r : Int) : List Bs × Bs × Bool :=
  if 0 < ofW r then (if s.2.2 = true then s.1 ++ [s.2.1] else s.1, rb r, true)
  else if s.2.2 = true ∧ isMk r = true ∧ s.2.1.length + (rb r).length ≤ 64 then (s.1, s.2.1 ++ rb r, true) else s
theorem byteCells_one (l : Bs) : ∀ u ∈ Lib.byteCells l, u.oneCell' = true := by
  intro u hu
  unfold Lib.byteCells at hu
  obtain ⟨x, _, rfl⟩ := List.mem_map.1 hu
  rfl
theorem row_at {w : World} {g : Nat} {l : Bs} {t : TypeId} (h : w.heap[g]? = some (.cells (Lib.byteCells l).toArray t (0, 0))) : ∀ j u, (Lib.byteCells l)[j]? = some u → w.cell? ((⟨g, 0, none⟩ : Addr).add j) = some u := fun j u hu => by
  have h4 : (⟨g, 0, none⟩ : Addr).add j = ⟨g, j, none⟩ := by by_cases e : j = 0 <;> simp [Addr.add, e]
  rw [h4]
  simpa [World.cell?, h] using hu
set_option maxRecDepth 100000 in
set_option maxHeartbeats 4000000 in
theorem wadd_base (B b : Nat) (D : List Bs) (N : Bs) (o : Bool) (r : Int) (hDl : D.length ≤ 999999) (hbase : 0 < ofW r) (w : World) (h : BSt B b D N o w) :
    Calls Tryz.prog 108 #[.pointer (some ⟨b, 0, none⟩), .int .i32 r] w fun e w' => e = .returned (.tuple #[]) ∧ BSt B b (if o = true then D ++ [N] else D) (rb r) true w' ∧ Stay b B w w' := by
  obtain ⟨i0, hi, hz0, hz1, hz2⟩ := info_parts5
  have HLT := Lib.hid h.lt
  have HB := Lib.hid (wisBase r)
  rw [decide_eq_true hbase] at HB
  have HEND : Hid (∀ W, BSt B b D N o W → Calls Tryz.prog 109 #[.pointer (some ⟨b, 0, none⟩)] W fun e w' => e = .returned (.tuple #[]) ∧ BSt B b (if o = true then D ++ [N] else D) [] false w' ∧ Stay b B W w') := Lib.hid (fun W hW => by
    cases o
    · exact wend0 B b D N W hW
    · exact wend1 B b D N (by omega) W hW)
  have HBY := Lib.hid (wbytes r)
  unfold BytesEnd at HBY
  have HNE := Lib.hid (rb_ne r)
  have HLN := Lib.hid (rb_len r)
  obtain ⟨M, hM⟩ : ∃ M, M = rb r := ⟨_, rfl⟩
  obtain ⟨D2, hD2⟩ : ∃ M, M = (if o = true then D ++ [N] else D) := ⟨_, rfl⟩
  rw [← hM] at HBY HNE HLN ⊢
  rw [← hD2] at HEND ⊢
  have H0 := Lib.hid h
  clear hM hD2 h hbase
  go_enter Tryz.func108, Tryz.ntmps108
  go_wp2_with (first | (go_at_call 117; fail))
  go_at_call 117
  refine (HB.out _).mono ?_
  rintro e w1 ⟨rfl, hb1⟩
  have HW1 := Lib.hid hb1
  clear hb1
  go_wp2_with (first | (go_at_call 109; fail))
  go_at_call 109
  refine (HEND.out _ (H0.out.kept HW1.out)).mono ?_
  rintro e w2 ⟨rfl, hB2, hS2⟩
  have HS2 := Lib.hid ((Stay.of HW1.out H0.out.lt.2).trans hS2)
  have HL2 := Lib.hid hB2.lt
  clear HEND H0 HB HW1 hS2
  obtain ⟨vd, vn, hb, hd, hn⟩ := hB2.ex
  obtain ⟨y, d, rfl⟩ := ownsRow_is hn
  have c1 : w2.cell? ⟨b, 1, none⟩ = some (.slice y 0 d) := by simp [World.cell?, hb]
  have f1 : w2.frozen? ⟨b, 1, none⟩ = false := by simp [World.frozen?, hb]
  have hbl : b < w2.heap.size := (Array.getElem?_eq_some_iff.1 hb).1
  have HA := Lib.hid (fun (w3 w4 : World) (v' : Value) h1 h2 h3 => BSt.app1 (N := []) (M := M) (w := w2) (w2 := w3) (w' := w4) (v' := v') HL2.out (fun h => by cases h) hb hd hn h1 h2 h3)
  have HN2 := Lib.hid (show w2.ownsRow B 5 1 (.slice y 0 d) 0 [] from hn)
  clear hB2 hb hd hn
  go_upto_region 2 with (fail)
  go_region_law (first | (refine step_call rfl 118 (.tmp 14) 21 rfl (enters_of Tryz.func118 (by kernel_rfl) rfl) (.int .i32 r) rfl ?_; refine (HBY.out _).mono ?_; rintro e w3 ⟨g3, rfl, hr3, hge3, hb3⟩; refine ⟨_, rfl, ?_⟩; have HB3 : Hid (Below w2.heap.size w2 w3) := Lib.hid ((Below.refl _ _).drew.trans hb3); have c13 : w3.cell? ⟨b, 1, none⟩ = some (.slice y 0 d) := (HB3.out.cell (p := ⟨b, 1, none⟩) hbl).trans c1; have HR3 := Lib.hid hr3; clear hr3 hge3 hb3) | (refine step_append_own rfl (.tmp 13) (.tmp 15) 83 rfl B 5 i0 (.int .u8 0) 1 1 Tryz.underlying83 hi hz0 hz1 hz2 rfl (by decide) _ _ _ rfl (row_kept HN2.out (fun j hj => HB3.out.block j (HN2.out.lt j hj).2)) ⟨g3, 0, none⟩ M.length M.length (Lib.byteCells M) rfl (by simp [Lib.byteCells]) (row_at HR3.out) (byteCells_one M) (by unfold maxLen; have := HLN.out; omega) (by have := HLN.out; omega) (by have := HL2.out; have := HB3.out.size; omega) ?_; intro v' w4 hown' hgrow' _; obtain ⟨hb', hB', hS'⟩ := HA.out w3 w4 v' HB3.out hown' hgrow'; have HS' := Lib.hid (And.intro hB' hS'); have c14 : w4.cell? ⟨b, 1, none⟩ = some (.slice y 0 d) := (by simp [World.cell?, hb']); have f14 : w4.frozen? ⟨b, 1, none⟩ = false := (by simp [World.frozen?, hb']); obtain ⟨x', c', rfl⟩ := ownsRow_is hown'; clear hb' hB' hS' hown' hgrow'))
  all_goals
    simp only [List.nil_append, Nat.zero_add] at HS'
    clear c1 f1 c13 c14 f14
    generalize w4.setCell ⟨b, 1, none⟩ (Value.slice x' M.length c') = W5 at HS' ⊢
    obtain ⟨⟨v5, c5⟩, f5, hO, hSO⟩ := HS'.out.1.open HNE.out
    have HO := Lib.hid hO
    have HSO := Lib.hid ((HS2.out.trans HS'.out.2).trans hSO)
    clear hO hSO
    go_wp2
    first | go_end0 | refine bodyPost_ret (results_none rfl _ _ _) rfl ?_
    exact ⟨rfl, HO.out, HSO.out⟩
set_option maxRecDepth 100000 in
set_option maxHeartbeats 4000000 in
theorem wadd_mark (B b : Nat) (D : List Bs) (N : Bs) (o : Bool) (r : Int) (hNl : N.length ≤ 1000000) (hbase : ¬ 0 < ofW r) (w : World) (h : BSt B b D N o w) :
    Calls Tryz.prog 108 #[.pointer (some ⟨b, 0, none⟩), .int .i32 r] w fun e w' => e = .returned (.tuple #[]) ∧ BSt B b D (if o = true ∧ isMk r = true ∧ N.length + (rb r).length ≤ 64 then N ++ rb r else N) o w' ∧ Stay b B w w' := by
  obtain ⟨i0, hi, hz0, hz1, hz2⟩ := info_parts5
  have HLT := Lib.hid h.lt
  have HB := Lib.hid (wisBase r)
  rw [decide_eq_false hbase] at HB
  have HMK := Lib.hid (wisMark r)
  have HBY := Lib.hid (wbytes r)
  unfold BytesEnd at HBY
  have HLN := Lib.hid (rb_len r)
  obtain ⟨M, hM⟩ : ∃ M, M = rb r := ⟨_, rfl⟩
  obtain ⟨K, hK⟩ : ∃ M, M = isMk r := ⟨_, rfl⟩
  rw [← hM] at HBY HLN ⊢
  rw [← hK] at HMK ⊢
  have hMl := HLN.out
  obtain ⟨N2, hN2⟩ : ∃ X, X = (if o = true ∧ K = true ∧ N.length + M.length ≤ 64 then N ++ M else N) := ⟨_, rfl⟩
  rw [← hN2]
  have HN2 := Lib.hid hN2
  have H0 := Lib.hid h
  clear hM hK h hbase hN2
  go_enter Tryz.func108, Tryz.ntmps108
  go_wp2_with (first | (go_at_call 117; fail))
  go_at_call 117
  refine (HB.out _).mono ?_
  rintro e w1 ⟨rfl, hb1⟩
  have H1 := Lib.hid (H0.out.kept hb1)
  have HS1 := Lib.hid (Stay.of (b := b) hb1 H0.out.lt.2)
  clear hb1 HB
  obtain ⟨vd, vn, hb, hd, hn⟩ := H1.out.ex
  obtain ⟨y, d, rfl⟩ := ownsRow_is hn
  have c1 : w1.cell? ⟨b, 1, none⟩ = some (.slice y N.length d) := by simp [World.cell?, hb]
  have c2 : w1.cell? ⟨b, 2, none⟩ = some (.bool o) := by simp [World.cell?, hb]
  have hbl : b < w1.heap.size := (Array.getElem?_eq_some_iff.1 hb).1
  have HL1 := Lib.hid H1.out.lt
  have HOP := Lib.hid H1.out.op
  have HA := Lib.hid (fun (w3 w4 : World) (v' : Value) h1 h2 h3 => BSt.app1 (M := M) (w := w1) (w2 := w3) (w' := w4) (v' := v') HL1.out (fun h e => HOP.out h (List.append_eq_nil_iff.1 e).1) hb hd hn h1 h2 h3)
  have HN1 := Lib.hid hn
  clear hb hd hn
  cases o
  · have HV : Hid (N2 = N) := Lib.hid (by have := HN2.out; simpa using this)
    go_wp2
    first | go_end0 | refine bodyPost_ret (results_none rfl _ _ _) rfl ?_
    rw [HV.out]
    exact ⟨rfl, H1.out, HS1.out⟩
  · go_wp2_with (first | (go_at_call 119; fail))
    go_at_call 119
    refine (HMK.out _).mono ?_
    rintro e w2 ⟨rfl, hb2⟩
    have HB2 := Lib.hid hb2
    have c21 : w2.cell? ⟨b, 1, none⟩ = some (.slice y N.length d) := (hb2.cell (p := ⟨b, 1, none⟩) hbl).trans c1
    clear hb2 c1 c2
    cases K
    · have H2 := Lib.hid (And.intro (H1.out.kept HB2.out) (HS1.out.trans (Stay.of (b := b) HB2.out H1.out.lt.2)))
      have HV : Hid (N2 = N) := Lib.hid (by have := HN2.out; simpa using this)
      go_wp2
      first | go_end0 | refine bodyPost_ret (results_none rfl _ _ _) rfl ?_
      rw [HV.out]
      exact ⟨rfl, H2.out.1, H2.out.2⟩
    · go_wp2_with (first | (go_at_call 118; fail))
      go_at_call 118
      refine (HBY.out _).mono ?_
      rintro e w3 ⟨g3, rfl, hr3, hge3, hb3⟩
      have HB3 := Lib.hid (HB2.out.trans (below_le hb3 HB2.out.size))
      have HR3 := Lib.hid hr3
      have c31 : w3.cell? ⟨b, 1, none⟩ = some (.slice y N.length d) := (HB3.out.cell (p := ⟨b, 1, none⟩) hbl).trans (by
        have := HB2.out.cell (p := ⟨b, 1, none⟩) hbl
        rw [← this]; exact c21)
      clear hr3 hge3 hb3 c21
      by_cases h64 : N.length + M.length ≤ 64
      · go_wp2_with (first | (at_builtin; go_loud (refine wpList_append_own _ rfl _ _ 83 rfl B 5 i0 (.int .u8 0) 1 1 Tryz.underlying83 hi hz0 hz1 hz2 rfl (by decide) _ _ _ rfl (row_kept HN1.out (fun j hj => HB3.out.block j (HN1.out.lt j hj).2)) ⟨g3, 0, none⟩ M.length M.length (Lib.byteCells M) rfl (by simp [Lib.byteCells]) (row_at HR3.out) (byteCells_one M) (by unfold maxLen; have := HLN.out; omega) (by have := HLN.out; omega) (by have := HL1.out; have := HB3.out.size; omega) ?_)))
        intro v' w4 hown' hgrow' _
        have HV : Hid (N2 = N ++ M) := Lib.hid (by rw [HN2.out]; simp [h64])
        obtain ⟨hb', hB', hS'⟩ := HA.out w3 w4 v' HB3.out hown' hgrow'
        have HS' := Lib.hid (And.intro hB' (HS1.out.trans hS'))
        have c14 : w4.cell? ⟨b, 1, none⟩ = some (.slice y N.length d) := by simp [World.cell?, hb']
        have f14 : w4.frozen? ⟨b, 1, none⟩ = false := by simp [World.frozen?, hb']
        obtain ⟨x', c', rfl⟩ := ownsRow_is hown'
        clear hb' hB' hS' hown' hgrow' c31
        go_wp2
        first | go_end0 | refine bodyPost_ret (results_none rfl _ _ _) rfl ?_
        rw [HV.out]
        exact ⟨rfl, HS'.out.1, HS'.out.2⟩
      · have H3 := Lib.hid (And.intro (H1.out.kept HB3.out) (HS1.out.trans (Stay.of (b := b) HB3.out H1.out.lt.2)))
        have h64' : ¬ (N.length : Int) + (M.length : Int) ≤ 64 := by omega
        have HV : Hid (N2 = N) := Lib.hid (by rw [HN2.out, if_neg (fun h => h64 h.2.2)])
        go_wp2
        first | go_end0 | refine bodyPost_ret (results_none rfl _ _ _) rfl ?_
        rw [HV.out]
        exact ⟨rfl, H3.out.1, H3.out.2⟩
/-- A rune added. -/
theorem wadd (B b : Nat) (s : List Bs × Bs × Bool) (r : Int) (hDl : s.1.length ≤ 999999) (hNl : s.2.1.length ≤ 1000000) (w : World) (h : BSt B b s.1 s.2.1 s.2.2 w) :
    Calls Tryz.prog 108 #[.pointer (some ⟨b, 0, none⟩), .int .i32 r] w fun e w' => e = .returned (.tuple #[]) ∧ BSt B b (addS s r).1 (addS s r).2.1 (addS s r).2.2 w' ∧ Stay b B w w' := by
  unfold addS
  by_cases h0 : 0 < ofW r
  · rw [if_pos h0]
    exact wadd_base B b s.1 s.2.1 s.2.2 r hDl h0 w h
  · rw [if_neg h0]
    refine (wadd_mark B b s.1 s.2.1 s.2.2 r hNl h0 w h).mono ?_
    rintro e w' ⟨h1, h2, h3⟩
    refine ⟨h1, ?_, h3⟩
    split
    · rename_i hc
      rw [if_pos hc, hc.1] at h2
      exact h2
    · rename_i hc
      rw [if_neg hc] at h2
      exact h2
end Go.Proofs.YtfalcmbjjlgoaaaGreatDoor
