/- Own texts, merged: S8, V5. -/
import Derived.Test.YtfalcmbjjlgoaaaGreatDoorMB39
import Derived.Test.YtfalcmbjjlgoaaaGreatDoorMB40
/- Walks: shaped, typed. -/
namespace Go.Proofs.YtfalcmbjjlgoaaaGreatDoor
open Go.RowKit Go.Shelf
attribute [local go_sem] run_store_float
set_option maxRecDepth 100000 in
set_option maxHeartbeats 4000000 in
theorem wshaped (A : Nat → Prop) (v : Value) (op s : Bs) (fn : Nat) (l : List Tree) (w : World) (hv : NodeV A w v (.mk op fn s l)) : Calls Tryz.prog 24 #[v] w fun e w' => e = .returned (.bool (decide (takesT op = some l.length))) ∧ Below w.heap.size w w' := by
  obtain ⟨x, cap, rfl, hcap, _⟩ := hv
  have HA := Lib.hid (fun W => warity op W)
  have HAL := Lib.hid (fun o => bel1 w o)
  obtain ⟨N, hN⟩ : ∃ N, N = l.length := ⟨_, rfl⟩
  rw [← hN] at hcap ⊢
  clear hN
  cases hk : takesT op with
  | none =>
    rw [hk] at HA
    have HR : Hid (decide ((none : Option Nat) = some N) = false) := Lib.hid (by simp)
    clear hk
    go_enter Tryz.func24, Tryz.ntmps24
    go_wp2_with (first | (go_at_call 41; refine (HA.out _).mono ?_; rintro e w1 ⟨rfl, rfl⟩))
    go_ret
    exact ⟨ret_bool HR.out.symm, HAL.out _⟩
  | some k =>
    rw [hk] at HA
    have HR : Hid (((k : Int) == (N : Int)) = decide ((some k : Option Nat) = some N)) := Lib.hid (by
      by_cases e : k = N
      · simp [e]
      · have h1 : ((k : Int) == (N : Int)) = false := by simpa using (show ¬ ((k : Int) = (N : Int)) by omega)
        rw [h1]
        simp [e])
    have HK : Hid (Calls Tryz.prog 41 #[.string (tx op)] (w.alloc (.cells #[.string (tx op), .float .f64 fn, .string (tx s), .slice x N cap] 25)) fun e w' => e = .returned (.tuple #[.int .i64 k, .bool true]) ∧ (w.alloc (.cells #[.string (tx op), .float .f64 fn, .string (tx s), .slice x N cap] 25)) = w') := Lib.hid (HA.out _)
    clear hk HA
    go_enter Tryz.func24, Tryz.ntmps24
    go_wp2_with (first | (go_at_call 41; refine (HK.out).mono ?_; rintro e w1 ⟨rfl, rfl⟩))
    go_ret
    exact ⟨ret_bool HR.out, HAL.out _⟩
theorem info_ty : ∃ i0, Tryz.prog.info? 38 = some i0 ∧ i0.zero = some (.int .i64 0) ∧ i0.size = 1 ∧ i0.bytes = 8 :=
  info_parts (show (Tryz.prog.info? 38).map (fun i => (i.zero, i.size, i.bytes)) = some (some (.int .i64 0), 1, 8) by kernel_rfl)
def tysV (l : List Nat) : List Value := l.map fun k => Value.int .i64 (k : Nat)
theorem tyV_row {n0 : Nat} {w : World} {v : Value} {l : List Nat} (h : w.ownsRow n0 38 1 v l.length (tysV l)) : TyV w v l := by
  have hc := fun g (hg : v.ownBlock = some g) => h.cells hg
  rcases h.2 with ⟨rfl, h3⟩ | ⟨g, cap, cur, rfl, _, _, hcap, _⟩
  · have : l = [] := List.length_eq_zero_iff.1 h3
    subst this
    exact ⟨none, 0, rfl, Nat.le_refl _, fun _ => rfl, fun a ha => by cases ha⟩
  · refine ⟨some ⟨g, 0, none⟩, cap, rfl, hcap, (fun e => by cases e), fun a ha i t hi => ?_⟩
    cases ha
    exact hc g rfl _ _ (by unfold tysV; rw [List.getElem?_map, hi]; rfl)
theorem bound_t {L : List Bnd} {s : Bs} {v : Vl} (h : boundV L s = some v) : v.t = 1 ∨ v.t = 2 ∨ v.t = 3 := by
  unfold boundV at h
  split at h
  · cases h
  · unfold plainV at h
    split at h
    · cases h; exact .inl rfl
    · split at h
      · cases h; exact .inr (.inl rfl)
      · split at h
        · cases h; exact .inr (.inr rfl)
        · cases h
/-- A tree's type, its parts' types being known. -/
theorem tyT_good (L : List Bnd) (op s : Bs) (fn : Nat) (c : List Tree) (h : ∀ i (hi : i < c.length), (tyT L c[i]).2 = 0) : tyT L (.mk op fn s c) =
    if takesT op ≠ some c.length then (0, 190) else if op = wnum then (1, 0) else if op = wtext then (2, 0)
    else if op = wname then (match boundV L s with | none => (0, 6) | some v => (v.t.toNat, 0))
    else if madeT op (c.map (fun t => (tyT L t).1)) = 0 then (0, 190) else (madeT op (c.map (fun t => (tyT L t).1)), 0) := by
  rw [tyT, tyL_good L c h]
  rfl
theorem tyT_bad (L : List Bnd) (op s : Bs) (fn : Nat) (c : List Tree) (j : Nat) (hj : j < c.length) (h : ∀ i (hi : i < c.length), i < j → (tyT L c[i]).2 = 0) (hb : (tyT L c[j]).2 ≠ 0) : tyT L (.mk op fn s c) = (0, (tyT L c[j]).2) := by
  rw [tyT, tyL_bad L c j hj h hb, if_pos hb]
set_option maxRecDepth 100000 in
set_option maxHeartbeats 8000000 in
theorem wtyped (L : List Bnd) (hLL : L.length ≤ 1000000) (vb : Value) : ∀ (n : Nat) (t : Tree), szT t ≤ n → ∀ (A : Nat → Prop) (v : Value) (w : World), szT t ≤ 1000000 → NodeV A w v t → BndV w vb L →
    Calls Tryz.prog 28 #[v, vb] w fun e w' => e = .returned (.tuple #[.int .i64 ((tyT L t).1 : Nat), .int .i64 ((tyT L t).2 : Nat)]) ∧ Below w.heap.size w w' := by
  intro n
  induction n with
  | zero => intro t h; cases t; simp only [szT] at h; omega
  | succ n ih =>
    intro t hn A v w hd hv hbv
    obtain ⟨op, fn, s, l⟩ := t
    have HV := Lib.hid hv
    have HBV := Lib.hid hbv
    obtain ⟨bx, bn, bc, rfl⟩ := hbv.agg
    obtain ⟨x, cap, rfl, hcap, hx, hch⟩ := hv
    have HIH := Lib.hid ih
    have HN := Lib.hid (show szL l ≤ n by simp only [szT] at hn; omega)
    have HD := Lib.hid (show 1 + szL l ≤ 1000000 by simpa only [szT] using hd)
    have HC := Lib.hid hch
    have hll : l.length ≤ 1000000 := by have := len_szL l; have := HD.out; omega
    have HX := Lib.hid hx
    obtain ⟨R, hR⟩ : ∃ R, R = tyT L (.mk op fn s l) := ⟨_, rfl⟩
    rw [← hR]
    have HR := Lib.hid hR
    have HLL := Lib.hid hLL
    obtain ⟨N, hN⟩ : ∃ N, N = l.length := ⟨_, rfl⟩
    rw [← hN] at hll hcap HV ⊢
    have HNL := Lib.hid hN
    obtain ⟨i0, hi, hi0, hi1, hi2⟩ := info_ty
    have HII := Lib.hid (And.intro hi (And.intro hi0 (And.intro hi1 hi2)))
    have HB0 := Lib.hid (((Below.refl w.heap.size w).alloc (Nat.le_refl _) (.cells #[.string (tx op), .float .f64 fn, .string (tx s), .slice x N cap] 25)).alloc (by simp) (.cells #[.int .i64 0, .int .i64 0] 38))
    have HA0 : Hid (NB ((w.alloc (.cells #[.string (tx op), .float .f64 fn, .string (tx s), .slice x N cap] 25)).alloc (.cells #[.int .i64 0, .int .i64 0] 38)) w.heap.size (.agg #[.string (tx op), .float .f64 fn, .string (tx s), .slice x N cap])) := Lib.hid
      ((show NB (w.alloc (.cells #[.string (tx op), .float .f64 fn, .string (tx s), .slice x N cap] 25)) w.heap.size _ from ⟨_, _, _, _, rfl, heap_alloc_new _ _⟩).below ((Below.refl _ _).alloc (Nat.le_refl _) _))
    have HO0 : Hid (((w.alloc (.cells #[.string (tx op), .float .f64 fn, .string (tx s), .slice x N cap] 25)).alloc (.cells #[.int .i64 0, .int .i64 0] 38)).ownsRow (w.heap.size + 1) 38 1 (.slice (some ⟨w.heap.size + 1, 0, none⟩) 0 2) 0 []) := Lib.hid (by
      have := World.ownsRow_made (w.alloc (.cells #[.string (tx op), .float .f64 fn, .string (tx s), .slice x N cap] 25)) (base := w.heap.size + 1) (e := 38) (size := 1) #[.int .i64 0, .int .i64 0] 2 (by simp) (by decide) rfl
      simpa using this)
    clear hN hn hd hch hx ih hR hbv hi hi0 hi1 hi2 hLL
    go_enter Tryz.func28, Tryz.ntmps28
    have hmk : ∀ w : World, (Instr.makeSlice 76 (.int .i64 0) (.int .i64 2)).run Tryz.prog w = .ok (.slice (some ⟨w.heap.size, 0, none⟩) 0 2) (w.alloc (.cells #[.int .i64 0, .int .i64 0] 38)) := fun _ => by kernel_rfl
    go_wp2_with fail
    clear hmk
    generalize ((w.alloc (.cells #[.string (tx op), .float .f64 fn, .string (tx s), .slice x N cap] 25)).alloc (.cells #[.int .i64 0, .int .i64 0] 38)) = W0 at HB0 HA0 HO0 ⊢
    go_loopg [6, 18] N (fun gh kv i wr => ∃ j : Nat, j + gh = N ∧ i = .int .i64 j ∧ Hid (∀ i (hi : i < l.length), i < j → (tyT L l[i]).2 = 0) ∧ Hid (wr.ownsRow (w.heap.size + 1) 38 1 kv j (tysV ((l.take j).map (fun t => (tyT L t).1)))) ∧ Hid (NB wr w.heap.size (.agg #[.string (tx op), .float .f64 fn, .string (tx s), .slice x N cap])) ∧ Hid (Below w.heap.size w wr))
    case atStart => exact ⟨0, by omega, rfl, Lib.hid (fun i _ h => by omega), HO0, HA0, HB0⟩
    case round =>
      obtain ⟨j, hj, rfl, HG, HO, HNB, HB⟩ := hrel
      obtain ⟨p0, p1, p2, p3, _⟩ := HNB.out.cells
      have hbl := HNB.out.lt
      obtain ⟨kx, kc, rfl⟩ := ownsRow_is HO.out
      clear HA0 HO0 HB0
      by_cases q : j < N
      · have hjl : j < l.length := by have := HNL.out; omega
        obtain ⟨a, rfl⟩ : ∃ a, x = some a := by
          cases x with
          | none => have := HX.out rfl; rw [this] at hjl; cases hjl
          | some a => exact ⟨a, rfl⟩
        obtain ⟨v0, v1, v2, v3, e0, e1, e2, e3, hnode⟩ := NodesV.get l 0 (HC.out a rfl).2 j hjl
        rw [Nat.zero_add] at e0 e1 e2 e3
        have hab : a.block < w.heap.size := ((HC.out a rfl).1 (nil_not hjl)).2
        have hs : ∀ k, wr.heap[(a.add k).block]? = w.heap[(a.add k).block]? := fun k => by rw [add_block]; exact HB.out.block _ hab
        have d0 := cell_same (hs _) e0
        have d1 := cell_same (hs _) e1
        have d2 := cell_same (hs _) e2
        have d3 := cell_same (hs _) e3
        rw [add_lit _ _ _ (by decide)] at d1 d2 d3
        clear e0 e1 e2 e3 hs
        obtain ⟨o1, n1, s1, x1, l1, c1, hag⟩ := hnode.agg
        cases hag
        have HNODE := Lib.hid hnode
        clear hnode
        obtain ⟨K1, hK1⟩ : ∃ K, K = (tyT L l[j]).1 := ⟨_, rfl⟩
        obtain ⟨E1, hE1⟩ : ∃ E, E = (tyT L l[j]).2 := ⟨_, rfl⟩
        have HCH : Hid (∀ W, Below w.heap.size w W → Calls Tryz.prog 28 #[.agg #[.string o1, .float .f64 n1, .string s1, .slice x1 l1 c1], .slice bx bn bc] W fun e w' => e = .returned (.tuple #[.int .i64 (K1 : Nat), .int .i64 (E1 : Nat)]) ∧ Below W.heap.size W w') := Lib.hid (fun W hW => by
          have h1 := szL_get l j hjl
          have h2 := HN.out
          have h3 := HD.out
          rw [hK1, hE1]
          exact HIH.out l[j] (by omega) A _ W (by omega) (HNODE.out.below hW) (HBV.out.below hW))
        have HB1 := Lib.hid (HB.out.alloc HB.out.size (.cells #[.string o1, .float .f64 n1, .string s1, .slice x1 l1 c1] 25))
        have HNB1 := Lib.hid (HNB.out.below ((Below.refl _ _).alloc (Nat.le_refl _) (.cells #[.string o1, .float .f64 n1, .string s1, .slice x1 l1 c1] 25)))
        have HO1 := Lib.hid (HO.out.alloc (.cells #[.string o1, .float .f64 n1, .string s1, .slice x1 l1 c1] 25))
        by_cases qe : E1 = 0
        · have HG2 : Hid (∀ i (hi : i < l.length), i < j + 1 → (tyT L l[i]).2 = 0) := Lib.hid (fun i hi hij => by
            by_cases e : i = j
            · subst e; rw [← hE1]; exact qe
            · exact HG.out i hi (by omega))
          have HTS : Hid (tysV ((l.take (j + 1)).map (fun t => (tyT L t).1)) = tysV ((l.take j).map (fun t => (tyT L t).1)) ++ [.int .i64 (K1 : Nat)]) := Lib.hid (by rw [List.take_succ_eq_append_getElem hjl, List.map_append, hK1]; unfold tysV; rw [List.map_append]; rfl)
          subst qe
          have HCH0 : Hid (Calls Tryz.prog 28 #[.agg #[.string o1, .float .f64 n1, .string s1, .slice x1 l1 c1], .slice bx bn bc] (wr.alloc (.cells #[.string o1, .float .f64 n1, .string s1, .slice x1 l1 c1] 25)) fun e w' => e = .returned (.tuple #[.int .i64 (K1 : Nat), .int .i64 0]) ∧ Below (wr.alloc (.cells #[.string o1, .float .f64 n1, .string s1, .slice x1 l1 c1] 25)).heap.size (wr.alloc (.cells #[.string o1, .float .f64 n1, .string s1, .slice x1 l1 c1] 25)) w') := Lib.hid (HCH.out _ HB1.out)
          clear hK1 hE1 HG HCH HNB HB HO HNODE
          go_wp2_with (first | (go_at_call 28; fail))
          refine (HCH0.out).mono ?_
          rintro e w2 ⟨rfl, hb2⟩
          have HB2 := Lib.hid (HB1.out.trans (below_le hb2 HB1.out.size))
          have HNB2 := Lib.hid (HNB1.out.below hb2)
          have HO2 := Lib.hid (row_kept HO1.out (fun k hk => hb2.block k (HO1.out.lt k hk).2))
          have hsz2 := HNB2.out.lt
          clear hb2 HB1 HNB1 HO1 HCH0 d0 d1 d2 d3 p0 p1 p2 p3 hbl
          go_wp2_with (first | (at_builtin; go_loud (refine wpList_append_own _ rfl _ _ 76 rfl (w.heap.size + 1) 38 i0 (.int .i64 0) 1 8 Tryz.underlying76 HII.out.1 HII.out.2.1 HII.out.2.2.1 HII.out.2.2.2 rfl (by decide) _ _ _ rfl (HO2.out.alloc _) ⟨w2.heap.size, 0, none⟩ 1 1 [.int .i64 (K1 : Nat)] rfl rfl (cell_one_new _ _ _) (by simp [Value.oneCell']) (by unfold maxLen; omega) (by omega) (by simp; omega) ?_)))
          intro v' w3 ho1 hg1 _
          have HO3 : Hid (w3.ownsRow (w.heap.size + 1) 38 1 v' (j + 1) (tysV ((l.take (j + 1)).map (fun t => (tyT L t).1)))) := Lib.hid (by rw [HTS.out, List.map_take]; exact ho1)
          have HNB3 := Lib.hid ((HNB2.out.below ((Below.refl w2.heap.size w2).alloc (Nat.le_refl _) (.cells #[.int .i64 (K1 : Nat)] 38))).kept (hg1.block w.heap.size (by simp; omega) (fun e => by have := HO2.out.lt w.heap.size e.symm; omega)))
          have HB3 : Hid (Below w.heap.size w w3) := Lib.hid ((HB2.out.alloc HB2.out.size _).grown hg1 (by have := HB2.out.size; simp; omega) (fun k e => by have := HO2.out.lt k e; omega))
          clear ho1 hg1 HB2 HNB2 HO2
          go_wp2
          go_roundg (gk - 1)
          case measure => omega
          case rel => exact ⟨j + 1, by omega, by go_num, HG2, HO3, HNB3, HB3⟩
        · have HRE : Hid (R = (0, E1)) := Lib.hid (by rw [HR.out, tyT_bad L op s fn l j hjl HG.out (by rw [← hE1]; exact qe), hE1])
          have q1 : ((E1 : Int) == 0) = false := by simpa using (show ¬ ((E1 : Int) = 0) by omega)
          clear hK1 hE1 HG HNB HO HNODE HO1 HNB1
          go_wp2_with (first | (go_at_call 28; fail))
          refine (HCH.out _ HB1.out).mono ?_
          rintro e w2 ⟨rfl, hb2⟩
          have HB2 := Lib.hid (HB1.out.trans (below_le hb2 HB1.out.size))
          clear hb2 d0 d1 d2 d3
          go_wp2
          go_ret2
          exact ⟨by rw [HRE.out]; rfl, HB2.out⟩
      · have e : j = l.length := by have := HNL.out; omega
        have HG2 : Hid (∀ i (hi : i < l.length), (tyT L l[i]).2 = 0) := Lib.hid (fun i hi => HG.out i hi (by omega))
        have HRG := Lib.hid (HR.out.trans (tyT_good L op s fn l HG2.out))
        have HTY : Hid (TyV wr (.slice kx j kc) (l.map (fun t => (tyT L t).1))) := Lib.hid (by
          have h := HO.out
          rw [show l.take j = l by rw [e, List.take_length]] at h
          exact tyV_row (by rw [List.length_map, ← e]; exact h))
        have HSH := Lib.hid (wshaped A _ op s fn l wr (HV.out.below HB.out))
        rw [← HNL.out] at HSH HRG
        have HBN := Lib.hid (fun W h => wbound s (.slice bx bn bc) L HLL.out W h)
        have HMD : Hid (takesT op = some N → ∀ W, Below wr.heap.size wr W → Calls Tryz.prog 46 #[.string (tx op), .slice kx j kc] W fun e w' => e = .returned (.int .i64 (madeT op (l.map (fun t => (tyT L t).1)) : Nat)) ∧ Below W.heap.size W w') := Lib.hid (fun ht W hW => by
          refine wmade op _ _ (by rw [List.length_map]; omega) (fun h => ?_) W ?_
          · rw [List.length_map, ← HNL.out]
            rcases h with h | h
            · rw [h, show takesT weq = some 2 from by decide] at ht; cases ht; rfl
            · rw [h, show takesT wne = some 2 from by decide] at ht; cases ht; rfl
          · obtain ⟨y, yc, hy, h1, h2, h3⟩ := HTY.out
            refine ⟨y, yc, hy, h1, h2, fun a ha i t hi => ?_⟩
            have h4 := h3 a ha i t hi
            exact cell_same (hW.block _ (cell_lt h4)) h4)
        clear HO HG HTY HC HIH HG2 e
        by_cases ht : takesT op = some N
        · have HSH1 : Hid (Calls Tryz.prog 24 #[.agg #[.string (tx op), .float .f64 fn, .string (tx s), .slice x N cap]] wr fun e w' => e = .returned (.bool true) ∧ Below wr.heap.size wr w') := Lib.hid (by have h := HSH.out; rw [decide_eq_true ht] at h; exact h)
          have HMD1 := Lib.hid (HMD.out ht)
          rw [if_neg (fun h => h ht)] at HRG
          clear HMD HSH ht
          go_wp2_with (first | (go_at_call 24; fail))
          refine (HSH1.out).mono ?_
          rintro e w2 ⟨rfl, hb2⟩
          have HW2 := Lib.hid hb2
          have HB2 := Lib.hid (HB.out.trans (below_le hb2 HB.out.size))
          obtain ⟨p0, p1, p2, p3, _⟩ := (HNB.out.below hb2).cells
          have hbl2 := (HNB.out.below hb2).lt
          clear hb2 HSH1 HNB HB
          by_cases o0 : op = wnum
          · have b0 : ((tx op).toList == [110, 117, 109]) = true := by rw [o0]; exact tx_same _
            rw [if_pos o0] at HRG
            clear o0
            generalize tx op = T at *
            go_wp2
            go_ret2
            exact ⟨by rw [HRG.out]; rfl, HB2.out⟩
          · have b0 : ((tx op).toList == [110, 117, 109]) = false := tx_ne o0
            rw [if_neg o0] at HRG
            by_cases o1 : op = wtext
            · have b1 : ((tx op).toList == [116, 101, 120, 116]) = true := by rw [o1]; exact tx_same _
              rw [if_pos o1] at HRG
              clear o0 o1
              generalize tx op = T at *
              go_wp2
              go_ret2
              exact ⟨by rw [HRG.out]; rfl, HB2.out⟩
            · have b1 : ((tx op).toList == [116, 101, 120, 116]) = false := tx_ne o1
              rw [if_neg o1] at HRG
              by_cases o2 : op = wname
              · have b2 : ((tx op).toList == [110, 97, 109, 101]) = true := by rw [o2]; exact tx_same _
                rw [if_pos o2] at HRG
                clear o0 o1 o2 HMD1
                generalize tx op = T at *
                cases hbo : boundV L s with
                | none =>
                  rw [hbo] at HRG HBN
                  clear hbo
                  go_wp2_with (first | (go_at_call 45; fail))
                  refine (HBN.out _ (HBV.out.below HB2.out)).mono ?_
                  rintro e w3 ⟨rfl, hb3⟩
                  have HB3 := Lib.hid (fun c => (HB2.out.trans (below_le hb3 HB2.out.size)).alloc (by have := HB2.out.size; have := hb3.size; omega) c)
                  clear hb3
                  unfold bvV
                  go_wp2
                  go_ret2
                  exact ⟨by rw [HRG.out]; rfl, HB3.out _⟩
                | some vl =>
                  have HT3 := Lib.hid (bound_t hbo)
                  rw [hbo] at HRG HBN
                  clear hbo
                  obtain ⟨vt, vn, vs, vb'⟩ := vl
                  go_wp2_with (first | (go_at_call 45; fail))
                  refine (HBN.out _ (HBV.out.below HB2.out)).mono ?_
                  rintro e w3 ⟨rfl, hb3⟩
                  have HB3 := Lib.hid (fun c => (HB2.out.trans (below_le hb3 HB2.out.size)).alloc (by have := HB2.out.size; have := hb3.size; omega) c)
                  clear hb3
                  unfold bvV
                  go_wp2
                  go_ret2
                  refine ⟨?_, HB3.out _⟩
                  rw [HRG.out]
                  have h3 : vt = 1 ∨ vt = 2 ∨ vt = 3 := HT3.out
                  rcases h3 with rfl | rfl | rfl <;> rfl
              · have b2 : ((tx op).toList == [110, 97, 109, 101]) = false := tx_ne o2
                rw [if_neg o2] at HRG
                obtain ⟨M, hM⟩ : ∃ M, M = madeT op (l.map (fun t => (tyT L t).1)) := ⟨_, rfl⟩
                rw [← hM] at HRG HMD1
                clear o0 o1 o2 hM
                generalize tx op = T at *
                by_cases m0 : M = 0
                · subst m0
                  rw [if_pos rfl] at HRG
                  have HMD2 : Hid (Calls Tryz.prog 46 #[.string T, .slice kx j kc] w2 fun e w' => e = .returned (.int .i64 0) ∧ Below w2.heap.size w2 w') := Lib.hid (HMD1.out _ HW2.out)
                  clear HMD1
                  go_wp2_with (first | (go_at_call 46; fail))
                  refine (HMD2.out).mono ?_
                  rintro e w3 ⟨rfl, hb3⟩
                  have HB3 := Lib.hid (HB2.out.trans (below_le hb3 HB2.out.size))
                  clear hb3
                  go_wp2
                  go_ret2
                  exact ⟨by rw [HRG.out]; rfl, HB3.out⟩
                · rw [if_neg m0] at HRG
                  have m1 : ((M : Int) == 0) = false := by simpa using (show ¬ ((M : Int) = 0) by omega)
                  go_wp2_with (first | (go_at_call 46; fail))
                  refine (HMD1.out _ HW2.out).mono ?_
                  rintro e w3 ⟨rfl, hb3⟩
                  have HB3 := Lib.hid (HB2.out.trans (below_le hb3 HB2.out.size))
                  clear hb3 HMD1
                  go_wp2
                  go_ret2
                  exact ⟨by rw [HRG.out]; rfl, HB3.out⟩
        · have HSH1 : Hid (Calls Tryz.prog 24 #[.agg #[.string (tx op), .float .f64 fn, .string (tx s), .slice x N cap]] wr fun e w' => e = .returned (.bool false) ∧ Below wr.heap.size wr w') := Lib.hid (by have h := HSH.out; rw [decide_eq_false ht] at h; exact h)
          rw [if_pos ht] at HRG
          clear HMD HSH ht
          go_wp2_with (first | (go_at_call 24; fail))
          refine (HSH1.out).mono ?_
          rintro e w2 ⟨rfl, hb2⟩
          have HB2 := Lib.hid (HB.out.trans (below_le hb2 HB.out.size))
          clear hb2
          go_wp2
          go_ret2
          exact ⟨by rw [HRG.out]; rfl, HB2.out⟩
end Go.Proofs.YtfalcmbjjlgoaaaGreatDoor
/- Walks: Print and part: the program's. -/
namespace Go.Proofs.YtfalcmbjjlgoaaaGreatDoor
open Go.RowKit Go.Shelf Ieee Go.Lib
attribute [local go_sem] run_store_float
theorem tx_app (a b : Bs) : tx a ++ tx b = tx (a ++ b) := by unfold tx; apply ByteArray.ext; apply Array.ext'; simp
theorem tx_is {a b : Bs} (h : a = b) : ((tx a).toList == b) = true := by rw [tx_toList]; simpa using h
set_option maxHeartbeats 2000000 in
theorem walone (op : Bs) (w : World) : Calls Tryz.prog 44 #[.string (tx op)] w fun e w' => e = .returned (.bool (aloneB op)) ∧ w = w' := by
  by_cases q0 : op = wnum
  · have b0 : ((tx op).toList == [110, 117, 109]) = true := tx_is q0
    have HA : Hid (aloneB op = true) := Lib.hid (by unfold aloneB; simp [q0])
    clear q0
    go_enter Tryz.func44, Tryz.ntmps44
    go_wp2
    go_ret
    exact ⟨by rw [HA.out]; rfl, rfl⟩
  · have b0 : ((tx op).toList == [110, 117, 109]) = false := tx_ne q0
    by_cases q1 : op = wtext
    · have b1 : ((tx op).toList == [116, 101, 120, 116]) = true := tx_is q1
      have HA : Hid (aloneB op = true) := Lib.hid (by unfold aloneB; simp [q1])
      clear q1
      go_enter Tryz.func44, Tryz.ntmps44
      go_wp2
      go_ret
      exact ⟨by rw [HA.out]; rfl, rfl⟩
    · have b1 : ((tx op).toList == [116, 101, 120, 116]) = false := tx_ne q1
      by_cases q2 : op = wname
      · have b2 : ((tx op).toList == [110, 97, 109, 101]) = true := tx_is q2
        have HA : Hid (aloneB op = true) := Lib.hid (by unfold aloneB; simp [q2])
        clear q2
        go_enter Tryz.func44, Tryz.ntmps44
        go_wp2
        go_ret
        exact ⟨by rw [HA.out]; rfl, rfl⟩
      · have b2 : ((tx op).toList == [110, 97, 109, 101]) = false := tx_ne q2
        by_cases q3 : op = wlen
        · have b3 : ((tx op).toList == [108, 101, 110]) = true := tx_is q3
          have HA : Hid (aloneB op = true) := Lib.hid (by unfold aloneB; simp [q3])
          clear q3
          go_enter Tryz.func44, Tryz.ntmps44
          go_wp2
          go_ret
          exact ⟨by rw [HA.out]; rfl, rfl⟩
        · have b3 : ((tx op).toList == [108, 101, 110]) = false := tx_ne q3
          by_cases q4 : op = wabs
          · have b4 : ((tx op).toList == [97, 98, 115]) = true := tx_is q4
            have HA : Hid (aloneB op = true) := Lib.hid (by unfold aloneB; simp [q4])
            clear q4
            go_enter Tryz.func44, Tryz.ntmps44
            go_wp2
            go_ret
            exact ⟨by rw [HA.out]; rfl, rfl⟩
          · have b4 : ((tx op).toList == [97, 98, 115]) = false := tx_ne q4
            by_cases q5 : op = whas
            · have b5 : ((tx op).toList == [104, 97, 115]) = true := tx_is q5
              have HA : Hid (aloneB op = true) := Lib.hid (by unfold aloneB; simp [q5])
              clear q5
              go_enter Tryz.func44, Tryz.ntmps44
              go_wp2
              go_ret
              exact ⟨by rw [HA.out]; rfl, rfl⟩
            · have b5 : ((tx op).toList == [104, 97, 115]) = false := tx_ne q5
              have HA : Hid (aloneB op = false) := Lib.hid (by unfold aloneB; simp [q0, q1, q2, q3, q4, q5])
              clear q0  q1  q2  q3  q4  q5
              go_enter Tryz.func44, Tryz.ntmps44
              go_wp2
              go_ret
              exact ⟨by rw [HA.out]; rfl, rfl⟩
/-- What a part of a text is, its own text being known. -/
def PrC (F : FuncId) (w : World) (v : Value) (r : Bs) : Prop := ∀ W, Below w.heap.size w W → Calls Tryz.prog F #[v] W fun e w' => e = .returned (.string (tx r)) ∧ Below W.heap.size W w'
theorem PrC.below {F : FuncId} {w w' : World} {v : Value} {r : Bs} (h : PrC F w v r) (hb : Below w.heap.size w w') : PrC F w' v r := fun W hW => h W (hb.trans (below_le hW hb.size))
set_option maxRecDepth 100000 in
set_option maxHeartbeats 4000000 in
theorem wpart (op : Bs) (fn : Nat) (s : ByteArray) (x : Option Addr) (l c : Nat) (r : Bs) (hr : r.length ≤ 1000000) (w : World) (H : PrC 9 w (.agg #[.string (tx op), .float .f64 fn, .string s, .slice x l c]) r) :
    Calls Tryz.prog 26 #[.agg #[.string (tx op), .float .f64 fn, .string s, .slice x l c]] w fun e w' => e = .returned (.string (tx (parS op r))) ∧ Below w.heap.size w w' := by
  have HA := Lib.hid (fun W => walone op W)
  have HB0 := Lib.hid (bel1 w (.cells #[.string (tx op), .float .f64 fn, .string s, .slice x l c] 25))
  have HNB : Hid (NB (w.alloc (.cells #[.string (tx op), .float .f64 fn, .string s, .slice x l c] 25)) w.heap.size (.agg #[.string (tx op), .float .f64 fn, .string s, .slice x l c])) := Lib.hid ⟨_, _, _, _, rfl, heap_alloc_new _ _⟩
  have HH := Lib.hid H
  clear H
  go_enter Tryz.func26, Tryz.ntmps26
  go_upto_region 1 with (fail)
  generalize w.alloc (.cells #[.string (tx op), .float .f64 fn, .string s, .slice x l c] 25) = W0 at HB0 HNB ⊢
  obtain ⟨p0, p1, p2, p3, _⟩ := HNB.out.cells
  have hlt := HNB.out.lt
  have HC := Lib.hid (HH.out W0 HB0.out)
  cases hal : aloneB op with
  | true =>
    have HR : Hid (parS op r = r) := Lib.hid (by unfold parS; rw [if_pos hal])
    rw [hal] at HA
    clear hal
    go_wp2_with (first | (go_at_call 44; refine (HA.out _).mono ?_; rintro e w1 ⟨rfl, rfl⟩) | (go_at_call 9; fail))
    go_at_call 9
    refine HC.out.mono ?_
    rintro e w2 ⟨rfl, hb2⟩
    have HB2 := Lib.hid (HB0.out.trans (below_le hb2 HB0.out.size))
    clear hb2
    go_wp2
    go_ret
    exact ⟨by rw [HR.out]; rfl, HB2.out⟩
  | false =>
    have HR : Hid (({ data := #[40] } : ByteArray) ++ tx r ++ ({ data := #[41] } : ByteArray) = tx (parS op r)) := Lib.hid (by
      unfold parS; rw [if_neg (by rw [hal]; decide)]
      show tx [40] ++ tx r ++ tx [41] = _
      rw [tx_app, tx_app])
    rw [hal] at HA
    clear hal
    have z1 : (tx r).size = r.length := tx_size' r
    have z2 : (({ data := #[40] } : ByteArray) ++ tx r).size = r.length + 1 := by
      show (tx [40] ++ tx r).size = _
      rw [tx_app, tx_size']; simp
    go_wp2_with (first | (go_at_call 44; refine (HA.out _).mono ?_; rintro e w1 ⟨rfl, rfl⟩) | (go_at_call 9; fail))
    go_at_call 9
    refine HC.out.mono ?_
    rintro e w2 ⟨rfl, hb2⟩
    have HB2 := Lib.hid (HB0.out.trans (below_le hb2 HB0.out.size))
    clear hb2
    go_wp2
    go_ret
    exact ⟨ret_str HR.out, HB2.out⟩
end Go.Proofs.YtfalcmbjjlgoaaaGreatDoor
