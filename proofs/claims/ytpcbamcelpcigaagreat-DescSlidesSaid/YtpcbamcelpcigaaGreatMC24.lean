/- Own texts, merged. -/
import Derived.WalkKit
import Derived.Test.YtpcbamcelpcigaaGreatMC09
import Derived.Test.YtpcbamcelpcigaaGreatMC11
import Derived.Test.YtpcbamcelpcigaaGreatMC13
import Derived.Test.YtpcbamcelpcigaaGreatMC21
import Derived.Test.YtpcbamcelpcigaaGreatMC23
import Derived.Test.YtpcbamcelpcigaaGreatMC00
set_option maxRecDepth 100000
set_option maxHeartbeats 32000000
open Go.Lib (hid)
namespace Go.Proofs.YtpcbamcelpcigaaGreat
open Go.RowKit Go.Shelf
attribute [local go_sem] run_store_float
theorem wshaped (A : Nat → Prop) (v : Value) (op s : Bs) (fn : Nat) (l : List Tree) (w : World) (hv : NodeV A w v (.mk op fn s l)) : Calls Tryz.prog 97 #[v] w fun e w' => e = .returned (.bool (decide (takesT op = some l.length))) ∧ Below w.heap.size w w' := by
  obtain ⟨x, cap, rfl, hcap, _⟩ := hv
  have HA := hid (fun W => warity op W)
  have HAL := hid (fun o => bel1 w o)
  obtain ⟨N, hN⟩ : ∃ N, N = l.length := ⟨_, rfl⟩
  rw [← hN] at hcap ⊢
  clear hN
  cases hk : takesT op with
  | none =>
    rw [hk] at HA
    have HR : Hid (decide ((none : Option Nat) = some N) = false) := hid (by simp)
    clear hk
    go_enter Tryz.func97, Tryz.ntmps97
    go_wp2_with (first | (go_at_call 134; refine (HA.out _).mono ?_; rintro e w1 ⟨rfl, rfl⟩))
    go_ret
    exact ⟨ret_bool HR.out.symm, HAL.out _⟩
  | some k =>
    rw [hk] at HA
    have HR : Hid (((k : Int) == (N : Int)) = decide ((some k : Option Nat) = some N)) := hid (by
      by_cases e : k = N
      · simp [e]
      · have h1 : ((k : Int) == (N : Int)) = false := by simpa using (show ¬ ((k : Int) = (N : Int)) by omega)
        rw [h1]
        simp [e])
    have HK : Hid (Calls Tryz.prog 134 #[.string (tx op)] (w.alloc (.cells #[.string (tx op), .float .f64 fn, .string (tx s), .slice x N cap] 87)) fun e w' => e = .returned (.tuple #[.int .i64 k, .bool true]) ∧ (w.alloc (.cells #[.string (tx op), .float .f64 fn, .string (tx s), .slice x N cap] 87)) = w') := hid (HA.out _)
    clear hk HA
    go_enter Tryz.func97, Tryz.ntmps97
    go_wp2_with (first | (go_at_call 134; refine (HK.out).mono ?_; rintro e w1 ⟨rfl, rfl⟩))
    go_ret
    exact ⟨ret_bool HR.out, HAL.out _⟩
theorem info_ty:∃ i0,Tryz.prog.info? 48 = some i0∧i0.zero = some (.int .i64 0)∧i0.size = 1∧i0.bytes = 8:=
 info_parts (show (Tryz.prog.info? 48).map (fun i=>(i.zero,i.size,i.bytes)) = some (some (.int .i64 0),1,8) by kernel_rfl)
def tysV (l:List Nat):List Value:=l.map fun k=>Value.int .i64 (k:Nat)
theorem tyV_row {n0:Nat} {w:World} {v:Value} {l:List Nat} (h:w.ownsRow n0 48 1 v l.length (tysV l)):TyV w v l:=by
 have hc:=fun g (hg:v.ownBlock = some g)=>h.cells hg
 rcases h.2 with ⟨rfl,h3⟩ | ⟨g,cap,cur,rfl,_,_,hcap,_⟩
 ·have:l = []:=List.length_eq_zero_iff.1 h3
  subst this
  exact ⟨none,0,rfl,Nat.le_refl _,fun _=>rfl,fun a ha=>by cases ha⟩
 ·refine ⟨some ⟨g,0,none⟩,cap,rfl,hcap,(fun e=>by cases e),fun a ha i t hi=>?_⟩
  cases ha
  exact hc g rfl _ _ (by unfold tysV;rw [List.getElem?_map,hi];rfl)
theorem bound_t {L:List Bnd} {s:Bs} {v:Vl} (h:boundV L s = some v):v.t = 1∨v.t = 2∨v.t = 3:=by
 unfold boundV at h
 split at h
 ·cases h
 ·unfold plainV at h
  split at h
  ·cases h;exact .inl rfl
  ·split at h
   ·cases h;exact .inr (.inl rfl)
   ·split at h
    ·cases h;exact .inr (.inr rfl)
    ·cases h
theorem tyT_good (L:List Bnd) (op s:Bs) (fn:Nat) (c:List Tree) (h:∀ i (hi:i < c.length),(tyT L c[i]).2 = 0):tyT L (.mk op fn s c) =
  if takesT op≠some c.length then (0,190) else if op = wnum then (1,0) else if op = wtext then (2,0)
  else if op = wname then (match boundV L s with | none=>(0,6) | some v=>(v.t.toNat,0))
  else if madeT op (c.map (fun t=>(tyT L t).1)) = 0 then (0,190) else (madeT op (c.map (fun t=>(tyT L t).1)),0):=by
 rw [tyT,tyL_good L c h]
 rfl
theorem tyT_bad (L:List Bnd) (op s:Bs) (fn:Nat) (c:List Tree) (j:Nat) (hj:j < c.length) (h:∀ i (hi:i < c.length),i < j→(tyT L c[i]).2 = 0) (hb:(tyT L c[j]).2≠0):tyT L (.mk op fn s c) = (0,(tyT L c[j]).2):=by
 rw [tyT,tyL_bad L c j hj h hb,if_pos hb]
theorem wtyped (L : List Bnd) (hLL : L.length ≤ 1000000) (vb : Value) : ∀ (n : Nat) (t : Tree), szT t ≤ n → ∀ (A : Nat → Prop) (v : Value) (w : World), szT t ≤ 1000000 → NodeV A w v t → BndV w vb L →
    Calls Tryz.prog 76 #[v, vb] w fun e w' => e = .returned (.tuple #[.int .i64 ((tyT L t).1 : Nat), .int .i64 ((tyT L t).2 : Nat)]) ∧ Below w.heap.size w w' := by
  intro n
  induction n with
  | zero => intro t h; cases t; simp only [szT] at h; omega
  | succ n ih =>
    intro t hn A v w hd hv hbv
    obtain ⟨op, fn, s, l⟩ := t
    have HV := hid hv
    have HBV := hid hbv
    obtain ⟨bx, bn, bc, rfl⟩ := hbv.agg
    obtain ⟨x, cap, rfl, hcap, hx, hch⟩ := hv
    have HIH := hid ih
    have HN := hid (show szL l ≤ n by simp only [szT] at hn; omega)
    have HD := hid (show 1 + szL l ≤ 1000000 by simpa only [szT] using hd)
    have HC := hid hch
    have hll : l.length ≤ 1000000 := by have := len_szL l; have := HD.out; omega
    have HX := hid hx
    obtain ⟨R, hR⟩ : ∃ R, R = tyT L (.mk op fn s l) := ⟨_, rfl⟩
    rw [← hR]
    have HR := hid hR
    have HLL := hid hLL
    obtain ⟨N, hN⟩ : ∃ N, N = l.length := ⟨_, rfl⟩
    rw [← hN] at hll hcap HV ⊢
    have HNL := hid hN
    obtain ⟨i0, hi, hi0, hi1, hi2⟩ := info_ty
    have HII := hid (And.intro hi (And.intro hi0 (And.intro hi1 hi2)))
    have HB0 := hid (((Below.refl w.heap.size w).alloc (Nat.le_refl _) (.cells #[.string (tx op), .float .f64 fn, .string (tx s), .slice x N cap] 87)).alloc (by simp) (.cells #[.int .i64 0, .int .i64 0] 48))
    have HA0 : Hid (NB ((w.alloc (.cells #[.string (tx op), .float .f64 fn, .string (tx s), .slice x N cap] 87)).alloc (.cells #[.int .i64 0, .int .i64 0] 48)) w.heap.size (.agg #[.string (tx op), .float .f64 fn, .string (tx s), .slice x N cap])) := hid
      ((show NB (w.alloc (.cells #[.string (tx op), .float .f64 fn, .string (tx s), .slice x N cap] 87)) w.heap.size _ from ⟨_, _, _, _, rfl, heap_alloc_new _ _⟩).below ((Below.refl _ _).alloc (Nat.le_refl _) _))
    have HO0 : Hid (((w.alloc (.cells #[.string (tx op), .float .f64 fn, .string (tx s), .slice x N cap] 87)).alloc (.cells #[.int .i64 0, .int .i64 0] 48)).ownsRow (w.heap.size + 1) 48 1 (.slice (some ⟨w.heap.size + 1, 0, none⟩) 0 2) 0 []) := hid (by
      have := World.ownsRow_made (w.alloc (.cells #[.string (tx op), .float .f64 fn, .string (tx s), .slice x N cap] 87)) (base := w.heap.size + 1) (e := 48) (size := 1) #[.int .i64 0, .int .i64 0] 2 (by simp) (by decide) rfl
      simpa using this)
    clear hN hn hd hch hx ih hR hbv hi hi0 hi1 hi2 hLL
    go_enter Tryz.func76, Tryz.ntmps76
    have hmk : ∀ w : World, (Instr.makeSlice 143 (.int .i64 0) (.int .i64 2)).run Tryz.prog w = .ok (.slice (some ⟨w.heap.size, 0, none⟩) 0 2) (w.alloc (.cells #[.int .i64 0, .int .i64 0] 48)) := fun _ => by kernel_rfl
    go_wp2_with fail
    clear hmk
    generalize ((w.alloc (.cells #[.string (tx op), .float .f64 fn, .string (tx s), .slice x N cap] 87)).alloc (.cells #[.int .i64 0, .int .i64 0] 48)) = W0 at HB0 HA0 HO0 ⊢
    go_loopg [6, 18] N (fun gh kv i wr => ∃ j : Nat, j + gh = N ∧ i = .int .i64 j ∧ Hid (∀ i (hi : i < l.length), i < j → (tyT L l[i]).2 = 0) ∧ Hid (wr.ownsRow (w.heap.size + 1) 48 1 kv j (tysV ((l.take j).map (fun t => (tyT L t).1)))) ∧ Hid (NB wr w.heap.size (.agg #[.string (tx op), .float .f64 fn, .string (tx s), .slice x N cap])) ∧ Hid (Below w.heap.size w wr))
    case atStart => exact ⟨0, by omega, rfl, hid (fun i _ h => by omega), HO0, HA0, HB0⟩
    case round =>
      obtain ⟨j, hj, rfl, HG, HO, HNB, HB⟩ := hrel
      obtain ⟨p0, p1, p2, p3, _⟩ := HNB.out.cells
      have hbl := HNB.out.lt
      obtain ⟨kx, kc, rfl⟩ := ownsRow_is HO.out
      clear HA0 HO0 HB0
      by_cases q : j < N
      · have hjl : j < l.length := by have := HNL.out; omega
        obtain ⟨a, rfl⟩ : ∃ a, x = some a := by
          cases x with
          | none => have := HX.out rfl; rw [this] at hjl; cases hjl
          | some a => exact ⟨a, rfl⟩
        obtain ⟨v0, v1, v2, v3, e0, e1, e2, e3, hnode⟩ := NodesV.get l 0 (HC.out a rfl).2 j hjl
        rw [Nat.zero_add] at e0 e1 e2 e3
        have hab : a.block < w.heap.size := ((HC.out a rfl).1 (nil_not hjl)).2
        have hs : ∀ k, wr.heap[(a.add k).block]? = w.heap[(a.add k).block]? := fun k => by rw [add_block]; exact HB.out.block _ hab
        have d0 := cell_same (hs _) e0
        have d1 := cell_same (hs _) e1
        have d2 := cell_same (hs _) e2
        have d3 := cell_same (hs _) e3
        rw [add_lit _ _ _ (by decide)] at d1 d2 d3
        clear e0 e1 e2 e3 hs
        obtain ⟨o1, n1, s1, x1, l1, c1, hag⟩ := hnode.agg
        cases hag
        have HNODE := hid hnode
        clear hnode
        obtain ⟨K1, hK1⟩ : ∃ K, K = (tyT L l[j]).1 := ⟨_, rfl⟩
        obtain ⟨E1, hE1⟩ : ∃ E, E = (tyT L l[j]).2 := ⟨_, rfl⟩
        have HCH : Hid (∀ W, Below w.heap.size w W → Calls Tryz.prog 76 #[.agg #[.string o1, .float .f64 n1, .string s1, .slice x1 l1 c1], .slice bx bn bc] W fun e w' => e = .returned (.tuple #[.int .i64 (K1 : Nat), .int .i64 (E1 : Nat)]) ∧ Below W.heap.size W w') := hid (fun W hW => by
          have h1 := szL_get l j hjl
          have h2 := HN.out
          have h3 := HD.out
          rw [hK1, hE1]
          exact HIH.out l[j] (by omega) A _ W (by omega) (HNODE.out.below hW) (HBV.out.below hW))
        have HB1 := hid (HB.out.alloc HB.out.size (.cells #[.string o1, .float .f64 n1, .string s1, .slice x1 l1 c1] 87))
        have HNB1 := hid (HNB.out.below ((Below.refl _ _).alloc (Nat.le_refl _) (.cells #[.string o1, .float .f64 n1, .string s1, .slice x1 l1 c1] 87)))
        have HO1 := hid (HO.out.alloc (.cells #[.string o1, .float .f64 n1, .string s1, .slice x1 l1 c1] 87))
        by_cases qe : E1 = 0
        · have HG2 : Hid (∀ i (hi : i < l.length), i < j + 1 → (tyT L l[i]).2 = 0) := hid (fun i hi hij => by
            by_cases e : i = j
            · subst e; rw [← hE1]; exact qe
            · exact HG.out i hi (by omega))
          have HTS : Hid (tysV ((l.take (j + 1)).map (fun t => (tyT L t).1)) = tysV ((l.take j).map (fun t => (tyT L t).1)) ++ [.int .i64 (K1 : Nat)]) := hid (by rw [List.take_succ_eq_append_getElem hjl, List.map_append, hK1]; unfold tysV; rw [List.map_append]; rfl)
          subst qe
          have HCH0 : Hid (Calls Tryz.prog 76 #[.agg #[.string o1, .float .f64 n1, .string s1, .slice x1 l1 c1], .slice bx bn bc] (wr.alloc (.cells #[.string o1, .float .f64 n1, .string s1, .slice x1 l1 c1] 87)) fun e w' => e = .returned (.tuple #[.int .i64 (K1 : Nat), .int .i64 0]) ∧ Below (wr.alloc (.cells #[.string o1, .float .f64 n1, .string s1, .slice x1 l1 c1] 87)).heap.size (wr.alloc (.cells #[.string o1, .float .f64 n1, .string s1, .slice x1 l1 c1] 87)) w') := hid (HCH.out _ HB1.out)
          clear hK1 hE1 HG HCH HNB HB HO HNODE
          go_wp2_with (first | (go_at_call 76; fail))
          refine (HCH0.out).mono ?_
          rintro e w2 ⟨rfl, hb2⟩
          have HB2 := hid (HB1.out.trans (below_le hb2 HB1.out.size))
          have HNB2 := hid (HNB1.out.below hb2)
          have HO2 := hid (row_kept HO1.out (fun k hk => hb2.block k (HO1.out.lt k hk).2))
          have hsz2 := HNB2.out.lt
          clear hb2 HB1 HNB1 HO1 HCH0 d0 d1 d2 d3 p0 p1 p2 p3 hbl
          go_wp2_with (first | (at_builtin; go_loud (refine wpList_append_own _ rfl _ _ 143 rfl (w.heap.size + 1) 48 i0 (.int .i64 0) 1 8 Tryz.underlying143 HII.out.1 HII.out.2.1 HII.out.2.2.1 HII.out.2.2.2 rfl (by decide) _ _ _ rfl (HO2.out.alloc _) ⟨w2.heap.size, 0, none⟩ 1 1 [.int .i64 (K1 : Nat)] rfl rfl (cell_one_new _ _ _) (by simp [Value.oneCell']) (by unfold maxLen; omega) (by omega) (by simp; omega) ?_)))
          intro v' w3 ho1 hg1 _
          have HO3 : Hid (w3.ownsRow (w.heap.size + 1) 48 1 v' (j + 1) (tysV ((l.take (j + 1)).map (fun t => (tyT L t).1)))) := hid (by rw [HTS.out, List.map_take]; exact ho1)
          have HNB3 := hid ((HNB2.out.below ((Below.refl w2.heap.size w2).alloc (Nat.le_refl _) (.cells #[.int .i64 (K1 : Nat)] 48))).kept (hg1.block w.heap.size (by simp; omega) (fun e => by have := HO2.out.lt w.heap.size e.symm; omega)))
          have HB3 : Hid (Below w.heap.size w w3) := hid ((HB2.out.alloc HB2.out.size _).grown hg1 (by have := HB2.out.size; simp; omega) (fun k e => by have := HO2.out.lt k e; omega))
          clear ho1 hg1 HB2 HNB2 HO2
          go_wp2
          go_roundg (gk - 1)
          case measure => omega
          case rel => exact ⟨j + 1, by omega, by go_num, HG2, HO3, HNB3, HB3⟩
        · have HRE : Hid (R = (0, E1)) := hid (by rw [HR.out, tyT_bad L op s fn l j hjl HG.out (by rw [← hE1]; exact qe), hE1])
          have q1 : ((E1 : Int) == 0) = false := by simpa using (show ¬ ((E1 : Int) = 0) by omega)
          clear hK1 hE1 HG HNB HO HNODE HO1 HNB1
          go_wp2_with (first | (go_at_call 76; fail))
          refine (HCH.out _ HB1.out).mono ?_
          rintro e w2 ⟨rfl, hb2⟩
          have HB2 := hid (HB1.out.trans (below_le hb2 HB1.out.size))
          clear hb2 d0 d1 d2 d3
          go_wp2
          go_ret2
          exact ⟨by rw [HRE.out]; rfl, HB2.out⟩
      · have e : j = l.length := by have := HNL.out; omega
        have HG2 : Hid (∀ i (hi : i < l.length), (tyT L l[i]).2 = 0) := hid (fun i hi => HG.out i hi (by omega))
        have HRG := hid (HR.out.trans (tyT_good L op s fn l HG2.out))
        have HTY : Hid (TyV wr (.slice kx j kc) (l.map (fun t => (tyT L t).1))) := hid (by
          have h := HO.out
          rw [show l.take j = l by rw [e, List.take_length]] at h
          exact tyV_row (by rw [List.length_map, ← e]; exact h))
        have HSH := hid (wshaped A _ op s fn l wr (HV.out.below HB.out))
        rw [← HNL.out] at HSH HRG
        have HBN := hid (fun W h => wbound s (.slice bx bn bc) L HLL.out W h)
        have HMD : Hid (takesT op = some N → ∀ W, Below wr.heap.size wr W → Calls Tryz.prog 99 #[.string (tx op), .slice kx j kc] W fun e w' => e = .returned (.int .i64 (madeT op (l.map (fun t => (tyT L t).1)) : Nat)) ∧ Below W.heap.size W w') := hid (fun ht W hW => by
          refine wmade op _ _ (by rw [List.length_map]; omega) (fun h => ?_) W ?_
          · rw [List.length_map, ← HNL.out]
            rcases h with h | h
            · rw [h, show takesT weq = some 2 from by decide] at ht; cases ht; rfl
            · rw [h, show takesT wne = some 2 from by decide] at ht; cases ht; rfl
          · obtain ⟨y, yc, hy, h1, h2, h3⟩ := HTY.out
            refine ⟨y, yc, hy, h1, h2, fun a ha i t hi => ?_⟩
            have h4 := h3 a ha i t hi
            exact cell_same (hW.block _ (cell_lt h4)) h4)
        clear HO HG HTY HC HIH HG2 e
        by_cases ht : takesT op = some N
        · have HSH1 : Hid (Calls Tryz.prog 97 #[.agg #[.string (tx op), .float .f64 fn, .string (tx s), .slice x N cap]] wr fun e w' => e = .returned (.bool true) ∧ Below wr.heap.size wr w') := hid (by have h := HSH.out; rw [decide_eq_true ht] at h; exact h)
          have HMD1 := hid (HMD.out ht)
          rw [if_neg (fun h => h ht)] at HRG
          clear HMD HSH ht
          go_wp2_with (first | (go_at_call 97; fail))
          refine (HSH1.out).mono ?_
          rintro e w2 ⟨rfl, hb2⟩
          have HW2 := hid hb2
          have HB2 := hid (HB.out.trans (below_le hb2 HB.out.size))
          obtain ⟨p0, p1, p2, p3, _⟩ := (HNB.out.below hb2).cells
          have hbl2 := (HNB.out.below hb2).lt
          clear hb2 HSH1 HNB HB
          by_cases o0 : op = wnum
          · have b0 : ((tx op).toList == [110, 117, 109]) = true := by rw [o0]; exact tx_same _
            rw [if_pos o0] at HRG
            clear o0
            generalize tx op = T at *
            go_wp2
            go_ret2
            exact ⟨by rw [HRG.out]; rfl, HB2.out⟩
          · have b0 : ((tx op).toList == [110, 117, 109]) = false := tx_ne o0
            rw [if_neg o0] at HRG
            by_cases o1 : op = wtext
            · have b1 : ((tx op).toList == [116, 101, 120, 116]) = true := by rw [o1]; exact tx_same _
              rw [if_pos o1] at HRG
              clear o0 o1
              generalize tx op = T at *
              go_wp2
              go_ret2
              exact ⟨by rw [HRG.out]; rfl, HB2.out⟩
            · have b1 : ((tx op).toList == [116, 101, 120, 116]) = false := tx_ne o1
              rw [if_neg o1] at HRG
              by_cases o2 : op = wname
              · have b2 : ((tx op).toList == [110, 97, 109, 101]) = true := by rw [o2]; exact tx_same _
                rw [if_pos o2] at HRG
                clear o0 o1 o2 HMD1
                generalize tx op = T at *
                cases hbo : boundV L s with
                | none =>
                  rw [hbo] at HRG HBN
                  clear hbo
                  go_wp2_with (first | (go_at_call 98; fail))
                  refine (HBN.out _ (HBV.out.below HB2.out)).mono ?_
                  rintro e w3 ⟨rfl, hb3⟩
                  have HB3 := hid (fun c => (HB2.out.trans (below_le hb3 HB2.out.size)).alloc (by have := HB2.out.size; have := hb3.size; omega) c)
                  clear hb3
                  unfold bvV
                  go_wp2
                  go_ret2
                  exact ⟨by rw [HRG.out]; rfl, HB3.out _⟩
                | some vl =>
                  have HT3 := hid (bound_t hbo)
                  rw [hbo] at HRG HBN
                  clear hbo
                  obtain ⟨vt, vn, vs, vb'⟩ := vl
                  go_wp2_with (first | (go_at_call 98; fail))
                  refine (HBN.out _ (HBV.out.below HB2.out)).mono ?_
                  rintro e w3 ⟨rfl, hb3⟩
                  have HB3 := hid (fun c => (HB2.out.trans (below_le hb3 HB2.out.size)).alloc (by have := HB2.out.size; have := hb3.size; omega) c)
                  clear hb3
                  unfold bvV
                  go_wp2
                  go_ret2
                  refine ⟨?_, HB3.out _⟩
                  rw [HRG.out]
                  have h3 : vt = 1 ∨ vt = 2 ∨ vt = 3 := HT3.out
                  rcases h3 with rfl | rfl | rfl <;> rfl
              · have b2 : ((tx op).toList == [110, 97, 109, 101]) = false := tx_ne o2
                rw [if_neg o2] at HRG
                obtain ⟨M, hM⟩ : ∃ M, M = madeT op (l.map (fun t => (tyT L t).1)) := ⟨_, rfl⟩
                rw [← hM] at HRG HMD1
                clear o0 o1 o2 hM
                generalize tx op = T at *
                by_cases m0 : M = 0
                · subst m0
                  rw [if_pos rfl] at HRG
                  have HMD2 : Hid (Calls Tryz.prog 99 #[.string T, .slice kx j kc] w2 fun e w' => e = .returned (.int .i64 0) ∧ Below w2.heap.size w2 w') := hid (HMD1.out _ HW2.out)
                  clear HMD1
                  go_wp2_with (first | (go_at_call 99; fail))
                  refine (HMD2.out).mono ?_
                  rintro e w3 ⟨rfl, hb3⟩
                  have HB3 := hid (HB2.out.trans (below_le hb3 HB2.out.size))
                  clear hb3
                  go_wp2
                  go_ret2
                  exact ⟨by rw [HRG.out]; rfl, HB3.out⟩
                · rw [if_neg m0] at HRG
                  have m1 : ((M : Int) == 0) = false := by simpa using (show ¬ ((M : Int) = 0) by omega)
                  go_wp2_with (first | (go_at_call 99; fail))
                  refine (HMD1.out _ HW2.out).mono ?_
                  rintro e w3 ⟨rfl, hb3⟩
                  have HB3 := hid (HB2.out.trans (below_le hb3 HB2.out.size))
                  clear hb3 HMD1
                  go_wp2
                  go_ret2
                  exact ⟨by rw [HRG.out]; rfl, HB3.out⟩
        · have HSH1 : Hid (Calls Tryz.prog 97 #[.agg #[.string (tx op), .float .f64 fn, .string (tx s), .slice x N cap]] wr fun e w' => e = .returned (.bool false) ∧ Below wr.heap.size wr w') := hid (by have h := HSH.out; rw [decide_eq_false ht] at h; exact h)
          rw [if_pos ht] at HRG
          clear HMD HSH ht
          go_wp2_with (first | (go_at_call 97; fail))
          refine (HSH1.out).mono ?_
          rintro e w2 ⟨rfl, hb2⟩
          have HB2 := hid (HB.out.trans (below_le hb2 HB.out.size))
          clear hb2
          go_wp2
          go_ret2
          exact ⟨by rw [HRG.out]; rfl, HB2.out⟩
end Go.Proofs.YtpcbamcelpcigaaGreat
namespace Go.Proofs.YtpcbamcelpcigaaGreat
open Go.RowKit Go.Shelf Ieee
attribute [local go_sem] run_store_float
def tyP (L:List Bnd) (t:Tree):Nat × Nat:=if 16 < depT t then (0,190) else tyT L t
theorem wtypeOf (L:List Bnd) (hLL:L.length≤1000000) (vb:Value) (t:Tree) (A:Nat→Prop) (v:Value) (w:World) (hz:szT t≤1000000) (hv:NodeV A w v t) (hb:BndV w vb L) :
  Calls Tryz.prog 54 #[v,vb] w fun e w'=>e = .returned (.tuple #[.int .i64 ((tyP L t).1:Nat),.int .i64 ((tyP L t).2:Nat)])∧Below w.heap.size w w':=by
 have HDP:=hid (fun W (h:NodeV A W v t)=>wdepth _ t (Nat.le_refl _) A v W hz h)
 have HTY:=hid (fun W (h:NodeV A W v t) (k:BndV W vb L)=>wtyped L hLL vb _ t (Nat.le_refl _) A v W hz h k)
 have HDD:Hid (depT t≤1000000):=hid (by have:=dep_sz t;omega)
 have HV:=hid hv
 have HBV:=hid hb
 obtain ⟨o,n,s,x,l,c,rfl⟩:=hv.agg
 obtain ⟨bx,bn,bc,rfl⟩:=hb.agg
 obtain ⟨R,hR⟩:∃ R,R = tyP L t:=⟨_,rfl⟩
 rw [←hR]
 unfold tyP at hR
 obtain ⟨T,hT⟩:∃ T,T = tyT L t:=⟨_,rfl⟩
 rw [←hT] at hR HTY
 obtain ⟨D,hD⟩:∃ D,D = depT t:=⟨_,rfl⟩
 rw [←hD] at hR HDP HDD
 have HR:=hid hR
 have hdd:=HDD.out
 have HB0:=hid (bel1 w (.cells #[.string o,.float .f64 n,.string s,.slice x l c] 87))
 have HNB:Hid (NB (w.alloc (.cells #[.string o,.float .f64 n,.string s,.slice x l c] 87)) w.heap.size (.agg #[.string o,.float .f64 n,.string s,.slice x l c])):=hid ⟨_,_,_,_,rfl,heap_alloc_new _ _⟩
 clear hv hb hz hR hT hD
 go_enter Tryz.func54,Tryz.ntmps54
 go_wp2_with (first | (go_at_call 75;fail))
 generalize w.alloc (.cells #[.string o,.float .f64 n,.string s,.slice x l c] 87) = W0 at HB0 HNB ⊢
 go_at_call 75
 refine (HDP.out _ (HV.out.below HB0.out)).mono ?_
 rintro e w2 ⟨rfl,hb2⟩
 have HB2:=hid (HB0.out.trans (below_le hb2 HB0.out.size))
 obtain ⟨p0,p1,p2,p3,_⟩:=(HNB.out.below hb2).cells
 have hlt:=(HNB.out.below hb2).lt
 clear hb2 HB0 HNB HDP
 by_cases q:16 < D
 ·have HR2:Hid (R = (0,190)):=hid (by rw [HR.out,if_pos q])
  go_wp2
  go_ret2
  exact ⟨by rw [HR2.out];rfl,HB2.out⟩
 ·have HR2:Hid (R = T):=hid (by rw [HR.out,if_neg q])
  obtain ⟨T1,T2⟩:=T
  go_wp2_with (first | (go_at_call 76;fail))
  go_at_call 76
  refine (HTY.out _ (HV.out.below HB2.out) (HBV.out.below HB2.out)).mono ?_
  rintro e w3 ⟨rfl,hb3⟩
  have HB3:=hid (HB2.out.trans (below_le hb3 HB2.out.size))
  clear hb3
  go_wp2
  go_ret2
  exact ⟨by rw [HR2.out];rfl,HB3.out⟩
theorem ty_ok {L:List Bnd} {op s:Bs} {fn:Nat} {c:List Tree} (h:(tyT L (.mk op fn s c)).2 = 0):takesT op = some c.length∧(∀ i (hi:i < c.length),(tyT L c[i]).2 = 0)∧(op = wname→∃ v,boundV L s = some v):=by
 rw [tyT] at h
 by_cases q:(tyL L c).2 = 0
 ·rw [if_neg (by rw [q];decide)] at h
  have hg:=tyL_all L c q
  by_cases q2:takesT op = some c.length
  ·refine ⟨q2,hg,fun hn=>?_⟩
   rw [if_neg (by rw [q2];exact fun e=>e rfl)] at h
   subst hn
   rw [if_neg (by decide),if_neg (by decide),if_pos rfl] at h
   cases hb:boundV L s with
   | none=>rw [hb] at h;cases h
   | some v=>exact ⟨v,rfl⟩
  ·rw [if_pos q2] at h
   cases h
 ·rw [if_pos q] at h
  exact absurd h q
end Go.Proofs.YtpcbamcelpcigaaGreat
namespace Go.Proofs.YtpcbamcelpcigaaGreat
open Go.RowKit Go.Shelf
attribute [local go_sem] run_store_float
structure VOk (v:Vle):Prop where
 s:v.s.length≤900000
 l:v.l.length≤1000000
 f:v.f < 18446744073709551616
structure FOk (f:Fld):Prop where
 op:f.op.length≤1000
 ops:∀ i,i < f.op.length→(f.op.getD i []).length≤900000
 lb:f.lb.length≤900000
 sh:f.sh.length≤900000
 ck:f.ck.length≤900000
 d:VOk f.d
structure FM (W:World) (f:Fld) (xo:Option Addr) (co:Nat) (xl:Option Addr) (cl:Nat):Prop where
 op:TxV W (.slice xo f.op.length co) f.op
 l:IntV W (.slice xl f.d.l.length cl) f.d.l
theorem FM.below {W W':World} {f xo co xl cl} (h:FM W f xo co xl cl) (hb:Below W.heap.size W W'):FM W' f xo co xl cl:=⟨h.op.below hb,h.l.below hb⟩
theorem dValue (f:Fld) (hf:FOk f) (xo:Option Addr) (co:Nat) (xl:Option Addr) (cl:Nat) (v:Vle) (hv:VOk v) (x:Option Addr) (c:Nat) (w:World) (hm:TxV w (.slice xo f.op.length co) f.op) (hi:IntV w (.slice x v.l.length c) v.l) :
  Calls Tryz.prog 14 #[(f.fl xo co xl cl).v,v.v x c] w fun e w'=>e = .returned (.bool (valueP f v))∧Below w.heap.size w w':=by
 have HOW:=hid (fun W (h:TxV W (.slice xo f.op.length co) f.op)=>dOwn f xo co xl cl hf.op hf.ops W h)
 have HFT:=hid (fun W (h:IntV W (.slice x v.l.length c) v.l)=>dfits f xo co xl cl v x c hv.f hv.s hv.l (by have:=hf.op;omega) W h)
 obtain ⟨R,hR⟩:∃ R,R = valueP f v:=⟨_,rfl⟩
 rw [←hR]
 unfold valueP at hR
 obtain ⟨F,hF⟩:∃ F,F = f.fl xo co xl cl:=⟨_,rfl⟩
 rw [←hF] at HOW HFT ⊢
 generalize ownP f = OB at hR HOW
 generalize fitsP f v = FB at hR HFT
 have HM:=hid (fun W (hb:Below w.heap.size w W)=>hm.below hb)
 have HI:=hid (fun W (hb:Below w.heap.size w W)=>hi.below hb)
 have HR:=hid hR
 clear hF hR hm hi hf hv
 unfold FL.v FL.a at HOW HFT ⊢
 unfold Vle.v dvlV at HFT ⊢
 generalize tx v.s = s at HFT ⊢
 generalize v.n = n at HFT ⊢
 generalize v.b = b at HFT ⊢
 generalize v.f = vf at HFT ⊢
 obtain ⟨B1,hB1⟩:∃ W1,W1 = (w.alloc (.cells F.a 42)).alloc (.cells #[.string s,.int .i64 n,.bool b,.slice x v.l.length c,.float .f64 vf] 40):=⟨_,rfl⟩
 have hbl:Below w.heap.size w B1:=by rw [hB1];exact ((Below.refl _ _).alloc (Nat.le_refl _) _).alloc (by simp) _
 have HFB:Hid (FLB B1 w.heap.size F):=hid (by rw [hB1];exact (heap_alloc_old _ _ (by simp)).trans (heap_alloc_new _ _))
 have HVB:Hid (VLB B1 (w.heap.size + 1) s n b x v.l.length c vf):=hid (by rw [hB1];exact heap_at (heap_alloc_new _ _) (by simp))
 unfold FL.a at hB1
 have HBL:=hid hbl
 clear hbl
 obtain ⟨c0,c1,c2,c3,c4,c5,c6,c7,c8,c9,c10,c11,c12,c13,c14,c15⟩:=HFB.out.cells
 obtain ⟨d0,d1,d2,d3,d4⟩:=HVB.out.cells
 have hlt:=HFB.out.lt
 have hlv:=HVB.out.lt
 go_enter Tryz.func14,Tryz.ntmps14
 go_wp2_with (first | (go_at_call 40;fail))
 rw [←hB1]
 go_at_call 40
 refine (HOW.out _ (HM.out _ HBL.out)).mono ?_
 rintro e w2 ⟨rfl,hb2⟩
 replace HFB:=hid (HFB.out.below hb2)
 replace HVB:=hid (HVB.out.below hb2)
 replace HBL:=hid (HBL.out.trans (below_le hb2 HBL.out.size))
 clear hb2 hB1 HOW HM c0 c1 c2 c3 c4 c5 c6 c7 c8 c9 c10 c11 c12 c13 c14 c15 d0 d1 d2 d3 d4 hlt hlv
 cases OB
 ·have HR2:Hid (R = false):=hid (by rw [HR.out];rfl)
  clear HR HFT HI
  go_wp2
  go_ret
  exact ⟨ret_bool HR2.out.symm,HBL.out⟩
 ·have HR2:Hid (R = FB):=hid (by rw [HR.out];rfl)
  have HF2:=hid (HFT.out w2 (HI.out _ HBL.out))
  obtain ⟨c0,c1,c2,c3,c4,c5,c6,c7,c8,c9,c10,c11,c12,c13,c14,c15⟩:=HFB.out.cells
  obtain ⟨d0,d1,d2,d3,d4⟩:=HVB.out.cells
  have hlt:=HFB.out.lt
  have hlv:=HVB.out.lt
  clear HR HFT HI
  go_wp2_with (first | (go_at_call 41;refine (HF2.out).mono ?_;rintro e w3 ⟨rfl,hb3⟩))
  go_ret
  exact ⟨ret_bool HR2.out.symm,HBL.out.trans (below_le hb3 HBL.out.size)⟩
theorem dField (f:Fld) (hf:FOk f) (xo:Option Addr) (co:Nat) (xl:Option Addr) (cl:Nat) (w:World) (hm:FM w f xo co xl cl) :
  Calls Tryz.prog 12 #[(f.fl xo co xl cl).v] w fun e w'=>e = .returned (.int .i64 (fieldP f:Nat))∧Below w.heap.size w w':=by
 obtain ⟨R,hR⟩:∃ R,R = fieldP f:=⟨_,rfl⟩
 rw [←hR]
 unfold fieldP at hR
 obtain ⟨F,hF⟩:∃ F,F = f.fl xo co xl cl:=⟨_,rfl⟩
 have HTY:Hid (∀ W,Calls Tryz.prog 18 #[.int .i64 F.k] W fun e w'=>e = .returned (.int .i64 (tyK f.k:Nat))∧W = w'):=hid (by rw [hF];exact fun W=>dTypeOf f.k W)
 have HNM:Hid (∀ W,Calls Tryz.prog 16 #[.string F.nm] W fun e w'=>e = .returned (.bool (nameP f.nm))∧W = w'):=hid (by rw [hF];exact fun W=>dName f.nm W)
 have HLB:Hid (∀ W,Calls Tryz.prog 28 #[.string F.lb] W fun e w'=>e = .returned (.bool (labelP f.lb))∧Below W.heap.size W w'):=hid (by rw [hF];exact fun W=>dlabel f.lb hf.lb W)
 have HVL:Hid (∀ W,FM W f xo co xl cl→Calls Tryz.prog 14 #[.agg #[.int .i64 F.k,.string F.nm,.string F.lb,.slice F.xo F.no F.co,.int .i64 F.mn,.int .i64 F.mx,.float .f64 F.lo,.float .f64 F.hi,.float .f64 F.st,.string F.ds,.int .i64 F.dn,.bool F.db,.slice F.xl F.nl F.cl,.float .f64 F.df,.string F.sh,.string F.ck],.agg #[.string F.ds,.int .i64 F.dn,.bool F.db,.slice F.xl F.nl F.cl,.float .f64 F.df]] W fun e w'=>e = .returned (.bool (valueP f f.d))∧Below W.heap.size W w'):=hid (by rw [hF];exact fun W h=>dValue f hf xo co xl cl f.d hf.d xl cl W h.op h.l)
 rw [←hF]
 generalize tyK f.k = T at hR HTY
 generalize nameP f.nm = NB at hR HNM
 generalize labelP f.lb = LB at hR HLB
 generalize valueP f f.d = VB at hR HVL
 have HM:=hid (fun W (hb:Below w.heap.size w W)=>hm.below hb)
 have HR:=hid hR
 clear hF hR hm hf
 unfold FL.v
 obtain ⟨B1,hB1⟩:∃ W1,W1 = w.alloc (.cells F.a 42):=⟨_,rfl⟩
 have hbl:Below w.heap.size w B1:=by rw [hB1];exact (Below.refl _ _).alloc (Nat.le_refl _) _
 have HFB:Hid (FLB B1 w.heap.size F):=hid (by rw [hB1];exact heap_alloc_new _ _)
 unfold FL.a at hB1 ⊢
 have HBL:=hid hbl
 clear hbl
 obtain ⟨c0,c1,c2,c3,c4,c5,c6,c7,c8,c9,c10,c11,c12,c13,c14,c15⟩:=HFB.out.cells
 have hlt:=HFB.out.lt
 by_cases ht:T = 0
 ·have HR2:Hid (R = 1):=hid (by rw [HR.out,if_pos ht])
  subst ht
  clear HR HNM HLB HVL HM
  go_enter Tryz.func12,Tryz.ntmps12
  go_wp2_with (first | (go_at_call 18;fail))
  rw [←hB1]
  go_at_call 18
  refine (HTY.out _).mono ?_
  clear hB1
  rintro e w2 ⟨rfl,rfl⟩
  go_wp2
  go_ret
  exact ⟨by rw [HR2.out];rfl,HBL.out⟩
 have ht2:((T:Int) == 0) = false:=by simpa using (show ¬ ((T:Int) = 0) by omega)
 have HR1:Hid (R = if NB && (LB && VB) then 0 else 210):=hid (by rw [HR.out,if_neg ht])
 clear HR ht
 go_enter Tryz.func12,Tryz.ntmps12
 go_wp2_with (first | (go_at_call 18;fail))
 rw [←hB1]
 go_at_call 18
 refine (HTY.out _).mono ?_
 rintro e w2 ⟨rfl,rfl⟩
 clear HTY hB1
 cases NB
 ·have HR2:Hid (R = 210):=hid (by rw [HR1.out];rfl)
  clear HR1 HLB HVL HM
  go_wp2_with (first | (go_at_call 16;refine (HNM.out _).mono ?_;rintro e w3 ⟨rfl,rfl⟩))
  go_ret
  exact ⟨by rw [HR2.out];rfl,HBL.out⟩
 go_wp2_with (first | (go_at_call 16;refine (HNM.out _).mono ?_;rintro e w3 ⟨rfl,rfl⟩) | (go_at_call 28;fail))
 go_at_call 28
 refine (HLB.out _).mono ?_
 rintro e w4 ⟨rfl,hb4⟩
 replace HFB:=hid (HFB.out.below hb4)
 replace HBL:=hid (HBL.out.trans (below_le hb4 HBL.out.size))
 clear hb4 HNM HLB c0 c1 c2 c3 c4 c5 c6 c7 c8 c9 c10 c11 c12 c13 c14 c15 hlt
 cases LB
 ·have HR2:Hid (R = 210):=hid (by rw [HR1.out];rfl)
  clear HR1 HVL HM
  go_wp2
  go_ret
  exact ⟨by rw [HR2.out];rfl,HBL.out⟩
 obtain ⟨c0,c1,c2,c3,c4,c5,c6,c7,c8,c9,c10,c11,c12,c13,c14,c15⟩:=HFB.out.cells
 have hlt:=HFB.out.lt
 have HV2:=hid (HVL.out _ (HM.out _ HBL.out))
 clear HVL HM
 cases VB
 ·have HR2:Hid (R = 210):=hid (by rw [HR1.out];rfl)
  clear HR1
  go_wp2_with (first | (go_at_call 14;refine (HV2.out).mono ?_;rintro e w5 ⟨rfl,hb5⟩))
  go_ret
  exact ⟨by rw [HR2.out];rfl,HBL.out.trans (below_le hb5 HBL.out.size)⟩
 ·have HR2:Hid (R = 0):=hid (by rw [HR1.out];rfl)
  clear HR1
  go_wp2_with (first | (go_at_call 14;refine (HV2.out).mono ?_;rintro e w5 ⟨rfl,hb5⟩))
  go_ret
  exact ⟨by rw [HR2.out];rfl,HBL.out.trans (below_le hb5 HBL.out.size)⟩
def truthE (L:List Bnd) (s:Bs):Nat:=if (parseP s).2≠0 then (parseP s).2 else if (tyP L (parseP s).1).2≠0 then (tyP L (parseP s).1).2 else if (tyP L (parseP s).1).1≠3 then 190 else 0
theorem parse_size (l : Bs) : szT (parseP l).1 ≤ l.length + 1 := by
  have hz : szT zeroT ≤ l.length + 1 := by simp [zeroT, szT, szL]
  unfold parseP
  split
  · exact hz
  · cases hr : readP l with
    | none => exact hz
    | some t =>
      simp only
      split
      · exact hz
      · have := readP_sz hr
        simp only
        omega
theorem dtruth (L:List Bnd) (hL:L.length≤1000000) (vb:Value) (s:Bs) (hs:s.length≤900000) (w:World) (hb:BndV w vb L) :
  Calls Tryz.prog 32 #[.string (tx s),vb] w fun e w'=>e = .returned (.int .i64 (truthE L s:Nat))∧Below w.heap.size w w':=by
 have HP:=hid (wparse s (by omega) w)
 have HTY:=hid (fun (A:Nat→Prop) v W (h:NodeV A W v (parseP s).1) (k:BndV W vb L)=>wtypeOf L hL vb (parseP s).1 A v W (by have:=parse_size s;omega) h k)
 have HBV:=hid hb
 obtain ⟨bx,bn,bc,rfl⟩:=hb.agg
 obtain ⟨R,hR⟩:∃ R,R = truthE L s:=⟨_,rfl⟩
 rw [←hR]
 unfold truthE at hR
 unfold ParseEnd at HP
 generalize tyP L (parseP s).1 = T at hR HTY
 generalize parseP s = Q at hR HP HTY
 obtain ⟨Q1,Q2⟩:=Q
 obtain ⟨T1,T2⟩:=T
 simp only at hR HP HTY
 have HR:=hid hR
 clear hb hL hs hR
 go_enter Tryz.func32,Tryz.ntmps32
 go_wp2_with (first | (go_at_call 53;fail))
 go_at_call 53
 refine (HP.out).mono ?_
 rintro e w2 ⟨v2,rfl,hv2,hb2⟩
 obtain ⟨o,n,s',x,k,c,rfl⟩:=hv2.agg
 have hal:Below w2.heap.size w2 (w2.alloc (.cells #[.string o,.float .f64 n,.string s',.slice x k c] 87)):=(Below.refl _ _).alloc (Nat.le_refl _) _
 have HB3:=hid (hb2.trans (below_le hal hb2.size))
 have HN3:=hid (hv2.below hal)
 clear hb2 hv2 hal HP
 by_cases q:Q2 = 0
 ·subst q
  have HR1:Hid (R = if T2≠0 then T2 else if T1≠3 then 190 else 0):=hid (by rw [HR.out,if_neg (by simp)])
  clear HR
  go_wp2_with (first | (go_at_call 54;fail))
  go_at_call 54
  refine (HTY.out _ _ _ HN3.out (HBV.out.below HB3.out)).mono ?_
  rintro e w5 ⟨rfl,hb5⟩
  have HB5:=hid (HB3.out.trans (below_le hb5 HB3.out.size))
  clear hb5
  by_cases q2:T2 = 0
  ·subst q2
   by_cases q3:T1 = 3
   ·have HR2:Hid (R = 0):=hid (by rw [HR1.out,if_neg (by simp),if_neg (by simp [q3])])
    subst q3
    clear HR1
    go_wp2
    go_ret
    exact ⟨by rw [HR2.out];rfl,HB5.out⟩
   ·have HR2:Hid (R = 190):=hid (by rw [HR1.out,if_neg (by simp),if_pos q3])
    have q4:((T1:Int) != 3) = true:=by simpa using (show ¬ ((T1:Int) = 3) by omega)
    clear HR1
    go_wp2
    go_ret
    exact ⟨by rw [HR2.out];rfl,HB5.out⟩
  ·have HR2:Hid (R = T2):=hid (by rw [HR1.out,if_pos q2])
   have q4:((T2:Int) != 0) = true:=by simpa using (show ¬ ((T2:Int) = 0) by omega)
   clear HR1
   go_wp2
   go_ret
   exact ⟨by rw [HR2.out];rfl,HB5.out⟩
 ·have HR1:Hid (R = Q2):=hid (by rw [HR.out,if_pos q])
  have q4:((Q2:Int) != 0) = true:=by simpa using (show ¬ ((Q2:Int) = 0) by omega)
  clear HR
  go_wp2
  go_ret
  exact ⟨by rw [HR1.out];rfl,HB3.out⟩
def bndF (f:Fld):Bnd:=⟨f.nm,⟨tyK f.k,0,[],false⟩⟩
end Go.Proofs.YtpcbamcelpcigaaGreat
