/- Own texts, merged: DE, DF. -/
import Derived.Test.YtdomglkcfecnnaaGreatMP24
import Derived.Test.YtdomglkcfecnnaaGreatMP28
import Derived.Test.YtdomglkcfecnnaaGreatMP30
import Derived.Test.YtdomglkcfecnnaaGreatMP36
/- Walks: desc: Value, Field, truth, named, bind. -/
namespace Go.Proofs.YtdomglkcfecnnaaGreat
open Go.RowKit Go.Shelf
attribute [local go_sem] run_store_float
structure VOk (v : Vle) : Prop where
  s : v.s.length ≤ 900000
  l : v.l.length ≤ 1000000
  f : v.f < 18446744073709551616
structure FOk (f : Fld) : Prop where
  op : f.op.length ≤ 1000
  ops : ∀ i, i < f.op.length → (f.op.getD i []).length ≤ 900000
  lb : f.lb.length ≤ 900000
  sh : f.sh.length ≤ 900000
  ck : f.ck.length ≤ 900000
  d : VOk f.d
/-- What a field names in memory. -/
structure FM (W : World) (f : Fld) (xo : Option Addr) (co : Nat) (xl : Option Addr) (cl : Nat) : Prop where
  op : TxV W (.slice xo f.op.length co) f.op
  l : IntV W (.slice xl f.d.l.length cl) f.d.l
theorem FM.below {W W' : World} {f xo co xl cl} (h : FM W f xo co xl cl) (hb : Below W.heap.size W W') : FM W' f xo co xl cl := ⟨h.op.below hb, h.l.below hb⟩
set_option maxRecDepth 100000 in
set_option maxHeartbeats 8000000 in
theorem dValue (f : Fld) (hf : FOk f) (xo : Option Addr) (co : Nat) (xl : Option Addr) (cl : Nat) (v : Vle) (hv : VOk v) (x : Option Addr) (c : Nat) (w : World) (hm : TxV w (.slice xo f.op.length co) f.op) (hi : IntV w (.slice x v.l.length c) v.l) :
    Calls Tryz.prog 26 #[(f.fl xo co xl cl).v, v.v x c] w fun e w' => e = .returned (.bool (valueP f v)) ∧ Below w.heap.size w w' := by
  have HOW := Lib.hid (fun W (h : TxV W (.slice xo f.op.length co) f.op) => dOwn f xo co xl cl hf.op hf.ops W h)
  have HFT := Lib.hid (fun W (h : IntV W (.slice x v.l.length c) v.l) => dfits f xo co xl cl v x c hv.f hv.s hv.l (by have := hf.op; omega) W h)
  obtain ⟨R, hR⟩ : ∃ R, R = valueP f v := ⟨_, rfl⟩
  rw [← hR]
  unfold valueP at hR
  obtain ⟨F, hF⟩ : ∃ F, F = f.fl xo co xl cl := ⟨_, rfl⟩
  rw [← hF] at HOW HFT ⊢
  generalize ownP f = OB at hR HOW
  generalize fitsP f v = FB at hR HFT
  have HM := Lib.hid (fun W (hb : Below w.heap.size w W) => hm.below hb)
  have HI := Lib.hid (fun W (hb : Below w.heap.size w W) => hi.below hb)
  have HR := Lib.hid hR
  clear hF hR hm hi hf hv
  unfold FL.v FL.a at HOW HFT ⊢
  unfold Vle.v dvlV at HFT ⊢
  generalize tx v.s = s at HFT ⊢
  generalize v.n = n at HFT ⊢
  generalize v.b = b at HFT ⊢
  generalize v.f = vf at HFT ⊢
  obtain ⟨B1, hB1⟩ : ∃ W1, W1 = (w.alloc (.cells F.a 66)).alloc (.cells #[.string s, .int .i64 n, .bool b, .slice x v.l.length c, .float .f64 vf] 62) := ⟨_, rfl⟩
  have hbl : Below w.heap.size w B1 := by rw [hB1]; exact ((Below.refl _ _).alloc (Nat.le_refl _) _).alloc (by simp) _
  have HFB : Hid (FLB B1 w.heap.size F) := Lib.hid (by rw [hB1]; exact (heap_alloc_old _ _ (by simp)).trans (heap_alloc_new _ _))
  have HVB : Hid (VLB B1 (w.heap.size + 1) s n b x v.l.length c vf) := Lib.hid (by rw [hB1]; exact heap_at (heap_alloc_new _ _) (by simp))
  unfold FL.a at hB1
  have HBL := Lib.hid hbl
  clear hbl
  obtain ⟨c0, c1, c2, c3, c4, c5, c6, c7, c8, c9, c10, c11, c12, c13, c14, c15⟩ := HFB.out.cells
  obtain ⟨d0, d1, d2, d3, d4⟩ := HVB.out.cells
  have hlt := HFB.out.lt
  have hlv := HVB.out.lt
  go_enter Tryz.func26, Tryz.ntmps26
  go_wp2_with (first | (go_at_call 44; fail))
  rw [← hB1]
  go_at_call 44
  refine (HOW.out _ (HM.out _ HBL.out)).mono ?_
  rintro e w2 ⟨rfl, hb2⟩
  replace HFB := Lib.hid (HFB.out.below hb2)
  replace HVB := Lib.hid (HVB.out.below hb2)
  replace HBL := Lib.hid (HBL.out.trans (below_le hb2 HBL.out.size))
  clear hb2 hB1 HOW HM c0 c1 c2 c3 c4 c5 c6 c7 c8 c9 c10 c11 c12 c13 c14 c15 d0 d1 d2 d3 d4 hlt hlv
  cases OB
  · have HR2 : Hid (R = false) := Lib.hid (by rw [HR.out]; rfl)
    clear HR HFT HI
    go_wp2
    go_ret
    exact ⟨ret_bool HR2.out.symm, HBL.out⟩
  · have HR2 : Hid (R = FB) := Lib.hid (by rw [HR.out]; rfl)
    have HF2 := Lib.hid (HFT.out w2 (HI.out _ HBL.out))
    obtain ⟨c0, c1, c2, c3, c4, c5, c6, c7, c8, c9, c10, c11, c12, c13, c14, c15⟩ := HFB.out.cells
    obtain ⟨d0, d1, d2, d3, d4⟩ := HVB.out.cells
    have hlt := HFB.out.lt
    have hlv := HVB.out.lt
    clear HR HFT HI
    go_wp2_with (first | (go_at_call 45; refine (HF2.out).mono ?_; rintro e w3 ⟨rfl, hb3⟩))
    go_ret
    exact ⟨ret_bool HR2.out.symm, HBL.out.trans (below_le hb3 HBL.out.size)⟩
set_option maxRecDepth 100000 in
set_option maxHeartbeats 8000000 in
theorem dField (f : Fld) (hf : FOk f) (xo : Option Addr) (co : Nat) (xl : Option Addr) (cl : Nat) (w : World) (hm : FM w f xo co xl cl) :
    Calls Tryz.prog 49 #[(f.fl xo co xl cl).v] w fun e w' => e = .returned (.int .i64 (fieldP f : Nat)) ∧ Below w.heap.size w w' := by
  obtain ⟨R, hR⟩ : ∃ R, R = fieldP f := ⟨_, rfl⟩
  rw [← hR]
  unfold fieldP at hR
  obtain ⟨F, hF⟩ : ∃ F, F = f.fl xo co xl cl := ⟨_, rfl⟩
  have HTY : Hid (∀ W, Calls Tryz.prog 51 #[.int .i64 F.k] W fun e w' => e = .returned (.int .i64 (tyK f.k : Nat)) ∧ W = w') := Lib.hid (by rw [hF]; exact fun W => dTypeOf f.k W)
  have HNM : Hid (∀ W, Calls Tryz.prog 67 #[.string F.nm] W fun e w' => e = .returned (.bool (nameP f.nm)) ∧ W = w') := Lib.hid (by rw [hF]; exact fun W => dName f.nm W)
  have HLB : Hid (∀ W, Calls Tryz.prog 30 #[.string F.lb] W fun e w' => e = .returned (.bool (labelP f.lb)) ∧ Below W.heap.size W w') := Lib.hid (by rw [hF]; exact fun W => dlabel f.lb hf.lb W)
  have HVL : Hid (∀ W, FM W f xo co xl cl → Calls Tryz.prog 26 #[.agg #[.int .i64 F.k, .string F.nm, .string F.lb, .slice F.xo F.no F.co, .int .i64 F.mn, .int .i64 F.mx, .float .f64 F.lo, .float .f64 F.hi, .float .f64 F.st, .string F.ds, .int .i64 F.dn, .bool F.db, .slice F.xl F.nl F.cl, .float .f64 F.df, .string F.sh, .string F.ck], .agg #[.string F.ds, .int .i64 F.dn, .bool F.db, .slice F.xl F.nl F.cl, .float .f64 F.df]] W fun e w' => e = .returned (.bool (valueP f f.d)) ∧ Below W.heap.size W w') := Lib.hid (by rw [hF]; exact fun W h => dValue f hf xo co xl cl f.d hf.d xl cl W h.op h.l)
  rw [← hF]
  generalize tyK f.k = T at hR HTY
  generalize nameP f.nm = NB at hR HNM
  generalize labelP f.lb = LB at hR HLB
  generalize valueP f f.d = VB at hR HVL
  have HM := Lib.hid (fun W (hb : Below w.heap.size w W) => hm.below hb)
  have HR := Lib.hid hR
  clear hF hR hm hf
  unfold FL.v
  obtain ⟨B1, hB1⟩ : ∃ W1, W1 = w.alloc (.cells F.a 66) := ⟨_, rfl⟩
  have hbl : Below w.heap.size w B1 := by rw [hB1]; exact (Below.refl _ _).alloc (Nat.le_refl _) _
  have HFB : Hid (FLB B1 w.heap.size F) := Lib.hid (by rw [hB1]; exact heap_alloc_new _ _)
  unfold FL.a at hB1 ⊢
  have HBL := Lib.hid hbl
  clear hbl
  obtain ⟨c0, c1, c2, c3, c4, c5, c6, c7, c8, c9, c10, c11, c12, c13, c14, c15⟩ := HFB.out.cells
  have hlt := HFB.out.lt
  by_cases ht : T = 0
  · have HR2 : Hid (R = 1) := Lib.hid (by rw [HR.out, if_pos ht])
    subst ht
    clear HR HNM HLB HVL HM
    go_enter Tryz.func49, Tryz.ntmps49
    go_wp2_with (first | (go_at_call 51; fail))
    rw [← hB1]
    go_at_call 51
    refine (HTY.out _).mono ?_
    clear hB1
    rintro e w2 ⟨rfl, rfl⟩
    go_wp2
    go_ret
    exact ⟨by rw [HR2.out]; rfl, HBL.out⟩
  have ht2 : ((T : Int) == 0) = false := by simpa using (show ¬ ((T : Int) = 0) by omega)
  have HR1 : Hid (R = if NB && (LB && VB) then 0 else 210) := Lib.hid (by rw [HR.out, if_neg ht])
  clear HR ht
  go_enter Tryz.func49, Tryz.ntmps49
  go_wp2_with (first | (go_at_call 51; fail))
  rw [← hB1]
  go_at_call 51
  refine (HTY.out _).mono ?_
  rintro e w2 ⟨rfl, rfl⟩
  clear HTY hB1
  cases NB
  · have HR2 : Hid (R = 210) := Lib.hid (by rw [HR1.out]; rfl)
    clear HR1 HLB HVL HM
    go_wp2_with (first | (go_at_call 67; refine (HNM.out _).mono ?_; rintro e w3 ⟨rfl, rfl⟩))
    go_ret
    exact ⟨by rw [HR2.out]; rfl, HBL.out⟩
  go_wp2_with (first | (go_at_call 67; refine (HNM.out _).mono ?_; rintro e w3 ⟨rfl, rfl⟩) | (go_at_call 30; fail))
  go_at_call 30
  refine (HLB.out _).mono ?_
  rintro e w4 ⟨rfl, hb4⟩
  replace HFB := Lib.hid (HFB.out.below hb4)
  replace HBL := Lib.hid (HBL.out.trans (below_le hb4 HBL.out.size))
  clear hb4 HNM HLB c0 c1 c2 c3 c4 c5 c6 c7 c8 c9 c10 c11 c12 c13 c14 c15 hlt
  cases LB
  · have HR2 : Hid (R = 210) := Lib.hid (by rw [HR1.out]; rfl)
    clear HR1 HVL HM
    go_wp2
    go_ret
    exact ⟨by rw [HR2.out]; rfl, HBL.out⟩
  obtain ⟨c0, c1, c2, c3, c4, c5, c6, c7, c8, c9, c10, c11, c12, c13, c14, c15⟩ := HFB.out.cells
  have hlt := HFB.out.lt
  have HV2 := Lib.hid (HVL.out _ (HM.out _ HBL.out))
  clear HVL HM
  cases VB
  · have HR2 : Hid (R = 210) := Lib.hid (by rw [HR1.out]; rfl)
    clear HR1
    go_wp2_with (first | (go_at_call 26; refine (HV2.out).mono ?_; rintro e w5 ⟨rfl, hb5⟩))
    go_ret
    exact ⟨by rw [HR2.out]; rfl, HBL.out.trans (below_le hb5 HBL.out.size)⟩
  · have HR2 : Hid (R = 0) := Lib.hid (by rw [HR1.out]; rfl)
    clear HR1
    go_wp2_with (first | (go_at_call 26; refine (HV2.out).mono ?_; rintro e w5 ⟨rfl, hb5⟩))
    go_ret
    exact ⟨by rw [HR2.out]; rfl, HBL.out.trans (below_le hb5 HBL.out.size)⟩
/-- Why a text is no rule that is true or not, of names. -/
def truthE (L : List Bnd) (s : Bs) : Nat := if (parseP s).2 ≠ 0 then (parseP s).2 else if (tyP L (parseP s).1).2 ≠ 0 then (tyP L (parseP s).1).2 else if (tyP L (parseP s).1).1 ≠ 3 then 190 else 0
theorem parse_size (l : Bs) : szT (parseP l).1 ≤ l.length + 1 := by
  have hz : szT zeroT ≤ l.length + 1 := by simp [zeroT, szT, szL]
  unfold parseP
  split
  · exact hz
  · cases hr : readP l with
    | none => exact hz
    | some t =>
      simp only
      split
      · exact hz
      · have := readP_sz hr
        simp only
        omega
set_option maxHeartbeats 4000000 in
theorem dtruth (L : List Bnd) (hL : L.length ≤ 1000000) (vb : Value) (s : Bs) (hs : s.length ≤ 900000) (w : World) (hb : BndV w vb L) :
    Calls Tryz.prog 34 #[.string (tx s), vb] w fun e w' => e = .returned (.int .i64 (truthE L s : Nat)) ∧ Below w.heap.size w w' := by
  have HP := Lib.hid (wparse s (by omega) w)
  have HTY := Lib.hid (fun (A : Nat → Prop) v W (h : NodeV A W v (parseP s).1) (k : BndV W vb L) => wtypeOf L hL vb (parseP s).1 A v W (by have := parse_size s; omega) h k)
  have HBV := Lib.hid hb
  obtain ⟨bx, bn, bc, rfl⟩ := hb.agg
  obtain ⟨R, hR⟩ : ∃ R, R = truthE L s := ⟨_, rfl⟩
  rw [← hR]
  unfold truthE at hR
  unfold ParseEnd at HP
  generalize tyP L (parseP s).1 = T at hR HTY
  generalize parseP s = Q at hR HP HTY
  obtain ⟨Q1, Q2⟩ := Q
  obtain ⟨T1, T2⟩ := T
  simp only at hR HP HTY
  have HR := Lib.hid hR
  clear hb hL hs hR
  go_enter Tryz.func34, Tryz.ntmps34
  go_wp2_with (first | (go_at_call 52; fail))
  go_at_call 52
  refine (HP.out).mono ?_
  rintro e w2 ⟨v2, rfl, hv2, hb2⟩
  obtain ⟨o, n, s', x, k, c, rfl⟩ := hv2.agg
  have hal : Below w2.heap.size w2 (w2.alloc (.cells #[.string o, .float .f64 n, .string s', .slice x k c] 119)) := (Below.refl _ _).alloc (Nat.le_refl _) _
  have HB3 := Lib.hid (hb2.trans (below_le hal hb2.size))
  have HN3 := Lib.hid (hv2.below hal)
  clear hb2 hv2 hal HP
  by_cases q : Q2 = 0
  · subst q
    have HR1 : Hid (R = if T2 ≠ 0 then T2 else if T1 ≠ 3 then 190 else 0) := Lib.hid (by rw [HR.out, if_neg (by simp)])
    clear HR
    go_wp2_with (first | (go_at_call 53; fail))
    go_at_call 53
    refine (HTY.out _ _ _ HN3.out (HBV.out.below HB3.out)).mono ?_
    rintro e w5 ⟨rfl, hb5⟩
    have HB5 := Lib.hid (HB3.out.trans (below_le hb5 HB3.out.size))
    clear hb5
    by_cases q2 : T2 = 0
    · subst q2
      by_cases q3 : T1 = 3
      · have HR2 : Hid (R = 0) := Lib.hid (by rw [HR1.out, if_neg (by simp), if_neg (by simp [q3])])
        subst q3
        clear HR1
        go_wp2
        go_ret
        exact ⟨by rw [HR2.out]; rfl, HB5.out⟩
      · have HR2 : Hid (R = 190) := Lib.hid (by rw [HR1.out, if_neg (by simp), if_pos q3])
        have q4 : ((T1 : Int) != 3) = true := by simpa using (show ¬ ((T1 : Int) = 3) by omega)
        clear HR1
        go_wp2
        go_ret
        exact ⟨by rw [HR2.out]; rfl, HB5.out⟩
    · have HR2 : Hid (R = T2) := Lib.hid (by rw [HR1.out, if_pos q2])
      have q4 : ((T2 : Int) != 0) = true := by simpa using (show ¬ ((T2 : Int) = 0) by omega)
      clear HR1
      go_wp2
      go_ret
      exact ⟨by rw [HR2.out]; rfl, HB5.out⟩
  · have HR1 : Hid (R = Q2) := Lib.hid (by rw [HR.out, if_pos q])
    have q4 : ((Q2 : Int) != 0) = true := by simpa using (show ¬ ((Q2 : Int) = 0) by omega)
    clear HR
    go_wp2
    go_ret
    exact ⟨by rw [HR1.out]; rfl, HB3.out⟩
/-- A field's name, by its type. -/
def bndF (f : Fld) : Bnd := ⟨f.nm, ⟨tyK f.k, 0, [], false⟩⟩
end Go.Proofs.YtdomglkcfecnnaaGreat
/- Walks: desc: named, bind. -/
namespace Go.Proofs.YtdomglkcfecnnaaGreat
open Go.RowKit Go.Shelf
attribute [local go_sem] run_store_float
/-- Is a name bound? -/
def namedB (L : List Bnd) (s : Bs) : Bool := L.any (fun b => decide (b.nm = s))
theorem named_hit {L : List Bnd} {s : Bs} {j : Nat} (h : j < L.length) (e : L[j].nm = s) : namedB L s = true := by
  unfold namedB
  rw [List.any_eq_true]
  exact ⟨L[j], List.getElem_mem h, by simpa using e⟩
theorem named_end {L : List Bnd} {s : Bs} (h : ∀ j (hj : j < L.length), L[j].nm ≠ s) : namedB L s = false := by
  unfold namedB
  rw [List.any_eq_false]
  intro b hb
  obtain ⟨i, hi, e⟩ := List.mem_iff_getElem.1 hb
  have := h i hi
  rw [e] at this
  simpa using this
set_option maxRecDepth 100000 in
set_option maxHeartbeats 8000000 in
theorem dnamed (s : Bs) (v : Value) (L : List Bnd) (hL : L.length ≤ 1000000) (w : World) (h : BndV w v L) : Calls Tryz.prog 50 #[.string (tx s), v] w fun e w' => e = .returned (.bool (namedB L s)) ∧ Below w.heap.size w w' := by
  obtain ⟨x, cap, rfl, hcap, hx, hc⟩ := h
  have HC := Lib.hid hc
  have HX := Lib.hid hx
  have HIT := Lib.hid (fun j (h : j < L.length) (e : L[j].nm = s) => named_hit h e)
  have HEND := Lib.hid (fun (h : ∀ j (hj : j < L.length), L[j].nm ≠ s) => named_end h)
  obtain ⟨R, hR⟩ : ∃ R, R = namedB L s := ⟨_, rfl⟩
  rw [← hR] at HIT HEND ⊢
  obtain ⟨N, hN⟩ : ∃ N, N = L.length := ⟨_, rfl⟩
  have HN := Lib.hid hN
  rw [← hN] at hL hcap ⊢
  clear hc hx hN hR
  go_enter Tryz.func50, Tryz.ntmps50
  go_wp2_with fail
  go_loopg [9] N (fun gh i wr => ∃ j : Nat, j + gh = N ∧ i = .int .i64 j ∧ Hid (∀ k (hk : k < L.length), k < j → L[k].nm ≠ s) ∧ Hid (Below w.heap.size w wr))
  case atStart => exact ⟨0, by omega, rfl, Lib.hid (fun k _ hk => absurd hk (by omega)), Lib.hid (Below.refl _ _)⟩
  case round =>
    obtain ⟨j, hj, rfl, HA, HB⟩ := hrel
    by_cases q : j < N
    · have hjl : j < L.length := by have := HN.out; omega
      obtain ⟨a, rfl⟩ : ∃ a, x = some a := by
        cases x with
        | none => have := HX.out rfl; rw [this] at hjl; cases hjl
        | some a => exact ⟨a, rfl⟩
      obtain ⟨e0, e1, e2, e3, e4⟩ := (HC.out a rfl).2 j L[j] (List.getElem?_eq_getElem hjl)
      have hab : a.block < w.heap.size := (HC.out a rfl).1 (nil_not hjl)
      have hs : ∀ k, wr.heap[(a.add k).block]? = w.heap[(a.add k).block]? := fun k => by rw [add_block]; exact HB.out.block _ hab
      have d0 := cell_same (hs _) e0
      have d1 := cell_same (hs _) e1
      have d2 := cell_same (hs _) e2
      have d3 := cell_same (hs _) e3
      have d4 := cell_same (hs _) e4
      rw [add_lit _ _ _ (by decide)] at d1 d2 d3 d4
      clear e0 e1 e2 e3 e4 hs
      have HI := Lib.hid (HIT.out j hjl)
      have HJ := Lib.hid (show L[j].nm ≠ s → ∀ k (hk : k < L.length), k < j + 1 → L[k].nm ≠ s from fun e k hk h => by
        rcases Nat.lt_or_ge k j with z | z
        · exact HA.out k hk z
        · obtain rfl : k = j := by omega
          exact e)
      have HBA := Lib.hid (fun o => HB.out.alloc HB.out.size o)
      obtain ⟨bb, hbb⟩ : ∃ bb, bb = L[j] := ⟨_, rfl⟩
      rw [← hbb] at d0 d1 d2 d3 d4 HI HJ
      clear hbb HIT HEND HA HB HC
      obtain ⟨nm, t, fn, sv, bv⟩ := bb
      simp only at d0 d1 d2 d3 d4 HI HJ
      by_cases q1 : nm = s
      · have HR := Lib.hid (HI.out q1)
        subst q1
        have b0 : ((tx nm).toList == (tx nm).toList) = true := by simp
        clear HI HJ
        go_wp2
        go_ret
        exact ⟨ret_bool HR.out.symm, HBA.out _⟩
      · have HR := Lib.hid (HJ.out q1)
        have b0 : ((tx nm).toList == (tx s).toList) = false := by rw [tx_beq]; simpa using q1
        clear HI HJ q1
        go_wp2
        go_roundg (gk - 1)
        case measure => omega
        case rel => exact ⟨j + 1, by omega, by go_num, HR, Lib.hid (HBA.out _)⟩
    · have HR := Lib.hid (HEND.out (fun k hk => HA.out k hk (by have := HN.out; omega)))
      clear HIT HEND HA HC HX
      go_wp2
      go_ret
      exact ⟨ret_bool HR.out.symm, HB.out⟩
theorem bind_end {fn : Func} {p : Tmp} (h : fn.results = #[.cell p 96]) (tmps : Array Value) (w : World) (g : Nat) (v0 v1 v2 v3 v4 : Value) (hp : tmps.getD p undef = .pointer (some ⟨g, 0, none⟩))
    (hg : w.heap[g]? = some (.cells #[v0, v1, v2, v3, v4] 96 (0, 0))) : (results fn tmps).run Tryz.prog w = .ok (.agg #[v0, v1, v2, v3, v4]) w :=
  results_cell h tmps w g 96 _ _ _ hp hg Tryz.underlying96 rfl (by kernel_rfl)
/-- A block of five cells. -/
def B5 (W : World) (b : Nat) (t : TypeId) (v0 v1 v2 v3 v4 : Value) : Prop := W.heap[b]? = some (.cells #[v0, v1, v2, v3, v4] t (0, 0))
theorem B5.lt {W : World} {b t : Nat} {v0 v1 v2 v3 v4 : Value} (h : B5 W b t v0 v1 v2 v3 v4) : b < W.heap.size := (Array.getElem?_eq_some_iff.1 h).1
theorem B5.below {W W' : World} {b t : Nat} {v0 v1 v2 v3 v4 : Value} (h : B5 W b t v0 v1 v2 v3 v4) (hb : Below W.heap.size W W') : B5 W' b t v0 v1 v2 v3 v4 := (hb.block b h.lt).trans h
theorem B5.cells {W : World} {b t : Nat} {v0 v1 v2 v3 v4 : Value} (h : B5 W b t v0 v1 v2 v3 v4) : W.cell? ⟨b, 0, none⟩ = some v0 ∧ W.cell? ⟨b, 1, none⟩ = some v1 ∧ W.cell? ⟨b, 2, none⟩ = some v2 ∧ W.cell? ⟨b, 3, none⟩ = some v3 ∧ W.cell? ⟨b, 4, none⟩ = some v4 := by
  unfold B5 at h
  exact ⟨by simp [World.cell?, h], by simp [World.cell?, h], by simp [World.cell?, h], by simp [World.cell?, h], by simp [World.cell?, h]⟩
theorem B5.fr {W : World} {b t : Nat} {v0 v1 v2 v3 v4 : Value} (h : B5 W b t v0 v1 v2 v3 v4) (j : Nat) : W.frozen? ⟨b, j, none⟩ = false := by unfold B5 at h; simp [World.frozen?, h]
def put5 (W : World) (b : Nat) (v0 v1 v2 v3 v4 : Value) : World := ((((W.setCell ⟨b, 0, none⟩ v0).setCell ⟨b, 1, none⟩ v1).setCell ⟨b, 2, none⟩ v2).setCell ⟨b, 3, none⟩ v3).setCell ⟨b, 4, none⟩ v4
theorem put5_other {W : World} {b j : Nat} {v0 v1 v2 v3 v4 : Value} (h : j ≠ b) : (put5 W b v0 v1 v2 v3 v4).heap[j]? = W.heap[j]? := by
  unfold put5
  rw [set_other h, set_other h, set_other h, set_other h, set_other h]
theorem B5.put {W : World} {b t : Nat} {u0 u1 u2 u3 u4 v0 v1 v2 v3 v4 : Value} (h : B5 W b t u0 u1 u2 u3 u4) : B5 (put5 W b v0 v1 v2 v3 v4) b t v0 v1 v2 v3 v4 := by
  unfold B5 put5
  rw [set_block (set_block (set_block (set_block (set_block h _) _) _) _) _]
  rfl
theorem below_put5 {w W : World} {b : Nat} (h : Below w.heap.size w W) (hb : w.heap.size ≤ b) (v0 v1 v2 v3 v4 : Value) : Below w.heap.size w (put5 W b v0 v1 v2 v3 v4) :=
  ((((h.setCell (p := ⟨b, 0, none⟩) hb _).setCell (p := ⟨b, 1, none⟩) hb _).setCell (p := ⟨b, 2, none⟩) hb _).setCell (p := ⟨b, 3, none⟩) hb _).setCell (p := ⟨b, 4, none⟩) hb _
def bndV (b : Bnd) : Value := .agg #[.string (tx b.nm), .int .i64 b.v.t, .float .f64 b.v.n, .string (tx b.v.s), .bool b.v.b]
set_option maxRecDepth 100000 in
set_option maxHeartbeats 8000000 in
theorem dbind (f : Fld) (xo : Option Addr) (co : Nat) (xl : Option Addr) (cl : Nat) (w : World) :
    Calls Tryz.prog 33 #[(f.fl xo co xl cl).v] w fun e w' => e = .returned (bndV (bndF f)) ∧ Below w.heap.size w w' := by
  obtain ⟨R, hR⟩ : ∃ R, R = bndV (bndF f) := ⟨_, rfl⟩
  rw [← hR]
  obtain ⟨F, hF⟩ : ∃ F, F = f.fl xo co xl cl := ⟨_, rfl⟩
  have HTY : Hid (∀ W, Calls Tryz.prog 51 #[.int .i64 F.k] W fun e w' => e = .returned (.int .i64 (tyK f.k : Nat)) ∧ W = w') := Lib.hid (by rw [hF]; exact fun W => dTypeOf f.k W)
  have HR : Hid (R = .agg #[.string F.nm, .int .i64 (tyK f.k : Nat), .float .f64 0, .string ⟨#[]⟩, .bool false]) := Lib.hid (by rw [hF, hR]; rfl)
  rw [← hF]
  clear hR hF
  unfold FL.v
  obtain ⟨B1, hB1⟩ : ∃ W1, W1 = (w.alloc (.cells F.a 66)).alloc (.cells #[.string ⟨#[]⟩, .int .i64 0, .float .f64 0, .string ⟨#[]⟩, .bool false] 96) := ⟨_, rfl⟩
  have hbl : Below w.heap.size w B1 := by rw [hB1]; exact ((Below.refl _ _).alloc (Nat.le_refl _) _).alloc (by simp) _
  have HFB : Hid (FLB B1 w.heap.size F) := Lib.hid (by rw [hB1]; exact (heap_alloc_old _ _ (by simp)).trans (heap_alloc_new _ _))
  have HBB : Hid (B1.heap[w.heap.size + 1]? = some (.cells #[.string ⟨#[]⟩, .int .i64 0, .float .f64 0, .string ⟨#[]⟩, .bool false] 96 (0, 0))) := Lib.hid (by rw [hB1]; exact heap_at (heap_alloc_new _ _) (by simp))
  unfold FL.a at hB1 ⊢
  have HBL := Lib.hid hbl
  clear hbl
  go_enter Tryz.func33, Tryz.ntmps33
  go_upto_region 1 with (fail)
  rw [← hB1]
  obtain ⟨c0, c1, _⟩ := HFB.out.cells
  have k0 : B1.drew.cell? ⟨w.heap.size, 0, none⟩ = some (.int .i64 F.k) := c0
  have k1 : B1.drew.cell? ⟨w.heap.size, 1, none⟩ = some (.string F.nm) := c1
  have HBD : Hid (B5 B1 (w.heap.size + 1) 96 (.string ⟨#[]⟩) (.int .i64 0) (.float .f64 0) (.string ⟨#[]⟩) (.bool false)) := HBB
  obtain ⟨d0, d1, d2, d3, d4⟩ := HBD.out.cells
  have f0 := HBD.out.fr 0
  have f1 := HBD.out.fr 1
  have f2 := HBD.out.fr 2
  have f3 := HBD.out.fr 3
  have f4 := HBD.out.fr 4
  have HEN : Hid (Below w.heap.size w (put5 B1 (w.heap.size + 1) (.string F.nm) (.int .i64 (tyK f.k : Nat)) (.float .f64 0) (.string ⟨#[]⟩) (.bool false)).drew) := Lib.hid (below_put5 HBL.out (Nat.le_succ w.heap.size) _ _ _ _ _).drew
  have HBP : Hid ((put5 B1 (w.heap.size + 1) (.string F.nm) (.int .i64 (tyK f.k : Nat)) (.float .f64 0) (.string ⟨#[]⟩) (.bool false)).drew.heap[w.heap.size + 1]? = some (.cells #[.string F.nm, .int .i64 (tyK f.k : Nat), .float .f64 0, .string ⟨#[]⟩, .bool false] 96 (0, 0))) := Lib.hid HBD.out.put
  unfold put5 at HEN HBP
  clear hB1 c0 c1 HBB
  go_region_with (go_at_call 51; refine (HTY.out _).mono ?_; rintro e w2 ⟨rfl, rfl⟩)
  all_goals
    go_wp2
    refine bodyPost_ret (bind_end rfl _ _ (w.heap.size + 1) _ _ _ _ _ rfl HBP.out) rfl ⟨by rw [HR.out], HEN.out⟩
end Go.Proofs.YtdomglkcfecnnaaGreat
