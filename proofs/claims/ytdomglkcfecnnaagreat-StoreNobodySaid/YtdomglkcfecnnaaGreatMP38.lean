/- Own texts, merged: DG, DH, DI. -/
import Derived.Deep.RegionHeld3
import Derived.Test.YtdomglkcfecnnaaGreatH8
import Derived.Test.YtdomglkcfecnnaaGreatMP27
import Derived.Test.YtdomglkcfecnnaaGreatMP30
import Derived.Test.YtdomglkcfecnnaaGreatMP33
import Derived.Test.YtdomglkcfecnnaaGreatMP37
/- Walk: desc: placed. -/
namespace Go.Proofs.YtdomglkcfecnnaaGreat
open Go.RowKit Go.Shelf
attribute [local go_sem] run_store_float
/-- Why a field may not stand behind others. -/
def placedE (L : List Bnd) (f : Fld) : Nat :=
  if fieldP f ≠ 0 then fieldP f else if namedB L f.nm = true then 7 else if f.sh ≠ [] ∧ truthE L f.sh ≠ 0 then truthE L f.sh else if f.ck ≠ [] then truthE [bndF f] f.ck else 0
theorem bnd_one (W : World) (b : Bnd) : BndV (W.alloc (.cells #[.string (tx b.nm), .int .i64 b.v.t, .float .f64 b.v.n, .string (tx b.v.s), .bool b.v.b] 96)) (.slice (some ⟨W.heap.size, 0, none⟩) 1 1) [b] := by
  have h : B5 (W.alloc (.cells #[.string (tx b.nm), .int .i64 b.v.t, .float .f64 b.v.n, .string (tx b.v.s), .bool b.v.b] 96)) W.heap.size 96 (.string (tx b.nm)) (.int .i64 b.v.t) (.float .f64 b.v.n) (.string (tx b.v.s)) (.bool b.v.b) := heap_alloc_new _ _
  obtain ⟨c0, c1, c2, c3, c4⟩ := h.cells
  refine ⟨_, 1, rfl, Nat.le_refl _, fun e => (by cases e), fun a ha => ?_⟩
  cases ha
  refine ⟨fun _ => h.lt, fun i b' hi => ?_⟩
  have : i = 0 := by have := (List.getElem?_eq_some_iff.1 hi).1; simp at this; omega
  subst this
  obtain rfl : b = b' := by simpa using hi
  exact ⟨c0, c1, c2, c3, c4⟩
set_option maxRecDepth 100000 in
set_option maxHeartbeats 16000000 in
theorem dplaced (f : Fld) (hf : FOk f) (L : List Bnd) (hL : L.length ≤ 1000000) (vb : Value) (xo : Option Addr) (co : Nat) (xl : Option Addr) (cl : Nat) (w : World) (hm : FM w f xo co xl cl) (hb : BndV w vb L) :
    Calls Tryz.prog 32 #[(f.fl xo co xl cl).v, vb] w fun e w' => e = .returned (.int .i64 (placedE L f : Nat)) ∧ Below w.heap.size w w' := by
  obtain ⟨R, hR⟩ : ∃ R, R = placedE L f := ⟨_, rfl⟩
  rw [← hR]
  unfold placedE at hR
  obtain ⟨bx, bn, bc, rfl⟩ := hb.agg
  obtain ⟨F, hF⟩ : ∃ F, F = f.fl xo co xl cl := ⟨_, rfl⟩
  have HFD : Hid (∀ W, Below w.heap.size w W → Calls Tryz.prog 49 #[.agg #[.int .i64 F.k, .string F.nm, .string F.lb, .slice F.xo F.no F.co, .int .i64 F.mn, .int .i64 F.mx, .float .f64 F.lo, .float .f64 F.hi, .float .f64 F.st, .string F.ds, .int .i64 F.dn, .bool F.db, .slice F.xl F.nl F.cl, .float .f64 F.df, .string F.sh, .string F.ck]] W fun e w' => e = .returned (.int .i64 (fieldP f : Nat)) ∧ Below W.heap.size W w') := Lib.hid (by rw [hF]; exact fun W h => dField f hf xo co xl cl W (hm.below h))
  have HNM : Hid (∀ W, Below w.heap.size w W → Calls Tryz.prog 50 #[.string F.nm, .slice bx bn bc] W fun e w' => e = .returned (.bool (namedB L f.nm)) ∧ Below W.heap.size W w') := Lib.hid (by rw [hF]; exact fun W h => dnamed f.nm _ L hL W (hb.below h))
  have HTS : Hid (∀ W, Below w.heap.size w W → Calls Tryz.prog 34 #[.string F.sh, .slice bx bn bc] W fun e w' => e = .returned (.int .i64 (truthE L f.sh : Nat)) ∧ Below W.heap.size W w') := Lib.hid (by rw [hF]; exact fun W h => dtruth L hL _ f.sh hf.sh W (hb.below h))
  have HTC : Hid (∀ W v, BndV W v [bndF f] → Calls Tryz.prog 34 #[.string F.ck, v] W fun e w' => e = .returned (.int .i64 (truthE [bndF f] f.ck : Nat)) ∧ Below W.heap.size W w') := Lib.hid (by rw [hF]; exact fun W v h => dtruth [bndF f] (by simp) v f.ck hf.ck W h)
  have HBI : Hid (∀ W, Calls Tryz.prog 33 #[.agg #[.int .i64 F.k, .string F.nm, .string F.lb, .slice F.xo F.no F.co, .int .i64 F.mn, .int .i64 F.mx, .float .f64 F.lo, .float .f64 F.hi, .float .f64 F.st, .string F.ds, .int .i64 F.dn, .bool F.db, .slice F.xl F.nl F.cl, .float .f64 F.df, .string F.sh, .string F.ck]] W fun e w' => e = .returned (.agg #[.string (tx f.nm), .int .i64 (tyK f.k : Nat), .float .f64 0, .string (tx []), .bool false]) ∧ Below W.heap.size W w') := Lib.hid (by rw [hF]; exact fun W => dbind f xo co xl cl W)
  have HES : Hid (F.sh.toList.isEmpty = decide (f.sh = [])) := Lib.hid (by rw [hF]; exact isEmpty_tx f.sh)
  have HEC : Hid (F.ck.toList.isEmpty = decide (f.ck = [])) := Lib.hid (by rw [hF]; exact isEmpty_tx f.ck)
  rw [← hF]
  generalize fieldP f = E1 at hR HFD
  generalize namedB L f.nm = NB at hR HNM
  generalize truthE L f.sh = E2 at hR HTS
  generalize truthE [bndF f] f.ck = E3 at hR HTC
  have HR := Lib.hid hR
  clear hF hR hm hf hb hL
  unfold FL.v
  obtain ⟨B1, hB1⟩ : ∃ W1, W1 = w.alloc (.cells F.a 66) := ⟨_, rfl⟩
  have hbl : Below w.heap.size w B1 := by rw [hB1]; exact (Below.refl _ _).alloc (Nat.le_refl _) _
  have HFB : Hid (FLB B1 w.heap.size F) := Lib.hid (by rw [hB1]; exact heap_alloc_new _ _)
  unfold FL.a at hB1 ⊢
  have HBL := Lib.hid hbl
  clear hbl
  obtain ⟨c0, c1, c2, c3, c4, c5, c6, c7, c8, c9, c10, c11, c12, c13, c14, c15⟩ := HFB.out.cells
  have hlt := HFB.out.lt
  go_enter Tryz.func32, Tryz.ntmps32
  go_wp2_with (first | (go_at_call 49; fail))
  rw [← hB1]
  go_at_call 49
  refine (HFD.out _ HBL.out).mono ?_
  rintro e w2 ⟨rfl, hb2⟩
  replace HFB := Lib.hid (HFB.out.below hb2)
  replace HBL := Lib.hid (HBL.out.trans (below_le hb2 HBL.out.size))
  clear hb2 hB1 HFD c0 c1 c2 c3 c4 c5 c6 c7 c8 c9 c10 c11 c12 c13 c14 c15 hlt
  by_cases h1 : E1 = 0
  case neg =>
    have HR2 : Hid (R = E1) := Lib.hid (by rw [HR.out, if_pos h1])
    have t1 : ((E1 : Int) != 0) = true := by simpa using (show ¬ ((E1 : Int) = 0) by omega)
    clear HR h1
    go_wp2
    go_ret
    exact ⟨by rw [HR2.out]; rfl, HBL.out⟩
  have HR1 : Hid (R = if NB = true then 7 else if f.sh ≠ [] ∧ E2 ≠ 0 then E2 else if f.ck ≠ [] then E3 else 0) := Lib.hid (by rw [HR.out, if_neg (by omega)])
  subst h1
  obtain ⟨c0, c1, c2, c3, c4, c5, c6, c7, c8, c9, c10, c11, c12, c13, c14, c15⟩ := HFB.out.cells
  have hlt := HFB.out.lt
  clear HR
  go_wp2_with (first | (go_at_call 50; fail))
  go_at_call 50
  refine (HNM.out _ HBL.out).mono ?_
  rintro e w3 ⟨rfl, hb3⟩
  replace HFB := Lib.hid (HFB.out.below hb3)
  replace HBL := Lib.hid (HBL.out.trans (below_le hb3 HBL.out.size))
  clear hb3 HNM c0 c1 c2 c3 c4 c5 c6 c7 c8 c9 c10 c11 c12 c13 c14 c15 hlt
  cases NB
  case true =>
    have HR2 : Hid (R = 7) := Lib.hid (by rw [HR1.out, if_pos rfl])
    clear HR1
    go_wp2
    go_ret
    exact ⟨by rw [HR2.out]; rfl, HBL.out⟩
  rw [if_neg (by simp)] at HR1
  obtain ⟨c0, c1, c2, c3, c4, c5, c6, c7, c8, c9, c10, c11, c12, c13, c14, c15⟩ := HFB.out.cells
  have hlt := HFB.out.lt
  by_cases hs : f.sh = []
  · have HR3 : Hid (R = if f.ck ≠ [] then E3 else 0) := Lib.hid (by rw [HR1.out, if_neg (fun q => q.1 hs)])
    have he := HES.out
    rw [decide_eq_true hs] at he
    clear HR1 HES HTS hs
    by_cases hc : f.ck = []
    · have HR2 : Hid (R = 0) := Lib.hid (by rw [HR3.out, if_neg (fun q => q hc)])
      have he2 := HEC.out
      rw [decide_eq_true hc] at he2
      clear HR3 HEC hc
      go_wp2
      go_ret
      exact ⟨by rw [HR2.out]; rfl, HBL.out⟩
    · have HR2 : Hid (R = E3) := Lib.hid (by rw [HR3.out, if_pos hc])
      have he2 := HEC.out
      rw [decide_eq_false hc] at he2
      clear HR3 HEC hc
      have HSC : Hid (∀ W, Below w3.heap.size w3 W → W.cell? ⟨w.heap.size, 0, none⟩ = some (.int .i64 F.k) ∧ W.cell? ⟨w.heap.size, 1, none⟩ = some (.string F.nm) ∧ W.cell? ⟨w.heap.size, 2, none⟩ = some (.string F.lb) ∧ W.cell? ⟨w.heap.size, 3, none⟩ = some (.slice F.xo F.no F.co) ∧ W.cell? ⟨w.heap.size, 4, none⟩ = some (.int .i64 F.mn) ∧ W.cell? ⟨w.heap.size, 5, none⟩ = some (.int .i64 F.mx) ∧ W.cell? ⟨w.heap.size, 6, none⟩ = some (.float .f64 F.lo) ∧ W.cell? ⟨w.heap.size, 7, none⟩ = some (.float .f64 F.hi) ∧ W.cell? ⟨w.heap.size, 8, none⟩ = some (.float .f64 F.st) ∧ W.cell? ⟨w.heap.size, 9, none⟩ = some (.string F.ds) ∧ W.cell? ⟨w.heap.size, 10, none⟩ = some (.int .i64 F.dn) ∧ W.cell? ⟨w.heap.size, 11, none⟩ = some (.bool F.db) ∧ W.cell? ⟨w.heap.size, 12, none⟩ = some (.slice F.xl F.nl F.cl) ∧ W.cell? ⟨w.heap.size, 13, none⟩ = some (.float .f64 F.df) ∧ W.cell? ⟨w.heap.size, 14, none⟩ = some (.string F.sh) ∧ W.cell? ⟨w.heap.size, 15, none⟩ = some (.string F.ck)) := Lib.hid (fun W h => (HFB.out.below h).cells)
      have HS0 := Lib.hid (HSC.out _ (Below.refl _ _).drew)
      go_upto_region 11 with (fail)
      refine wp_region_held (S := (fun w' => w'.cell? ⟨w.heap.size, 0, none⟩ = some (.int .i64 F.k) ∧ w'.cell? ⟨w.heap.size, 1, none⟩ = some (.string F.nm) ∧ w'.cell? ⟨w.heap.size, 2, none⟩ = some (.string F.lb) ∧ w'.cell? ⟨w.heap.size, 3, none⟩ = some (.slice F.xo F.no F.co) ∧ w'.cell? ⟨w.heap.size, 4, none⟩ = some (.int .i64 F.mn) ∧ w'.cell? ⟨w.heap.size, 5, none⟩ = some (.int .i64 F.mx) ∧ w'.cell? ⟨w.heap.size, 6, none⟩ = some (.float .f64 F.lo) ∧ w'.cell? ⟨w.heap.size, 7, none⟩ = some (.float .f64 F.hi) ∧ w'.cell? ⟨w.heap.size, 8, none⟩ = some (.float .f64 F.st) ∧ w'.cell? ⟨w.heap.size, 9, none⟩ = some (.string F.ds) ∧ w'.cell? ⟨w.heap.size, 10, none⟩ = some (.int .i64 F.dn) ∧ w'.cell? ⟨w.heap.size, 11, none⟩ = some (.bool F.db) ∧ w'.cell? ⟨w.heap.size, 12, none⟩ = some (.slice F.xl F.nl F.cl) ∧ w'.cell? ⟨w.heap.size, 13, none⟩ = some (.float .f64 F.df) ∧ w'.cell? ⟨w.heap.size, 14, none⟩ = some (.string F.sh) ∧ w'.cell? ⟨w.heap.size, 15, none⟩ = some (.string F.ck))) (by kernel_rfl) ?_
      change wpAnyH _ _ _ _ _ _ _ _ (World.drew _)
      refine wpAnyH_take (i := 0) (v := _) rfl (by kernel_rfl) (by kernel_rfl) (by kernel_rfl) (fun _ _ _ h => h) (Or.inl ⟨by rfl, by intro w hSw; (try dsimp only at hSw); go_simp; try (with_reducible rfl)⟩) HS0.out ?_
      try simp only [Act.put, List.setIfInBounds_toArray, List.set_cons_zero, List.set_cons_succ, List.getElem_toArray, List.getElem_cons_zero]
      refine wpAnyH_take (i := 1) (v := _) rfl (by kernel_rfl) (by kernel_rfl) (by kernel_rfl) (fun _ _ _ h => h) (Or.inl ⟨by rfl, by intro w hSw; (try dsimp only at hSw); go_simp; try (with_reducible rfl)⟩) HS0.out ?_
      try simp only [Act.put, List.setIfInBounds_toArray, List.set_cons_zero, List.set_cons_succ, List.getElem_toArray, List.getElem_cons_succ, List.getElem_cons_zero]
      refine wpAnyH_take (i := 2) (v := _) rfl (by kernel_rfl) (by kernel_rfl) (by kernel_rfl) (fun _ _ _ h => h) (Or.inl ⟨by rfl, by intro w hSw; (try dsimp only at hSw); go_simp; try (with_reducible rfl)⟩) HS0.out ?_
      try simp only [Act.put, List.setIfInBounds_toArray, List.set_cons_zero, List.set_cons_succ, List.getElem_toArray, List.getElem_cons_succ, List.getElem_cons_zero]
      refine wpAnyH_ready (rs := [3]) (by kernel_rfl) (by simp) ?_
      refine AllReadyH.cons rfl (fun K hK => ?_) AllReadyH.nil
      go_simp
      go_at_call 33
      refine (HBI.out _).mono ?_
      rintro e w6 ⟨rfl, hb6⟩
      have HB6 : Hid (Below w3.heap.size w3 w6) := Lib.hid ((Below.refl _ _).drew.trans hb6)
      have HS6 := Lib.hid (HSC.out _ HB6.out)
      clear hb6
      refine hK.out _ _ HS6.out (fun _ => ?_)
      clear hK K
      try simp only [Act.put, List.setIfInBounds_toArray, List.set_cons_zero, List.set_cons_succ, List.getElem_toArray, List.getElem_cons_succ, List.getElem_cons_zero]
      refine wpAnyH_ready (rs := [4]) (by kernel_rfl) (by simp) ?_
      refine AllReadyH.cons rfl (fun K hK => ?_) AllReadyH.nil
      go_simp
      have HB7 := Lib.hid (HB6.out.alloc HB6.out.size (.cells #[.string (tx f.nm), .int .i64 (tyK f.k : Nat), .float .f64 0, .string (tx []), .bool false] 96))
      have HS7 := Lib.hid (HSC.out _ HB7.out)
      have HV7 := Lib.hid (bnd_one w6 (bndF f))
      unfold bndF at HV7
      refine hK.out _ _ HS7.out (fun _ => ?_)
      clear hK K
      try simp only [Act.put, List.setIfInBounds_toArray, List.set_cons_zero, List.set_cons_succ, List.getElem_toArray, List.getElem_cons_succ, List.getElem_cons_zero]
      refine wpAnyH_ready (rs := [5]) (by kernel_rfl) (by simp) ?_
      refine AllReadyH.cons rfl (fun K hK => ?_) AllReadyH.nil
      go_simp
      go_at_call 34
      refine (HTC.out _ _ HV7.out).mono ?_
      rintro e w8 ⟨rfl, hb8⟩
      have HB8 := Lib.hid (HB7.out.trans (below_le hb8 HB7.out.size))
      have HS8 := Lib.hid (HSC.out _ HB8.out)
      clear hb8
      refine hK.out _ _ HS8.out (fun _ => ?_)
      clear hK K
      try simp only [Act.put, List.setIfInBounds_toArray, List.set_cons_zero, List.set_cons_succ, List.getElem_toArray, List.getElem_cons_succ, List.getElem_cons_zero]
      refine wpAnyH_take (i := 6) (v := _) rfl (by kernel_rfl) (by kernel_rfl) (by kernel_rfl) (fun _ _ _ h => h) (Or.inl ⟨by rfl, by intro w hSw; (try dsimp only at hSw); go_simp; try (with_reducible rfl)⟩) HS8.out ?_
      try simp only [Act.put, List.setIfInBounds_toArray, List.set_cons_zero, List.set_cons_succ, List.getElem_toArray, List.getElem_cons_succ, List.getElem_cons_zero]
      refine wpAnyH_done (by kernel_rfl) ?_ _
      go_wp2
      go_ret
      exact ⟨by rw [HR2.out]; rfl, HBL.out.trans (below_le HB8.out HBL.out.size)⟩
  · have he := HES.out
    rw [decide_eq_false hs] at he
    clear HES
    go_wp2_with (first | (go_at_call 34; fail))
    go_at_call 34
    refine (HTS.out _ HBL.out).mono ?_
    rintro e w4 ⟨rfl, hb4⟩
    replace HFB := Lib.hid (HFB.out.below hb4)
    replace HBL := Lib.hid (HBL.out.trans (below_le hb4 HBL.out.size))
    clear hb4 HTS c0 c1 c2 c3 c4 c5 c6 c7 c8 c9 c10 c11 c12 c13 c14 c15 hlt
    by_cases h2 : E2 = 0
    case neg =>
      have HR2 : Hid (R = E2) := Lib.hid (by rw [HR1.out, if_pos ⟨hs, h2⟩])
      have t1 : ((E2 : Int) != 0) = true := by simpa using (show ¬ ((E2 : Int) = 0) by omega)
      clear HR1 h2 hs
      go_wp2
      go_ret
      exact ⟨by rw [HR2.out]; rfl, HBL.out⟩
    have HR3 : Hid (R = if f.ck ≠ [] then E3 else 0) := Lib.hid (by rw [HR1.out, if_neg (fun q => q.2 h2)])
    subst h2
    clear HR1 hs he
    obtain ⟨c0, c1, c2, c3, c4, c5, c6, c7, c8, c9, c10, c11, c12, c13, c14, c15⟩ := HFB.out.cells
    have hlt := HFB.out.lt
    by_cases hc : f.ck = []
    · have HR2 : Hid (R = 0) := Lib.hid (by rw [HR3.out, if_neg (fun q => q hc)])
      have he2 := HEC.out
      rw [decide_eq_true hc] at he2
      clear HR3 HEC hc
      go_wp2
      go_ret
      exact ⟨by rw [HR2.out]; rfl, HBL.out⟩
    · have HR2 : Hid (R = E3) := Lib.hid (by rw [HR3.out, if_pos hc])
      have he2 := HEC.out
      rw [decide_eq_false hc] at he2
      clear HR3 HEC hc
      have HSC : Hid (∀ W, Below w4.heap.size w4 W → W.cell? ⟨w.heap.size, 0, none⟩ = some (.int .i64 F.k) ∧ W.cell? ⟨w.heap.size, 1, none⟩ = some (.string F.nm) ∧ W.cell? ⟨w.heap.size, 2, none⟩ = some (.string F.lb) ∧ W.cell? ⟨w.heap.size, 3, none⟩ = some (.slice F.xo F.no F.co) ∧ W.cell? ⟨w.heap.size, 4, none⟩ = some (.int .i64 F.mn) ∧ W.cell? ⟨w.heap.size, 5, none⟩ = some (.int .i64 F.mx) ∧ W.cell? ⟨w.heap.size, 6, none⟩ = some (.float .f64 F.lo) ∧ W.cell? ⟨w.heap.size, 7, none⟩ = some (.float .f64 F.hi) ∧ W.cell? ⟨w.heap.size, 8, none⟩ = some (.float .f64 F.st) ∧ W.cell? ⟨w.heap.size, 9, none⟩ = some (.string F.ds) ∧ W.cell? ⟨w.heap.size, 10, none⟩ = some (.int .i64 F.dn) ∧ W.cell? ⟨w.heap.size, 11, none⟩ = some (.bool F.db) ∧ W.cell? ⟨w.heap.size, 12, none⟩ = some (.slice F.xl F.nl F.cl) ∧ W.cell? ⟨w.heap.size, 13, none⟩ = some (.float .f64 F.df) ∧ W.cell? ⟨w.heap.size, 14, none⟩ = some (.string F.sh) ∧ W.cell? ⟨w.heap.size, 15, none⟩ = some (.string F.ck)) := Lib.hid (fun W h => (HFB.out.below h).cells)
      have HS0 := Lib.hid (HSC.out _ (Below.refl _ _).drew)
      go_upto_region 11 with (fail)
      refine wp_region_held (S := (fun w' => w'.cell? ⟨w.heap.size, 0, none⟩ = some (.int .i64 F.k) ∧ w'.cell? ⟨w.heap.size, 1, none⟩ = some (.string F.nm) ∧ w'.cell? ⟨w.heap.size, 2, none⟩ = some (.string F.lb) ∧ w'.cell? ⟨w.heap.size, 3, none⟩ = some (.slice F.xo F.no F.co) ∧ w'.cell? ⟨w.heap.size, 4, none⟩ = some (.int .i64 F.mn) ∧ w'.cell? ⟨w.heap.size, 5, none⟩ = some (.int .i64 F.mx) ∧ w'.cell? ⟨w.heap.size, 6, none⟩ = some (.float .f64 F.lo) ∧ w'.cell? ⟨w.heap.size, 7, none⟩ = some (.float .f64 F.hi) ∧ w'.cell? ⟨w.heap.size, 8, none⟩ = some (.float .f64 F.st) ∧ w'.cell? ⟨w.heap.size, 9, none⟩ = some (.string F.ds) ∧ w'.cell? ⟨w.heap.size, 10, none⟩ = some (.int .i64 F.dn) ∧ w'.cell? ⟨w.heap.size, 11, none⟩ = some (.bool F.db) ∧ w'.cell? ⟨w.heap.size, 12, none⟩ = some (.slice F.xl F.nl F.cl) ∧ w'.cell? ⟨w.heap.size, 13, none⟩ = some (.float .f64 F.df) ∧ w'.cell? ⟨w.heap.size, 14, none⟩ = some (.string F.sh) ∧ w'.cell? ⟨w.heap.size, 15, none⟩ = some (.string F.ck))) (by kernel_rfl) ?_
      change wpAnyH _ _ _ _ _ _ _ _ (World.drew _)
      refine wpAnyH_take (i := 0) (v := _) rfl (by kernel_rfl) (by kernel_rfl) (by kernel_rfl) (fun _ _ _ h => h) (Or.inl ⟨by rfl, by intro w hSw; (try dsimp only at hSw); go_simp; try (with_reducible rfl)⟩) HS0.out ?_
      try simp only [Act.put, List.setIfInBounds_toArray, List.set_cons_zero, List.set_cons_succ, List.getElem_toArray, List.getElem_cons_zero]
      refine wpAnyH_take (i := 1) (v := _) rfl (by kernel_rfl) (by kernel_rfl) (by kernel_rfl) (fun _ _ _ h => h) (Or.inl ⟨by rfl, by intro w hSw; (try dsimp only at hSw); go_simp; try (with_reducible rfl)⟩) HS0.out ?_
      try simp only [Act.put, List.setIfInBounds_toArray, List.set_cons_zero, List.set_cons_succ, List.getElem_toArray, List.getElem_cons_succ, List.getElem_cons_zero]
      refine wpAnyH_take (i := 2) (v := _) rfl (by kernel_rfl) (by kernel_rfl) (by kernel_rfl) (fun _ _ _ h => h) (Or.inl ⟨by rfl, by intro w hSw; (try dsimp only at hSw); go_simp; try (with_reducible rfl)⟩) HS0.out ?_
      try simp only [Act.put, List.setIfInBounds_toArray, List.set_cons_zero, List.set_cons_succ, List.getElem_toArray, List.getElem_cons_succ, List.getElem_cons_zero]
      refine wpAnyH_ready (rs := [3]) (by kernel_rfl) (by simp) ?_
      refine AllReadyH.cons rfl (fun K hK => ?_) AllReadyH.nil
      go_simp
      go_at_call 33
      refine (HBI.out _).mono ?_
      rintro e w6 ⟨rfl, hb6⟩
      have HB6 : Hid (Below w4.heap.size w4 w6) := Lib.hid ((Below.refl _ _).drew.trans hb6)
      have HS6 := Lib.hid (HSC.out _ HB6.out)
      clear hb6
      refine hK.out _ _ HS6.out (fun _ => ?_)
      clear hK K
      try simp only [Act.put, List.setIfInBounds_toArray, List.set_cons_zero, List.set_cons_succ, List.getElem_toArray, List.getElem_cons_succ, List.getElem_cons_zero]
      refine wpAnyH_ready (rs := [4]) (by kernel_rfl) (by simp) ?_
      refine AllReadyH.cons rfl (fun K hK => ?_) AllReadyH.nil
      go_simp
      have HB7 := Lib.hid (HB6.out.alloc HB6.out.size (.cells #[.string (tx f.nm), .int .i64 (tyK f.k : Nat), .float .f64 0, .string (tx []), .bool false] 96))
      have HS7 := Lib.hid (HSC.out _ HB7.out)
      have HV7 := Lib.hid (bnd_one w6 (bndF f))
      unfold bndF at HV7
      refine hK.out _ _ HS7.out (fun _ => ?_)
      clear hK K
      try simp only [Act.put, List.setIfInBounds_toArray, List.set_cons_zero, List.set_cons_succ, List.getElem_toArray, List.getElem_cons_succ, List.getElem_cons_zero]
      refine wpAnyH_ready (rs := [5]) (by kernel_rfl) (by simp) ?_
      refine AllReadyH.cons rfl (fun K hK => ?_) AllReadyH.nil
      go_simp
      go_at_call 34
      refine (HTC.out _ _ HV7.out).mono ?_
      rintro e w8 ⟨rfl, hb8⟩
      have HB8 := Lib.hid (HB7.out.trans (below_le hb8 HB7.out.size))
      have HS8 := Lib.hid (HSC.out _ HB8.out)
      clear hb8
      refine hK.out _ _ HS8.out (fun _ => ?_)
      clear hK K
      try simp only [Act.put, List.setIfInBounds_toArray, List.set_cons_zero, List.set_cons_succ, List.getElem_toArray, List.getElem_cons_succ, List.getElem_cons_zero]
      refine wpAnyH_take (i := 6) (v := _) rfl (by kernel_rfl) (by kernel_rfl) (by kernel_rfl) (fun _ _ _ h => h) (Or.inl ⟨by rfl, by intro w hSw; (try dsimp only at hSw); go_simp; try (with_reducible rfl)⟩) HS8.out ?_
      try simp only [Act.put, List.setIfInBounds_toArray, List.set_cons_zero, List.set_cons_succ, List.getElem_toArray, List.getElem_cons_succ, List.getElem_cons_zero]
      refine wpAnyH_done (by kernel_rfl) ?_ _
      go_wp2
      go_ret
      exact ⟨by rw [HR2.out]; rfl, HBL.out.trans (below_le HB8.out HBL.out.size)⟩
end Go.Proofs.YtdomglkcfecnnaaGreat
/- Walks: desc: Fields and its iterator. -/
namespace Go.Proofs.YtdomglkcfecnnaaGreat
open Go.RowKit Go.Shelf
attribute [local go_sem] Oper.semAt_some
attribute [local go_sem] run_store_float
/-- A row of fields in memory, by their letters. -/
def FRow (W : World) (x : Option Addr) (q o : Nat) (Ls : List FL) : Prop :=
  Ls ≠ [] → x = some ⟨q, o, none⟩ ∧ q < W.heap.size ∧ ∀ i (h : i < Ls.length) j u, (Ls[i]).a[j]? = some u → W.cell? ⟨q, o + i * 16 + j, none⟩ = some u
theorem FRow.kept {W W' : World} {x : Option Addr} {q o : Nat} {Ls : List FL} (h : FRow W x q o Ls) (hz : W.heap.size ≤ W'.heap.size) (hk : q < W.heap.size → W'.heap[q]? = W.heap[q]?) : FRow W' x q o Ls := fun hn => by
  obtain ⟨h1, h2, h3⟩ := h hn
  exact ⟨h1, Nat.lt_of_lt_of_le h2 hz, fun i hi j u hu => (World.cell?_of_block (a := ⟨q, o + i * 16 + j, none⟩) (hk h2)).trans (h3 i hi j u hu)⟩
theorem FRow.below {W W' : World} {x : Option Addr} {q o : Nat} {Ls : List FL} (h : FRow W x q o Ls) (hb : Below W.heap.size W W') : FRow W' x q o Ls := h.kept hb.size (hb.block q)
def encF (Ls : List FL) (y : Fin Ls.length) : Array Value := #[.int .i64 (y.1 : Nat), (Ls[y.1]).v]
theorem dFields (v0 : ByteArray) (x1 : Option Addr) (n1 c1 : Nat) (x2 : Option Addr) (n2 c2 : Nat) (v3 : Int) (w : World) :
    Calls Tryz.prog 31 #[.agg #[.string v0, .slice x1 n1 c1, .slice x2 n2 c2, .int .i64 v3]] w fun e w' => e = .returned (.func (.func 48) #[] #[.pointer (some ⟨w.heap.size, 0, none⟩)]) ∧ w' = w.alloc (.cells #[.string v0, .slice x1 n1 c1, .slice x2 n2 c2, .int .i64 v3] 27) := by
  go_enter Tryz.func31, Tryz.ntmps31
  go_wp2
  go_ret
  exact ⟨rfl, rfl⟩
set_option maxRecDepth 100000 in
set_option maxHeartbeats 4000000 in
theorem fields_in (l p q o cap : Nat) (x : Option Addr) (Ls : List FL) (t : ByteArray) (v2 : Value) (rows : Int) (hL : Ls.length ≤ 1000000) (hcap : Ls.length ≤ cap) (W : World)
    (hp : W.heap[p]? = some (.cells #[.string t, .slice x Ls.length cap, v2, .int .i64 rows] 27 (0, 0))) (hq : FRow W x q o Ls) (hql : q < W.heap.size)
    (J Jx : List (Fin Ls.length) → World → Prop) (hA : AbidesFrom W.heap.size J)
    (hY : ∀ pre y W1, J pre W1 → pre.length < Ls.length → YieldAt Fence.wide 4 Tryz.prog l (encF Ls y) W1 fun e W' =>
      (e = .returned (.bool true) ∧ J (pre ++ [y]) W' ∧ KeepP p q W1 W') ∨ (e = .returned (.bool false) ∧ Jx (pre ++ [y]) W'))
    (hJ0 : J [] W) :
    CallsIn Fence.wide 5 Tryz.prog 48 #[.func (.yield l) #[] #[], .pointer (some ⟨p, 0, none⟩)] W fun e W' => (∃ v, e = .returned v) ∧
      ((∃ xs, xs.map (·.1) = List.range Ls.length ∧ J xs W') ∨ (∃ pre, (∃ k, k ≤ Ls.length ∧ 0 < k ∧ pre.map (·.1) = List.range k) ∧ Jx pre W')) := by
  have HY := Lib.hid hY
  have HA := Lib.hid hA
  have HP := Lib.hid hp
  have HQ := Lib.hid hq
  have HQL := Lib.hid hql
  have hpl : p < W.heap.size := (Array.getElem?_eq_some_iff.1 hp).1
  have HPL := Lib.hid hpl
  have HJ0 := Lib.hid hJ0
  have cp : W.cell? ⟨p, 1, none⟩ = some (.slice x Ls.length cap) := by simp [World.cell?, hp]
  clear hY hA hp hq hql hJ0
  obtain ⟨n, hn⟩ : ∃ n, n = Ls.length := ⟨_, rfl⟩
  have HN := Lib.hid hn
  rw [← hn] at hL hcap cp
  clear hn
  refine callsIn_of_wp Tryz.func48 rfl trivial ?_ rfl
  simp only [Tryz.ntmps48, List.size_toArray, List.length_cons, List.length_nil, Nat.reduceAdd, Nat.reduceSub, Array.replicate_succ, Array.replicate_zero, List.push_toArray, List.append_toArray, List.nil_append, List.cons_append]
  gi_wp2
  clear cp hpl
  gi_loopw [8] (fun i wy => ∃ (pre : List (Fin Ls.length)) (k : Nat), i = .int .i64 k ∧ k ≤ n ∧ Hid (pre.map (·.1) = List.range k) ∧ Hid (J pre wy) ∧ Hid (KeepP p q W wy)) (fun i _ => n - (intOf i).toNat)
  case atStart => exact ⟨[], 0, rfl, Nat.zero_le _, Lib.hid rfl, HJ0, Lib.hid (KeepP.refl _ _ _)⟩
  case round =>
    obtain ⟨pre, k, rfl, hk, HI, HJ, HK⟩ := hrel
    by_cases hlt : k < n
    · have hkl : k < Ls.length := by have := HN.out; omega
      obtain ⟨hx, _, hc⟩ := HQ.out (by intro e; rw [e] at hkl; cases hkl)
      subst hx
      have hcw : ∀ j u, (Ls[k]).a[j]? = some u → wr.cell? ⟨q, o + k * 16 + j, none⟩ = some u := fun j u hu => (World.cell?_of_block (a := ⟨q, o + k * 16 + j, none⟩) HK.out.bq).trans (hc k hkl j u hu)
      have HFV : Hid (encF Ls ⟨k, hkl⟩ = #[.int .i64 (k : Nat), (Ls[k]).v]) := Lib.hid rfl
      obtain ⟨F, hF⟩ : ∃ F, F = Ls[k] := ⟨_, rfl⟩
      rw [← hF] at hcw HFV
      have e0 := hcw 0 (.int .i64 F.k) rfl
      have e1 := hcw 1 (.string F.nm) rfl
      have e2 := hcw 2 (.string F.lb) rfl
      have e3 := hcw 3 (.slice F.xo F.no F.co) rfl
      have e4 := hcw 4 (.int .i64 F.mn) rfl
      have e5 := hcw 5 (.int .i64 F.mx) rfl
      have e6 := hcw 6 (.float .f64 F.lo) rfl
      have e7 := hcw 7 (.float .f64 F.hi) rfl
      have e8 := hcw 8 (.float .f64 F.st) rfl
      have e9 := hcw 9 (.string F.ds) rfl
      have e10 := hcw 10 (.int .i64 F.dn) rfl
      have e11 := hcw 11 (.bool F.db) rfl
      have e12 := hcw 12 (.slice F.xl F.nl F.cl) rfl
      have e13 := hcw 13 (.float .f64 F.df) rfl
      have e14 := hcw 14 (.string F.sh) rfl
      have e15 := hcw 15 (.string F.ck) rfl
      rw [Nat.add_zero] at e0
      have hal : ∀ ob, Below wr.heap.size wr (wr.alloc ob) := fun ob => (Below.refl _ _).alloc (Nat.le_refl _) _
      have HJ3 : Hid (∀ ob, J pre (wr.alloc ob)) := Lib.hid (fun ob => HA.out _ wr _ none HJ.out ⟨(hal ob).os, (hal ob).tape, (hal ob).output, (hal ob).size, fun i hi _ => (hal ob).block i hi⟩ (fun r e => by cases e))
      have HK3 : Hid (∀ ob, KeepP p q wr (wr.alloc ob)) := Lib.hid (fun ob => ⟨(hal ob).size, (hal ob).block _ (by have := HK.out.size; have := HPL.out; omega), (hal ob).block _ (by have := HK.out.size; have := HQL.out; omega)⟩)
      have HYY : Hid (∀ ob, YieldAt Fence.wide 4 Tryz.prog l (encF Ls ⟨k, hkl⟩) (wr.alloc ob) fun e W' => (e = .returned (.bool true) ∧ J (pre ++ [⟨k, hkl⟩]) W' ∧ KeepP p q (wr.alloc ob) W') ∨ (e = .returned (.bool false) ∧ Jx (pre ++ [⟨k, hkl⟩]) W')) := Lib.hid (fun ob => HY.out pre ⟨k, hkl⟩ _ (HJ3.out ob) (by have := congrArg List.length HI.out; simp at this; omega))
      rw [HFV.out] at HYY
      have HPR : Hid ((pre ++ [(⟨k, hkl⟩ : Fin Ls.length)]).map (·.1) = List.range (k + 1)) := Lib.hid (by rw [List.map_append, HI.out, List.range_succ]; rfl)
      have i1 : (0 : Int) ≤ (k : Int) := by omega
      have i2 : (k : Int) < (n : Int) := by omega
      unfold FL.v FL.a at HYY
      obtain ⟨fn, tmps, assign, body, hy, hR⟩ := HYY.out (.cells F.a 66)
      unfold FL.a at hy hR
      have HRR := Lib.hid hR
      clear hcw hF HFV hc hal HJ HI HA HQ HJ0 HYY hR
      gi_wp2
      refine HRR.out.mono ?_
      rintro e W3 (⟨rfl, hJ4, hk4⟩ | ⟨rfl, hJx4⟩)
      · have HJ4 := Lib.hid hJ4
        have HK4 := Lib.hid ((HK.out.trans (HK3.out _)).trans hk4)
        clear hJ4 hk4 HRR HJ3 HK3 e0 e1 e2 e3 e4 e5 e6 e7 e8 e9 e10 e11 e12 e13 e14 e15
        gi_wp2
        go_roundw
        case rel => exact ⟨_, k + 1, by go_num, by omega, HPR, HJ4, HK4⟩
        case measure => simp [intOf]; omega
      · have HJ4 := Lib.hid hJx4
        clear hJx4 HRR HJ3 HK3 e0 e1 e2 e3 e4 e5 e6 e7 e8 e9 e10 e11 e12 e13 e14 e15
        gi_wp2
        refine bodyPost_ret (results_none rfl _ _ _) rfl ?_
        exact ⟨⟨_, rfl⟩, .inr ⟨_, ⟨k + 1, by omega, by omega, HPR.out⟩, HJ4.out⟩⟩
    · obtain rfl : k = n := by omega
      have HE : Hid (pre.map (·.1) = List.range Ls.length ∧ J pre wr) := Lib.hid ⟨by rw [HI.out, HN.out], HJ.out⟩
      clear HI HJ HA HQ HJ0 HY
      gi_wp2
      go_end0
      exact ⟨⟨_, rfl⟩, .inl ⟨_, HE.out.1, HE.out.2⟩⟩
end Go.Proofs.YtdomglkcfecnnaaGreat
/- Check of forms: what it answers; early answers. -/
namespace Go.Proofs.YtdomglkcfecnnaaGreat
open Go.RowKit Go.Shelf
attribute [local go_sem] run_store_float
structure Des where
  t : Bs
  fs : List Fld
  rl : List Bs
  rows : Int
def fld0 : Fld := ⟨0, [], [], [], 0, 0, 0, 0, 0, ⟨[], 0, false, [], 0⟩, [], []⟩
def fldA (fs : List Fld) (i : Nat) : Fld := fs.getD i fld0
/-- The names of the first fields. -/
def bndsN (fs : List Fld) (k : Nat) : List Bnd := (List.range k).map (fun i => bndF (fldA fs i))
/-- Why a field may not stand where it does. -/
def badE (fs : List Fld) (i : Nat) : Nat := placedE (bndsN fs i) (fldA fs i)
/-- The first field that may not stand. -/
def badI (fs : List Fld) : Nat := firstNot (fun i => badE fs i == 0) fs.length
def badR (d : Des) : Nat := firstNot (fun j => truthE (bndsN d.fs d.fs.length) (d.rl.getD j []) == 0) d.rl.length
/-- May a form be? -/
def checkP (d : Des) : Int × Nat :=
  if ¬ (1 ≤ d.rows ∧ d.rows ≤ 60) then (-1, 5)
  else if ¬ (1 ≤ d.fs.length ∧ d.fs.length ≤ 64) ∨ 16 < d.rl.length then (-1, 3)
  else if d.t ≠ [] ∧ labelP d.t = false then (-1, 210)
  else if badI d.fs < d.fs.length then (badI d.fs, badE d.fs (badI d.fs))
  else if badR d < d.rl.length then (-1, truthE (bndsN d.fs d.fs.length) (d.rl.getD (badR d) []))
  else (-1, 0)
def desA (t : ByteArray) (x1 : Option Addr) (n1 c1 : Nat) (x2 : Option Addr) (n2 c2 : Nat) (rows : Int) : Array Value := #[.string t, .slice x1 n1 c1, .slice x2 n2 c2, .int .i64 rows]
set_option maxRecDepth 100000 in
set_option maxHeartbeats 8000000 in
theorem check_rows (t : ByteArray) (x1 : Option Addr) (n1 c1 : Nat) (x2 : Option Addr) (n2 c2 : Nat) (rows : Int) (h : ¬ (1 ≤ rows ∧ rows ≤ 60)) (w : World) :
    Calls Tryz.prog 19 #[.agg (desA t x1 n1 c1 x2 n2 c2 rows)] w fun e w' => e = .returned (.tuple #[.int .i64 (-1), .int .i64 5]) ∧ Below w.heap.size w w' := by
  have HW := Lib.hid (fun W => dwithin rows 1 60 W)
  rw [decide_eq_false h] at HW
  unfold desA
  have HAL := Lib.hid (fun o1 o2 o3 => (((Below.refl w.heap.size w).alloc (Nat.le_refl _) o1).alloc (by simp) o2).alloc (by simp; omega) o3)
  clear h
  go_enter Tryz.func19, Tryz.ntmps19
  go_wp2_with (first | (go_at_call 29; refine (HW.out _).mono ?_; rintro e w1 ⟨rfl, rfl⟩))
  refine bodyPost_ret (results_11 rfl _ _ (w.heap.size + 1) (w.heap.size + 2) _ _ Tryz.isAgg3 Tryz.isAgg39 rfl rfl (Box.cell (t := 3) ?_) (Box.cell (t := 39) ?_)) rfl ⟨rfl, HAL.out _ _ _⟩
  · exact (heap_alloc_old _ _ (by simp)).trans (boxed_at (heap_alloc_new _ _) (by simp))
  · exact boxed_at (heap_alloc_new _ _) (by simp)
set_option maxRecDepth 100000 in
set_option maxHeartbeats 8000000 in
theorem check_many (t : ByteArray) (x1 : Option Addr) (n1 c1 : Nat) (x2 : Option Addr) (n2 c2 : Nat) (rows : Int) (h0 : 1 ≤ rows ∧ rows ≤ 60) (h : ¬ (1 ≤ n1 ∧ n1 ≤ 64) ∨ 16 < n2) (w : World) :
    Calls Tryz.prog 19 #[.agg (desA t x1 n1 c1 x2 n2 c2 rows)] w fun e w' => e = .returned (.tuple #[.int .i64 (-1), .int .i64 3]) ∧ Below w.heap.size w w' := by
  have HW := Lib.hid (fun W => dwithin rows 1 60 W)
  have HN := Lib.hid (fun W => dwithin (n1 : Nat) 1 64 W)
  rw [decide_eq_true h0] at HW
  unfold desA
  have HAL := Lib.hid (fun o1 o2 o3 => (((Below.refl w.heap.size w).alloc (Nat.le_refl _) o1).alloc (by simp) o2).alloc (by simp; omega) o3)
  clear h0
  by_cases h1 : 1 ≤ n1 ∧ n1 ≤ 64
  · have h2 : decide (16 < (n2 : Int)) = true := by simp; omega
    rw [decide_eq_true (by omega)] at HN
    clear h h1
    go_enter Tryz.func19, Tryz.ntmps19
    go_wp2_with (first | (go_at_call 29; (with_reducible refine (HW.out _).mono ?_); rintro e w1 ⟨rfl, rfl⟩) | (go_at_call 29; (with_reducible refine (HN.out _).mono ?_); rintro e w1 ⟨rfl, rfl⟩))
    refine bodyPost_ret (results_11 rfl _ _ (w.heap.size + 1) (w.heap.size + 2) _ _ Tryz.isAgg3 Tryz.isAgg39 rfl rfl (Box.cell (t := 3) ?_) (Box.cell (t := 39) ?_)) rfl ⟨rfl, HAL.out _ _ _⟩
    · exact (heap_alloc_old _ _ (by simp)).trans (boxed_at (heap_alloc_new _ _) (by simp))
    · exact boxed_at (heap_alloc_new _ _) (by simp)
  · rw [decide_eq_false (by omega)] at HN
    clear h h1
    go_enter Tryz.func19, Tryz.ntmps19
    go_wp2_with (first | (go_at_call 29; (with_reducible refine (HW.out _).mono ?_); rintro e w1 ⟨rfl, rfl⟩) | (go_at_call 29; (with_reducible refine (HN.out _).mono ?_); rintro e w1 ⟨rfl, rfl⟩))
    refine bodyPost_ret (results_11 rfl _ _ (w.heap.size + 1) (w.heap.size + 2) _ _ Tryz.isAgg3 Tryz.isAgg39 rfl rfl (Box.cell (t := 3) ?_) (Box.cell (t := 39) ?_)) rfl ⟨rfl, HAL.out _ _ _⟩
    · exact (heap_alloc_old _ _ (by simp)).trans (boxed_at (heap_alloc_new _ _) (by simp))
    · exact boxed_at (heap_alloc_new _ _) (by simp)
set_option maxRecDepth 100000 in
set_option maxHeartbeats 8000000 in
theorem check_title (l : Bs) (x1 : Option Addr) (n1 c1 : Nat) (x2 : Option Addr) (n2 c2 : Nat) (rows : Int) (h0 : 1 ≤ rows ∧ rows ≤ 60) (h1 : 1 ≤ n1 ∧ n1 ≤ 64) (h2 : n2 ≤ 16) (hl : l.length ≤ 900000) (h : l ≠ [] ∧ labelP l = false) (w : World) :
    Calls Tryz.prog 19 #[.agg (desA (tx l) x1 n1 c1 x2 n2 c2 rows)] w fun e w' => e = .returned (.tuple #[.int .i64 (-1), .int .i64 210]) ∧ Below w.heap.size w w' := by
  have HW := Lib.hid (fun W => dwithin rows 1 60 W)
  have HN := Lib.hid (fun W => dwithin (n1 : Nat) 1 64 W)
  have HLB := Lib.hid (fun W => dlabel l hl W)
  have he := isEmpty_tx l
  rw [decide_eq_false h.1] at he
  rw [h.2] at HLB
  rw [decide_eq_true h0] at HW
  rw [decide_eq_true (by omega)] at HN
  have h3 : decide (16 < (n2 : Int)) = false := by simp; omega
  generalize tx l = t at he HLB ⊢
  unfold desA
  obtain ⟨B1, hB1⟩ : ∃ B1, B1 = ((w.alloc (.cells #[.string t, .slice x1 n1 c1, .slice x2 n2 c2, .int .i64 rows] 27)).alloc (.cells #[.int .i64 0] 3)).alloc (.cells #[.int .i64 0] 39) := ⟨_, rfl⟩
  have HBL : Hid (Below w.heap.size w B1) := Lib.hid (by rw [hB1]; exact (((Below.refl w.heap.size w).alloc (Nat.le_refl _) _).alloc (by simp) _).alloc (by simp; omega) _)
  have HB2 : Hid (Box B1 (w.heap.size + 1) 3 (.int .i64 0)) := Lib.hid (by rw [hB1]; exact (heap_alloc_old _ _ (by simp)).trans (boxed_at (heap_alloc_new _ _) (by simp)))
  have HB3 : Hid (Box B1 (w.heap.size + 2) 39 (.int .i64 0)) := Lib.hid (by rw [hB1]; exact boxed_at (heap_alloc_new _ _) (by simp))
  clear h0 h1 h2 h hl
  go_enter Tryz.func19, Tryz.ntmps19
  go_wp2_with (first | (go_at_call 29; (with_reducible refine (HW.out _).mono ?_); rintro e w1 ⟨rfl, rfl⟩) | (go_at_call 29; (with_reducible refine (HN.out _).mono ?_); rintro e w1 ⟨rfl, rfl⟩) | (go_at_call 30; fail))
  rw [← hB1]
  go_at_call 30
  refine (HLB.out _).mono ?_
  clear hB1
  rintro e w2 ⟨rfl, hb2⟩
  have HK2 := Lib.hid ((hb2.block _ HB2.out.lt).trans HB2.out)
  have HK3 := Lib.hid ((hb2.block _ HB3.out.lt).trans HB3.out)
  have HE := Lib.hid (HBL.out.trans (below_le hb2 HBL.out.size))
  have c2 := Box.cell HK2.out
  have c3 := Box.cell HK3.out
  have f2 := Box.frozen HK2.out
  have f3 := Box.frozen HK3.out
  clear hb2
  go_wp2
  refine bodyPost_ret (results_11 rfl _ _ (w.heap.size + 1) (w.heap.size + 2) _ _ Tryz.isAgg3 Tryz.isAgg39 rfl rfl (Box.cell (t := 3) ((set_other (by omega)).trans (Box.set HK2.out _))) (Box.cell (t := 39) (Box.set ((set_other (by omega)).trans HK3.out) _))) rfl ⟨rfl, (HE.out.setCell (p := ⟨w.heap.size + 1, 0, none⟩) (show w.heap.size ≤ w.heap.size + 1 by omega) _).setCell (p := ⟨w.heap.size + 2, 0, none⟩) (show w.heap.size ≤ w.heap.size + 2 by omega) _⟩
/-! ### Rows of names -/
def bcs (b : Bnd) : List Value := [.string (tx b.nm), .int .i64 b.v.t, .float .f64 b.v.n, .string (tx b.v.s), .bool b.v.b]
def bflat (L : List Bnd) : List Value := L.flatMap bcs
theorem bflat_len (L : List Bnd) : (bflat L).length = L.length * 5 := by
  unfold bflat
  induction L with
  | nil => rfl
  | cons a r ih => simp [List.flatMap_cons, ih, bcs]; omega
theorem bflat_snoc (L : List Bnd) (b : Bnd) : bflat (L ++ [b]) = bflat L ++ bcs b := by simp [bflat]
theorem bflat_get {L : List Bnd} {i : Nat} {b : Bnd} (h : L[i]? = some b) {j : Nat} (hj : j < 5) : (bflat L)[i * 5 + j]? = (bcs b)[j]? := by
  induction L generalizing i with
  | nil => simp at h
  | cons a r ih =>
    have e : bflat (a :: r) = bcs a ++ bflat r := rfl
    have hl : (bcs a).length = 5 := rfl
    rw [e]
    cases i with
    | zero =>
      obtain rfl : a = b := by simpa using h
      rw [List.getElem?_append_left (by omega)]
      congr 1
      omega
    | succ i =>
      rw [List.getElem?_append_right (by omega), hl, show (i + 1) * 5 + j - 5 = i * 5 + j by omega]
      exact ih (by simpa using h)
theorem bndv_of_row {W : World} {base : Nat} {v : Value} {L : List Bnd} (h : W.ownsRow base 96 5 v L.length (bflat L)) : BndV W v L := by
  have hc := fun g (hg : v.ownBlock = some g) => h.cells hg
  rcases h.2 with ⟨hv, h0⟩ | ⟨g, cap, cur, hv, _, hg, hnc, _⟩
  · obtain rfl := List.length_eq_zero_iff.1 h0
    subst hv
    exact BndV.nil W
  · subst hv
    refine ⟨_, cap, rfl, hnc, fun e => (by cases e), fun a ha => ?_⟩
    cases ha
    refine ⟨fun _ => (Array.getElem?_eq_some_iff.1 hg).1, fun i b hi => ?_⟩
    have hk := fun j (hj : j < 5) u (hu : (bcs b)[j]? = some u) => hc g rfl (i * 5 + j) u ((bflat_get hi hj).trans hu)
    have k0 := hk 0 (by omega) _ rfl
    have k1 := hk 1 (by omega) _ rfl
    have k2 := hk 2 (by omega) _ rfl
    have k3 := hk 3 (by omega) _ rfl
    have k4 := hk 4 (by omega) _ rfl
    exact ⟨k0, k1, k2, k3, k4⟩
end Go.Proofs.YtdomglkcfecnnaaGreat
