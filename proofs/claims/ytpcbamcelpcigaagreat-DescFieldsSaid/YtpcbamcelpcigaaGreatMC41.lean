/- Own texts, merged. -/
import Derived.WalkKit
import Derived.Deep.Cut
import Derived.OrdersHeld
import Derived.Test.YtpcbamcelpcigaaGreatMC26
import Derived.Test.YtpcbamcelpcigaaGreatMC38
import Derived.Test.YtpcbamcelpcigaaGreatMC40
import Derived.Test.YtpcbamcelpcigaaGreatMC00
set_option maxRecDepth 100000
set_option maxHeartbeats 32000000
open Go.Lib (hid)
namespace Go.Proofs.YtpcbamcelpcigaaGreat
open Go.RowKit Go.Shelf
attribute [local go_sem] run_store_float
theorem VLB.fr {W:World} {b:Nat} {s n t x nl c f} (h:VLB W b s n t x nl c f) (j:Nat):W.frozen? ⟨b,j,none⟩ = false:=by unfold VLB at h;simp [World.frozen?,h]
theorem VLB.put {W:World} {b:Nat} {s n t x nl c f} (h:VLB W b s n t x nl c f) (u:ByteArray) (y:Option Addr) (m d:Nat):VLB ((W.setCell ⟨b,0,none⟩ (.string u)).setCell ⟨b,3,none⟩ (.slice y m d)) b u n t y m d f:=by
 unfold VLB
 rw [set_block (set_block h _) _]
 rfl
theorem fields_tx (f : Fld) (xo : Option Addr) (co : Nat) (xl : Option Addr) (cl : Nat) (v : Vle) (x : Option Addr) (c : Nat) (s : Bs) (k : Int) (w : World) (hA : FA w f xo co xl cl) (hI : IntV w (.slice x v.l.length c) v.l) (hf : v.f < 18446744073709551616) :
    Calls Tryz.prog 4 #[(f.fl xo co xl cl).v, v.v x c, .string (tx s), .int .i64 k] w fun e w' => e = .returned (.bool true) ∧ Below w.heap.size w w' := by
  have HLF : Hid (∀ W, Below w.heap.size w W → Calls Tryz.prog 11 #[(f.fl xo co xl cl).v] W (FewEnd W f xl cl)) := hid (fun W h => field_few f xo co xl cl W (hA.below h))
  have HOK := hid (fewF_ok hA.df)
  have HVK := hid (fewV_ok hf)
  have HIA := hid hA.l
  have HIV : Hid (∀ W, Below w.heap.size w W → IntV W (.slice x (v.l.take 300).length c) (v.l.take 300)) := hid (fun W h => (hI.below h).take 300)
  obtain ⟨q1, m1, n1, p1, x1⟩ := cut_facts v.s 300 300 rfl
  have HX1 := hid x1
  obtain ⟨q3, m3, n3, p3, x3⟩ := cut_facts s 40 40 rfl
  have HX3 := hid x3
  obtain ⟨q2, m2, n2, HX2⟩ : ∃ q : Nat, min ((v.l.length : Nat) : Int) 300 = ((q : Nat) : Int) ∧ ((q : Nat) : Int) ≤ ((c : Nat) : Int) ∧ Hid ((v.l.take 300).length = q) := by
    obtain ⟨_, c', he, hc, _⟩ := hI
    cases he
    exact ⟨min v.l.length 300, by omega, by omega, hid (by rw [List.length_take]; omega)⟩
  have HBA : Hid (∀ o1 o2, Below w.heap.size w ((w.alloc o1).alloc o2)) := hid (fun o1 o2 => ((Below.refl _ _).alloc (Nat.le_refl _) o1).alloc (by simp) o2)
  clear x1 x3 hA hI hf
  obtain ⟨F, hF⟩ : ∃ F, F = f.fl xo co xl cl := ⟨_, rfl⟩
  rw [← hF] at HLF ⊢
  clear hF
  unfold Vle.v dvlV
  obtain ⟨vs, vn, vb, vl, vf⟩ := v
  dsimp only at m1 n1 p1 HX1 m2 HX2 HIV HVK ⊢
  obtain ⟨B1, hB1⟩ : ∃ W1, W1 = (w.alloc (.cells F.a 42)).alloc (.cells #[.string (tx vs), .int .i64 vn, .bool vb, .slice x vl.length c, .float .f64 vf] 40) := ⟨_, rfl⟩
  have HFB : Hid (FLB B1 w.heap.size F) := hid (by rw [hB1]; exact (heap_alloc_old _ _ (by simp)).trans (heap_alloc_new _ _))
  have HVB : Hid (VLB B1 (w.heap.size + 1) (tx vs) vn vb x vl.length c vf) := hid (by rw [hB1]; exact heap_at (heap_alloc_new _ _) (by simp))
  have HBL : Hid (Below w.heap.size w B1) := hid (by rw [hB1]; exact HBA.out _ _)
  unfold FL.a at hB1
  unfold FL.v FL.a at HLF ⊢
  clear HBA
  obtain ⟨c0, c1, c2, c3, c4, c5, c6, c7, c8, c9, c10, c11, c12, c13, c14, c15⟩ := HFB.out.cells
  have hlt := HFB.out.lt
  go_enter Tryz.func4, Tryz.ntmps4
  go_wp2_with (first | (go_at_call 11; fail))
  rw [← hB1]
  go_at_call 11
  refine (HLF.out _ HBL.out).mono ?_
  clear hB1 c0 c1 c2 c3 c4 c5 c6 c7 c8 c9 c10 c11 c12 c13 c14 c15
  rintro e w1 ⟨G, yo, yc, base, hG, rfl, hbs, hr, hb⟩
  have HFB1 := hid (HFB.out.below hb)
  have HVB1 := hid (HVB.out.below hb)
  have HBL1 := hid (HBL.out.trans (below_le hb HBL.out.size))
  have HG := hid hG
  have HRW := hid hr
  have HBS : Hid (w.heap.size + 1 < base) := hid (by have := HVB.out.lt; omega)
  clear hb hG hr hbs hlt HLF HFB HVB HBL
  obtain ⟨c0, c1, c2, c3, c4, c5, c6, c7, c8, c9, c10, c11, c12, c13, c14, c15⟩ := HFB1.out.cells
  have f0 := HFB1.out.fr 0
  have f1 := HFB1.out.fr 1
  have f2 := HFB1.out.fr 2
  have f3 := HFB1.out.fr 3
  have f4 := HFB1.out.fr 4
  have f5 := HFB1.out.fr 5
  have f6 := HFB1.out.fr 6
  have f7 := HFB1.out.fr 7
  have f8 := HFB1.out.fr 8
  have f9 := HFB1.out.fr 9
  have f10 := HFB1.out.fr 10
  have f11 := HFB1.out.fr 11
  have f12 := HFB1.out.fr 12
  have f13 := HFB1.out.fr 13
  have f14 := HFB1.out.fr 14
  have f15 := HFB1.out.fr 15
  have hlt := HFB1.out.lt
  unfold FL.v FL.a
  go_upto_region 2 with (fail)
  have hp : FLB (putF w1 w.heap.size G) w.heap.size G := putF_blk HFB1.out G
  have hv9 : VLB (putF w1 w.heap.size G) (w.heap.size + 1) (tx vs) vn vb x vl.length c vf := (putF_other (by omega) G).trans HVB1.out
  have hb9 := putF_below HBL1.out (Nat.le_refl _) G
  have hr9 := row_kept (w' := putF w1 w.heap.size G) HRW.out (fun z hz => putF_other (by have := (HRW.out.lt z hz).1; have := HBS.out; omega) G)
  unfold putF at hp hv9 hb9 hr9
  try dsimp only at hp hv9 hb9 hr9
  generalize (World.setCell _ ⟨w.heap.size, 15, none⟩ _) = W2 at hp hv9 hb9 hr9 ⊢
  have HP := hid hp
  have HV := hid hv9
  have HB := hid hb9
  have HR := hid hr9
  clear hp hv9 hb9 hr9 hlt HFB1 HVB1 HBL1 HRW c0 c1 c2 c3 c4 c5 c6 c7 c8 c9 c10 c11 c12 c13 c14 c15 f0 f1 f2 f3 f4 f5 f6 f7 f8 f9 f10 f11 f12 f13 f14 f15
  go_cut [] (fun wx => Hid (FLB wx w.heap.size G ∧ VLB wx (w.heap.size + 1) ((tx vs).extract 0 q1) vn vb x q2 c vf ∧ Below w.heap.size w wx ∧ wx.ownsRow base 9 1 (.slice yo (fewF f).op.length yc) (fewF f).op.length (strs (fewF f).op)))
  case first =>
   as_aux_lemma =>
    obtain ⟨d0, _, _, d3, _⟩ := HV.out.cells
    have f0 := HV.out.fr 0
    have f3 := HV.out.fr 3
    have hlt := HV.out.lt
    refine wp_region_S (fun w' => w'.cell? ⟨w.heap.size + 1, 0, none⟩ = some (.string (tx vs)) ∧ w'.cell? ⟨w.heap.size + 1, 3, none⟩ = some (.slice x vl.length c)) [15, 17] (by kernel_rfl) ?_
    refine tkS (i := 0) ?_
    try simp only [Act.put, zz1, zz2, zz3, zz4, zz6]
    refine ldS (i := 1) ⟨by go_simp, by go_simp⟩ ?_
    try simp only [Act.put, zz1, zz2, zz3, zz4, zz5, zz6]
    refine tkS (i := 2) ?_
    try simp only [Act.put, zz1, zz2, zz3, zz4, zz5, zz6]
    refine ldS (i := 3) ⟨by go_simp, by go_simp⟩ ?_
    try simp only [Act.put, zz1, zz2, zz3, zz4, zz5, zz6]
    refine tkS (i := 4) ?_
    try simp only [Act.put, zz1, zz2, zz3, zz4, zz5, zz6]
    refine tkS (i := 5) ?_
    try simp only [Act.put, zz1, zz2, zz3, zz4, zz5, zz6]
    refine tkS (i := 6) ?_
    try simp only [Act.put, zz1, zz2, zz3, zz4, zz5, zz6]
    refine tkS (i := 7) ?_
    try simp only [Act.put, zz1, zz2, zz3, zz4, zz5, zz6]
    refine ldS (i := 8) ⟨by go_simp, by go_simp⟩ ?_
    try simp only [Act.put, zz1, zz2, zz3, zz4, zz5, zz6]
    refine tkS (i := 9) ?_
    try simp only [Act.put, zz1, zz2, zz3, zz4, zz5, zz6]
    refine ldS (i := 10) ⟨by go_simp, by go_simp⟩ ?_
    try simp only [Act.put, zz1, zz2, zz3, zz4, zz5, zz6]
    refine tkS (i := 11) ?_
    try simp only [Act.put, zz1, zz2, zz3, zz4, zz5, zz6]
    refine tkS (i := 12) ?_
    try simp only [Act.put, zz1, zz2, zz3, zz4, zz5, zz6]
    refine tkS (i := 13) ?_
    try simp only [Act.put, zz1, zz2, zz3, zz4, zz5, zz6]
    refine tkS (i := 14) ?_
    try simp only [Act.put, zz1, zz2, zz3, zz4, zz5, zz6]
    refine anyS_store (i := 15) rfl (by as_aux_lemma => kernel_rfl) (by decide) (fun K hK => ?_)
    go_simp
    refine hK _ _ ?_
    clear hK K
    refine tkS (i := 16) ?_
    try simp only [Act.put, zz1, zz4]
    refine anyS_store (i := 17) rfl (by as_aux_lemma => kernel_rfl) (by decide) (fun K hK => ?_)
    go_simp
    refine hK _ _ ?_
    clear hK K
    refine anyS_done (by kernel_rfl) ?_
    go_wp2
    go_meet
    exact hid ⟨((set_other (by omega)).trans (set_other (by omega))).trans HP.out, HV.out.put _ _ _ _, ((HB.out.setCell (p := ⟨w.heap.size + 1, 0, none⟩) (Nat.le_succ _) _).setCell (p := ⟨w.heap.size + 1, 3, none⟩) (Nat.le_succ _) _).drew, row_kept HR.out (fun z hz => (set_other (by have := (HR.out.lt z hz).1; have := HBS.out; omega)).trans (set_other (by have := (HR.out.lt z hz).1; have := HBS.out; omega)))⟩
  case rest =>
   as_aux_lemma =>
    obtain ⟨u, hu⟩ : ∃ u, u = (tx vs).extract 0 q1 := ⟨_, rfl⟩
    obtain ⟨hp, hv, hb, hr⟩ := hcut.out
    rw [← hu] at hv
    have HU : Hid (tx (vs.take 300) = u) := hid (by rw [hu, HX1.out])
    have HP2 := hid hp
    have HV2 := hid hv
    have HB2 := hid hb
    have HM2 := hid (few_mem hr HIA.out hb)
    clear hcut hu hp hv hb hr HP HV HB HR HX1 m1 n1 p1 m2 n2
    go_upto_region 4 with (fail)
    rw [HX3.out]
    generalize hgv : w.heap.size + 1 = gv at HV2 ⊢
    generalize hgb : w.heap.size = gb at HP2 ⊢
    rw [hgb] at HB2
    clear hgv m3 n3 p3
    rename World => W3
    have H1 : Hid (∀ W, Below W3.heap.size W3 W → Calls Tryz.prog 12 #[.agg #[.int .i64 G.k, .string G.nm, .string G.lb, .slice G.xo G.no G.co, .int .i64 G.mn, .int .i64 G.mx, .float .f64 G.lo, .float .f64 G.hi, .float .f64 G.st, .string G.ds, .int .i64 G.dn, .bool G.db, .slice G.xl G.nl G.cl, .float .f64 G.df, .string G.sh, .string G.ck]] W fun e w' => e = .returned (.int .i64 (fieldP (fewF f) : Nat)) ∧ Below W3.heap.size W3 w') := hid (call_behind (fun W hW => by
      have h := dField (fewF f) HOK.out yo yc xl cl W (HM2.out.below hW)
      rw [← HG.out] at h
      exact h))
    have H2 : Hid (∀ W, Below W3.heap.size W3 W → Calls Tryz.prog 13 #[.agg #[.int .i64 G.k, .string G.nm, .string G.lb, .slice G.xo G.no G.co, .int .i64 G.mn, .int .i64 G.mx, .float .f64 G.lo, .float .f64 G.hi, .float .f64 G.st, .string G.ds, .int .i64 G.dn, .bool G.db, .slice G.xl G.nl G.cl, .float .f64 G.df, .string G.sh, .string G.ck]] W fun e w' => e = .returned (.int .i64 (fieldP (fewF f) : Nat)) ∧ Below W3.heap.size W3 w') := hid (call_behind (fun W hW => by
      have h := rField (fewF f) HOK.out yo yc xl cl W (HM2.out.below hW)
      rw [← HG.out] at h
      exact h))
    have H3 : Hid (∀ W, Below W3.heap.size W3 W → Calls Tryz.prog 14 #[.agg #[.int .i64 G.k, .string G.nm, .string G.lb, .slice G.xo G.no G.co, .int .i64 G.mn, .int .i64 G.mx, .float .f64 G.lo, .float .f64 G.hi, .float .f64 G.st, .string G.ds, .int .i64 G.dn, .bool G.db, .slice G.xl G.nl G.cl, .float .f64 G.df, .string G.sh, .string G.ck], .agg #[.string u, .int .i64 vn, .bool vb, .slice x q2 c, .float .f64 vf]] W fun e w' => e = .returned (.bool (valueP (fewF f) (fewV ⟨vs, vn, vb, vl, vf⟩))) ∧ Below W3.heap.size W3 w') := hid (call_behind (fun W hW => by
      have h := dValue (fewF f) HOK.out yo yc xl cl (fewV ⟨vs, vn, vb, vl, vf⟩) HVK.out x c W (HM2.out.below hW).op (HIV.out W (by rw [hgb]; exact HB2.out.trans (below_le hW (by rw [← hgb]; exact HB2.out.size))))
      rw [← HG.out] at h
      unfold Vle.v dvlV fewV at h
      dsimp only at h
      rw [HU.out, HX2.out] at h
      exact h))
    have H4 : Hid (∀ W, Below W3.heap.size W3 W → Calls Tryz.prog 15 #[.agg #[.int .i64 G.k, .string G.nm, .string G.lb, .slice G.xo G.no G.co, .int .i64 G.mn, .int .i64 G.mx, .float .f64 G.lo, .float .f64 G.hi, .float .f64 G.st, .string G.ds, .int .i64 G.dn, .bool G.db, .slice G.xl G.nl G.cl, .float .f64 G.df, .string G.sh, .string G.ck], .agg #[.string u, .int .i64 vn, .bool vb, .slice x q2 c, .float .f64 vf]] W fun e w' => e = .returned (.bool (valueP (fewF f) (fewV ⟨vs, vn, vb, vl, vf⟩))) ∧ Below W3.heap.size W3 w') := hid (call_behind (fun W hW => by
      have h := rValue (fewF f) HOK.out yo yc xl cl (fewV ⟨vs, vn, vb, vl, vf⟩) HVK.out x c W (HM2.out.below hW).op (HIV.out W (by rw [hgb]; exact HB2.out.trans (below_le hW (by rw [← hgb]; exact HB2.out.size))))
      rw [← HG.out] at h
      unfold Vle.v dvlV fewV at h
      dsimp only at h
      rw [HU.out, HX2.out] at h
      exact h))
    have H5 : Hid (∀ W, Below W3.heap.size W3 W → Calls Tryz.prog 16 #[.string (tx (s.take 40))] W fun e w' => e = .returned (.bool (nameP (s.take 40))) ∧ Below W3.heap.size W3 w') := hid (call_behind_eq (fun W => dName _ W))
    have H6 : Hid (∀ W, Below W3.heap.size W3 W → Calls Tryz.prog 17 #[.string (tx (s.take 40))] W fun e w' => e = .returned (.bool (nameP (s.take 40))) ∧ Below W3.heap.size W3 w') := hid (call_behind_eq (fun W => rName _ W))
    have H7 : Hid (∀ W, Below W3.heap.size W3 W → Calls Tryz.prog 18 #[.int .i64 k] W fun e w' => e = .returned (.int .i64 (tyK k : Nat)) ∧ Below W3.heap.size W3 w') := hid (call_behind_eq (fun W => dTypeOf k W))
    have H8 : Hid (∀ W, Below W3.heap.size W3 W → Calls Tryz.prog 19 #[.int .i64 k] W fun e w' => e = .returned (.int .i64 (tyK k : Nat)) ∧ Below W3.heap.size W3 w') := hid (call_behind_eq (fun W => rTypeOfK k W))
    have H9 : Hid (∀ W, Below W3.heap.size W3 W → Calls Tryz.prog 10 #[] W fun e w' => e = .returned (.bool true) ∧ Below W3.heap.size W3 w') := hid (call_behind (fun W _ => wawakeD W))
    generalize fieldP (fewF f) = E1 at H1 H2
    generalize valueP (fewF f) (fewV ⟨vs, vn, vb, vl, vf⟩) = E2 at H3 H4
    generalize nameP (s.take 40) = E3 at H5 H6
    generalize tx (s.take 40) = us at H5 H6 ⊢
    generalize tyK k = E4 at H7 H8
    have b1 : ((E1 : Int) == (E1 : Int)) = true := beq_self_eq_true _
    have b2 : (E2 == E2) = true := beq_self_eq_true _
    have b3 : (E3 == E3) = true := beq_self_eq_true _
    have b4 : ((E4 : Int) == (E4 : Int)) = true := beq_self_eq_true _
    have HRD : Hid (∀ W, Below W3.heap.size W3 W → W.cell? ⟨gb, 0, none⟩ = some (.int .i64 G.k) ∧ W.cell? ⟨gb, 1, none⟩ = some (.string G.nm) ∧ W.cell? ⟨gb, 2, none⟩ = some (.string G.lb) ∧ W.cell? ⟨gb, 3, none⟩ = some (.slice G.xo G.no G.co) ∧ W.cell? ⟨gb, 4, none⟩ = some (.int .i64 G.mn) ∧ W.cell? ⟨gb, 5, none⟩ = some (.int .i64 G.mx) ∧ W.cell? ⟨gb, 6, none⟩ = some (.float .f64 G.lo) ∧ W.cell? ⟨gb, 7, none⟩ = some (.float .f64 G.hi) ∧ W.cell? ⟨gb, 8, none⟩ = some (.float .f64 G.st) ∧ W.cell? ⟨gb, 9, none⟩ = some (.string G.ds) ∧ W.cell? ⟨gb, 10, none⟩ = some (.int .i64 G.dn) ∧ W.cell? ⟨gb, 11, none⟩ = some (.bool G.db) ∧ W.cell? ⟨gb, 12, none⟩ = some (.slice G.xl G.nl G.cl) ∧ W.cell? ⟨gb, 13, none⟩ = some (.float .f64 G.df) ∧ W.cell? ⟨gb, 14, none⟩ = some (.string G.sh) ∧ W.cell? ⟨gb, 15, none⟩ = some (.string G.ck) ∧ W.cell? ⟨gv, 0, none⟩ = some (.string u) ∧ W.cell? ⟨gv, 1, none⟩ = some (.int .i64 vn) ∧ W.cell? ⟨gv, 2, none⟩ = some (.bool vb) ∧ W.cell? ⟨gv, 3, none⟩ = some (.slice x q2 c) ∧ W.cell? ⟨gv, 4, none⟩ = some (.float .f64 vf)) := hid (fun W hW => by
      obtain ⟨c0, c1, c2, c3, c4, c5, c6, c7, c8, c9, c10, c11, c12, c13, c14, c15⟩ := (HP2.out.below hW).cells
      obtain ⟨d0, d1, d2, d3, d4⟩ := (HV2.out.below hW).cells
      exact ⟨c0, c1, c2, c3, c4, c5, c6, c7, c8, c9, c10, c11, c12, c13, c14, c15, d0, d1, d2, d3, d4⟩)
    clear HP2 HV2 HM2 HOK HVK HIA HIV HG HU HX2 HX3 HBS
    have HS0 := hid (HRD.out W3.drew (Below.refl _ _).drew)
    as_aux_lemma =>
    refine wp_region_held (S := (fun W => W.cell? ⟨gb, 0, none⟩ = some (.int .i64 G.k) ∧ W.cell? ⟨gb, 1, none⟩ = some (.string G.nm) ∧ W.cell? ⟨gb, 2, none⟩ = some (.string G.lb) ∧ W.cell? ⟨gb, 3, none⟩ = some (.slice G.xo G.no G.co) ∧ W.cell? ⟨gb, 4, none⟩ = some (.int .i64 G.mn) ∧ W.cell? ⟨gb, 5, none⟩ = some (.int .i64 G.mx) ∧ W.cell? ⟨gb, 6, none⟩ = some (.float .f64 G.lo) ∧ W.cell? ⟨gb, 7, none⟩ = some (.float .f64 G.hi) ∧ W.cell? ⟨gb, 8, none⟩ = some (.float .f64 G.st) ∧ W.cell? ⟨gb, 9, none⟩ = some (.string G.ds) ∧ W.cell? ⟨gb, 10, none⟩ = some (.int .i64 G.dn) ∧ W.cell? ⟨gb, 11, none⟩ = some (.bool G.db) ∧ W.cell? ⟨gb, 12, none⟩ = some (.slice G.xl G.nl G.cl) ∧ W.cell? ⟨gb, 13, none⟩ = some (.float .f64 G.df) ∧ W.cell? ⟨gb, 14, none⟩ = some (.string G.sh) ∧ W.cell? ⟨gb, 15, none⟩ = some (.string G.ck) ∧ W.cell? ⟨gv, 0, none⟩ = some (.string u) ∧ W.cell? ⟨gv, 1, none⟩ = some (.int .i64 vn) ∧ W.cell? ⟨gv, 2, none⟩ = some (.bool vb) ∧ W.cell? ⟨gv, 3, none⟩ = some (.slice x q2 c) ∧ W.cell? ⟨gv, 4, none⟩ = some (.float .f64 vf))) (by as_aux_lemma => kernel_rfl) ?_
    change wpAnyH _ _ _ _ _ _ _ _ (World.drew _)
    refine tkH (i := 0) HS0.out ?_
    try simp only [Act.put, zz1, zz2, zz3, zz4, zz6]
    refine tkH (i := 2) HS0.out ?_
    try simp only [Act.put, zz1, zz2, zz3, zz4, zz5, zz6]
    refine wpAnyH_ready (rs := [1]) (by as_aux_lemma => kernel_rfl) (by simp) ?_
    refine AllReadyH.cons rfl (fun K hK => ?_) AllReadyH.nil
    go_simp
    go_at_call 12
    refine (H1.out _ (Below.refl _ _).drew).mono ?_
    rintro e y1 ⟨rfl, hq⟩
    have HQ1 := hid hq
    have HS1 := hid (HRD.out y1 hq)
    clear hq
    refine hK.out _ _ HS1.out (fun _ => ?_)
    clear hK K
    try simp only [Act.put, zz1, zz2, zz3, zz4, zz5, zz6]
    as_aux_lemma =>
    refine wpAnyH_ready (rs := [3]) (by as_aux_lemma => kernel_rfl) (by simp) ?_
    refine AllReadyH.cons rfl (fun K hK => ?_) AllReadyH.nil
    go_simp
    go_at_call 13
    refine (H2.out _ HQ1.out).mono ?_
    rintro e y2 ⟨rfl, hq⟩
    have HQ2 := hid hq
    have HS2 := hid (HRD.out y2 hq)
    clear hq
    refine hK.out _ _ HS2.out (fun _ => ?_)
    clear hK K
    try simp only [Act.put, zz1, zz2, zz3, zz4, zz5, zz6]
    as_aux_lemma =>
    refine tkH (i := 4) HS2.out ?_
    try simp only [Act.put, zz1, zz2, zz3, zz4, zz5, zz6]
    refine tkH (i := 5) HS2.out ?_
    try simp only [Act.put, zz1, zz2, zz3, zz4, zz5, zz6]
    refine tkH (i := 6) HS2.out ?_
    try simp only [Act.put, zz1, zz2, zz3, zz4, zz5, zz6]
    refine tkH (i := 7) HS2.out ?_
    try simp only [Act.put, zz1, zz2, zz3, zz4, zz5, zz6]
    refine tkH (i := 9) HS2.out ?_
    try simp only [Act.put, zz1, zz2, zz3, zz4, zz5, zz6]
    refine tkH (i := 10) HS2.out ?_
    try simp only [Act.put, zz1, zz2, zz3, zz4, zz5, zz6]
    refine wpAnyH_ready (rs := [8]) (by as_aux_lemma => kernel_rfl) (by simp) ?_
    refine AllReadyH.cons rfl (fun K hK => ?_) AllReadyH.nil
    go_simp
    go_at_call 14
    refine (H3.out _ HQ2.out).mono ?_
    rintro e y3 ⟨rfl, hq⟩
    have HQ3 := hid hq
    have HS3 := hid (HRD.out y3 hq)
    clear hq
    refine hK.out _ _ HS3.out (fun _ => ?_)
    clear hK K
    try simp only [Act.put, zz1, zz2, zz3, zz4, zz5, zz6]
    as_aux_lemma =>
    refine wpAnyH_ready (rs := [11]) (by as_aux_lemma => kernel_rfl) (by simp) ?_
    refine AllReadyH.cons rfl (fun K hK => ?_) AllReadyH.nil
    go_simp
    go_at_call 15
    refine (H4.out _ HQ3.out).mono ?_
    rintro e y4 ⟨rfl, hq⟩
    have HQ4 := hid hq
    have HS4 := hid (HRD.out y4 hq)
    clear hq
    refine hK.out _ _ HS4.out (fun _ => ?_)
    clear hK K
    try simp only [Act.put, zz1, zz2, zz3, zz4, zz5, zz6]
    as_aux_lemma =>
    refine tkH (i := 12) HS4.out ?_
    try simp only [Act.put, zz1, zz2, zz3, zz4, zz5, zz6]
    refine tkH (i := 13) HS4.out ?_
    try simp only [Act.put, zz1, zz2, zz3, zz4, zz5, zz6]
    refine tkH (i := 14) HS4.out ?_
    try simp only [Act.put, zz1, zz2, zz3, zz4, zz5, zz6]
    refine tkH (i := 15) HS4.out ?_
    try simp only [Act.put, zz1, zz2, zz3, zz4, zz5, zz6]
    refine tkH (i := 17) HS4.out ?_
    try simp only [Act.put, zz1, zz2, zz3, zz4, zz5, zz6]
    refine wpAnyH_ready (rs := [16]) (by as_aux_lemma => kernel_rfl) (by simp) ?_
    refine AllReadyH.cons rfl (fun K hK => ?_) AllReadyH.nil
    go_simp
    go_at_call 16
    refine (H5.out _ HQ4.out).mono ?_
    rintro e y5 ⟨rfl, hq⟩
    have HQ5 := hid hq
    have HS5 := hid (HRD.out y5 hq)
    clear hq
    refine hK.out _ _ HS5.out (fun _ => ?_)
    clear hK K
    try simp only [Act.put, zz1, zz2, zz3, zz4, zz5, zz6]
    as_aux_lemma =>
    refine wpAnyH_ready (rs := [18]) (by as_aux_lemma => kernel_rfl) (by simp) ?_
    refine AllReadyH.cons rfl (fun K hK => ?_) AllReadyH.nil
    go_simp
    go_at_call 17
    refine (H6.out _ HQ5.out).mono ?_
    rintro e y6 ⟨rfl, hq⟩
    have HQ6 := hid hq
    have HS6 := hid (HRD.out y6 hq)
    clear hq
    refine hK.out _ _ HS6.out (fun _ => ?_)
    clear hK K
    try simp only [Act.put, zz1, zz2, zz3, zz4, zz5, zz6]
    as_aux_lemma =>
    refine tkH (i := 19) HS6.out ?_
    try simp only [Act.put, zz1, zz2, zz3, zz4, zz5, zz6]
    refine tkH (i := 20) HS6.out ?_
    try simp only [Act.put, zz1, zz2, zz3, zz4, zz5, zz6]
    refine tkH (i := 21) HS6.out ?_
    try simp only [Act.put, zz1, zz2, zz3, zz4, zz5, zz6]
    refine tkH (i := 22) HS6.out ?_
    try simp only [Act.put, zz1, zz2, zz3, zz4, zz5, zz6]
    refine tkH (i := 24) HS6.out ?_
    try simp only [Act.put, zz1, zz2, zz3, zz4, zz5, zz6]
    refine wpAnyH_ready (rs := [23]) (by as_aux_lemma => kernel_rfl) (by simp) ?_
    refine AllReadyH.cons rfl (fun K hK => ?_) AllReadyH.nil
    go_simp
    go_at_call 18
    refine (H7.out _ HQ6.out).mono ?_
    rintro e y7 ⟨rfl, hq⟩
    have HQ7 := hid hq
    have HS7 := hid (HRD.out y7 hq)
    clear hq
    refine hK.out _ _ HS7.out (fun _ => ?_)
    clear hK K
    try simp only [Act.put, zz1, zz2, zz3, zz4, zz5, zz6]
    as_aux_lemma =>
    refine wpAnyH_ready (rs := [25]) (by as_aux_lemma => kernel_rfl) (by simp) ?_
    refine AllReadyH.cons rfl (fun K hK => ?_) AllReadyH.nil
    go_simp
    go_at_call 19
    refine (H8.out _ HQ7.out).mono ?_
    rintro e y8 ⟨rfl, hq⟩
    have HQ8 := hid hq
    have HS8 := hid (HRD.out y8 hq)
    clear hq
    refine hK.out _ _ HS8.out (fun _ => ?_)
    clear hK K
    try simp only [Act.put, zz1, zz2, zz3, zz4, zz5, zz6]
    as_aux_lemma =>
    refine tkH (i := 26) HS8.out ?_
    try simp only [Act.put, zz1, zz2, zz3, zz4, zz5, zz6]
    refine tkH (i := 27) HS8.out ?_
    try simp only [Act.put, zz1, zz2, zz3, zz4, zz5, zz6]
    refine tkH (i := 28) HS8.out ?_
    try simp only [Act.put, zz1, zz2, zz3, zz4, zz5, zz6]
    refine wpAnyH_ready (rs := [29]) (by as_aux_lemma => kernel_rfl) (by simp) ?_
    refine AllReadyH.cons rfl (fun K hK => ?_) AllReadyH.nil
    go_simp
    go_at_call 10
    refine (H9.out _ HQ8.out).mono ?_
    rintro e y9 ⟨rfl, hq⟩
    have HQ9 := hid hq
    have HS9 := hid (HRD.out y9 hq)
    clear hq
    refine hK.out _ _ HS9.out (fun _ => ?_)
    clear hK K
    try simp only [Act.put, zz1, zz2, zz3, zz4, zz5, zz6]
    as_aux_lemma =>
    refine tkH (i := 30) HS9.out ?_
    try simp only [Act.put, zz1, zz2, zz3, zz4, zz5, zz6]
    refine tkH (i := 31) HS9.out ?_
    try simp only [Act.put, zz1, zz2, zz3, zz4, zz5, zz6]
    refine wpAnyH_done (by as_aux_lemma => kernel_rfl) ?_ _
    go_wp2
    go_ret
    exact ⟨rfl, by subst hgb; exact HB2.out.trans (below_le HQ9.out HB2.out.size)⟩
end Go.Proofs.YtpcbamcelpcigaaGreat
