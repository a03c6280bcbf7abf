/- Own texts, merged. -/
import Derived.WalkKit
import Derived.Deep.Cut
import Derived.OrdersHeld
import Derived.Test.YtpcbamcelpcigaaGreatMC26
import Derived.Test.YtpcbamcelpcigaaGreatMC38
import Derived.Test.YtpcbamcelpcigaaGreatMC40
import Derived.Test.YtpcbamcelpcigaaGreatMC00
set_option maxRecDepth 100000
set_option maxHeartbeats 32000000
open Go.Lib (hid)
namespace Go.Proofs.YtpcbamcelpcigaaGreat
open Go.RowKit Go.Shelf
attribute [local go_sem] run_store_float
theorem slides_tx (f:Fld) (xo:Option Addr) (co:Nat) (xl:Option Addr) (cl:Nat) (q:Int) (x:Nat) (w:World) (hA:FA w f xo co xl cl) (hx:x < 18446744073709551616) :
  Calls Tryz.prog 5 #[(f.fl xo co xl cl).v,.int .i64 q,.float .f64 x] w fun e w'=>e = .returned (.bool true)∧Below w.heap.size w w':=by
 have HLF:Hid (∀ W,Below w.heap.size w W→Calls Tryz.prog 11 #[(f.fl xo co xl cl).v] W (FewEnd W f xl cl)):=hid (fun W h=>field_few f xo co xl cl W (hA.below h))
 have HBA:Hid (∀ o1,Below w.heap.size w (w.alloc o1)):=hid (fun o1=>(Below.refl _ _).alloc (Nat.le_refl _) o1)
 have HX:=hid hx
 clear hA hx
 obtain ⟨F,hF⟩:∃ F,F = f.fl xo co xl cl:=⟨_,rfl⟩
 rw [←hF] at HLF ⊢
 clear hF
 obtain ⟨B1,hB1⟩:∃ W1,W1 = w.alloc (.cells F.a 42):=⟨_,rfl⟩
 have HFB:Hid (FLB B1 w.heap.size F):=hid (by rw [hB1];exact heap_alloc_new _ _)
 have HBL:Hid (Below w.heap.size w B1):=hid (by rw [hB1];exact HBA.out _)
 unfold FL.a at hB1
 unfold FL.v FL.a at HLF ⊢
 clear HBA
 obtain ⟨c0,c1,c2,c3,c4,c5,c6,c7,c8,c9,c10,c11,c12,c13,c14,c15⟩:=HFB.out.cells
 have hlt:=HFB.out.lt
 go_enter Tryz.func5,Tryz.ntmps5
 go_wp2_with (first | (go_at_call 11;fail))
 rw [←hB1]
 go_at_call 11
 refine (HLF.out _ HBL.out).mono ?_
 clear hB1 c0 c1 c2 c3 c4 c5 c6 c7 c8 c9 c10 c11 c12 c13 c14 c15
 rintro e w1 ⟨G,yo,yc,base,hG,rfl,hbs,hr,hb⟩
 have HFB1:=hid (HFB.out.below hb)
 have HBL1:=hid (HBL.out.trans (below_le hb HBL.out.size))
 clear hb hG hr hbs hlt HLF HFB HBL
 obtain ⟨c0,c1,c2,c3,c4,c5,c6,c7,c8,c9,c10,c11,c12,c13,c14,c15⟩:=HFB1.out.cells
 have f0:=HFB1.out.fr 0
 have f1:=HFB1.out.fr 1
 have f2:=HFB1.out.fr 2
 have f3:=HFB1.out.fr 3
 have f4:=HFB1.out.fr 4
 have f5:=HFB1.out.fr 5
 have f6:=HFB1.out.fr 6
 have f7:=HFB1.out.fr 7
 have f8:=HFB1.out.fr 8
 have f9:=HFB1.out.fr 9
 have f10:=HFB1.out.fr 10
 have f11:=HFB1.out.fr 11
 have f12:=HFB1.out.fr 12
 have f13:=HFB1.out.fr 13
 have f14:=HFB1.out.fr 14
 have f15:=HFB1.out.fr 15
 have hlt:=HFB1.out.lt
 unfold FL.v FL.a
 have HA1:Hid (∀ W,Calls Tryz.prog 20 #[.agg #[.int .i64 G.k,.string G.nm,.string G.lb,.slice G.xo G.no G.co,.int .i64 G.mn,.int .i64 G.mx,.float .f64 G.lo,.float .f64 G.hi,.float .f64 G.st,.string G.ds,.int .i64 G.dn,.bool G.db,.slice G.xl G.nl G.cl,.float .f64 G.df,.string G.sh,.string G.ck],.int .i64 q] W fun e w'=>e = .returned (.tuple #[.float .f64 (atP G q).1,.bool (atP G q).2])∧Below W.heap.size W w'):=hid (fun W=>dAt G q W)
 have HA2:Hid (∀ W,Calls Tryz.prog 21 #[.agg #[.int .i64 G.k,.string G.nm,.string G.lb,.slice G.xo G.no G.co,.int .i64 G.mn,.int .i64 G.mx,.float .f64 G.lo,.float .f64 G.hi,.float .f64 G.st,.string G.ds,.int .i64 G.dn,.bool G.db,.slice G.xl G.nl G.cl,.float .f64 G.df,.string G.sh,.string G.ck],.int .i64 q] W fun e w'=>e = .returned (.tuple #[.float .f64 (atP G q).1,.bool (atP G q).2])∧Below W.heap.size W w'):=hid (fun W=>rAt G q W)
 have HP1:Hid (∀ W,Calls Tryz.prog 22 #[.agg #[.int .i64 G.k,.string G.nm,.string G.lb,.slice G.xo G.no G.co,.int .i64 G.mn,.int .i64 G.mx,.float .f64 G.lo,.float .f64 G.hi,.float .f64 G.st,.string G.ds,.int .i64 G.dn,.bool G.db,.slice G.xl G.nl G.cl,.float .f64 G.df,.string G.sh,.string G.ck],.float .f64 x] W fun e w'=>e = .returned (.tuple #[.int .i64 ((G.plc x).1:Nat),.bool (G.plc x).2])∧Below W.heap.size W w'):=hid (fun W=>dPlace G x HX.out W)
 have HP2:Hid (∀ W,Calls Tryz.prog 23 #[.agg #[.int .i64 G.k,.string G.nm,.string G.lb,.slice G.xo G.no G.co,.int .i64 G.mn,.int .i64 G.mx,.float .f64 G.lo,.float .f64 G.hi,.float .f64 G.st,.string G.ds,.int .i64 G.dn,.bool G.db,.slice G.xl G.nl G.cl,.float .f64 G.df,.string G.sh,.string G.ck],.float .f64 x] W fun e w'=>e = .returned (.tuple #[.int .i64 ((G.plc x).1:Nat),.bool (G.plc x).2])∧Below W.heap.size W w'):=hid (fun W=>rPlace G x HX.out W)
 have HS1:Hid (∀ W,Calls Tryz.prog 24 #[.agg #[.int .i64 G.k,.string G.nm,.string G.lb,.slice G.xo G.no G.co,.int .i64 G.mn,.int .i64 G.mx,.float .f64 G.lo,.float .f64 G.hi,.float .f64 G.st,.string G.ds,.int .i64 G.dn,.bool G.db,.slice G.xl G.nl G.cl,.float .f64 G.df,.string G.sh,.string G.ck]] W fun e w'=>e = .returned (.int .i64 (G.sld:Nat))∧Below W.heap.size W w'):=hid (fun W=>dSlides G W)
 have HS2:Hid (∀ W,Calls Tryz.prog 25 #[.agg #[.int .i64 G.k,.string G.nm,.string G.lb,.slice G.xo G.no G.co,.int .i64 G.mn,.int .i64 G.mx,.float .f64 G.lo,.float .f64 G.hi,.float .f64 G.st,.string G.ds,.int .i64 G.dn,.bool G.db,.slice G.xl G.nl G.cl,.float .f64 G.df,.string G.sh,.string G.ck]] W fun e w'=>e = .returned (.int .i64 (G.sld:Nat))∧Below W.heap.size W w'):=hid (fun W=>rSlides G W)
 have HSM:Hid (∀ W,Calls Tryz.prog 26 #[.agg #[.int .i64 1,.float .f64 (atP G q).1,.string ⟨#[]⟩,.bool false],.agg #[.int .i64 1,.float .f64 (atP G q).1,.string ⟨#[]⟩,.bool false]] W fun e w'=>e = .returned (.bool true)∧Below W.heap.size W w'):=hid (fun W=>by
  have h:=rSame ⟨1,(atP G q).1,[],false⟩ ⟨1,(atP G q).1,[],false⟩ W
  rw [show sameV ⟨1,(atP G q).1,[],false⟩ ⟨1,(atP G q).1,[],false⟩ = true from sameN_self _] at h
  exact h)
 generalize (atP G q).1 = a1 at HA1 HA2 HSM
 generalize (atP G q).2 = a2 at HA1 HA2
 generalize (G.plc x).1 = p1 at HP1 HP2
 generalize (G.plc x).2 = p2 at HP1 HP2
 generalize G.sld = sl at HS1 HS2
 go_wp2_with (first | (go_at_call 20;fail))
 have hp:FLB (putF w1 w.heap.size G) w.heap.size G:=putF_blk HFB1.out G
 have hb9:=putF_below HBL1.out (Nat.le_refl _) G
 unfold putF at hp hb9
 try dsimp only at hp hb9
 generalize (World.setCell _ ⟨w.heap.size,15,none⟩ _) = W2 at hp hb9 ⊢
 have HP:=hid hp
 have HB:=hid hb9
 clear hp hb9 hlt HFB1 HBL1 HX c0 c1 c2 c3 c4 c5 c6 c7 c8 c9 c10 c11 c12 c13 c14 c15 f0 f1 f2 f3 f4 f5 f6 f7 f8 f9 f10 f11 f12 f13 f14 f15
 as_aux_lemma=>
 go_at_call 20
 refine (HA1.out _).mono ?_
 rintro e z0 ⟨rfl,hb⟩
 have HPn0:=hid (HP.out.below hb)
 have HBn0:=hid (HB.out.trans (below_le hb HB.out.size))
 clear hb HA1 HP HB
 obtain ⟨c0,c1,c2,c3,c4,c5,c6,c7,c8,c9,c10,c11,c12,c13,c14,c15⟩:=HPn0.out.cells
 have hlt:=HPn0.out.lt
 as_aux_lemma=>
 go_wp2_with (first | (go_at_call 21;fail))
 refine (HA2.out _).mono ?_
 rintro e z1 ⟨rfl,hb⟩
 have HPn1:=hid (HPn0.out.below hb)
 have HBn1:=hid (HBn0.out.trans (below_le hb HBn0.out.size))
 clear hb HA2 HPn0 HBn0 c0 c1 c2 c3 c4 c5 c6 c7 c8 c9 c10 c11 c12 c13 c14 c15 hlt
 obtain ⟨c0,c1,c2,c3,c4,c5,c6,c7,c8,c9,c10,c11,c12,c13,c14,c15⟩:=HPn1.out.cells
 have hlt:=HPn1.out.lt
 as_aux_lemma=>
 go_wp2_with (first | (go_at_call 22;fail))
 refine (HP1.out _).mono ?_
 rintro e z2 ⟨rfl,hb⟩
 have HPn2:=hid (HPn1.out.below hb)
 have HBn2:=hid (HBn1.out.trans (below_le hb HBn1.out.size))
 clear hb HP1 HPn1 HBn1 c0 c1 c2 c3 c4 c5 c6 c7 c8 c9 c10 c11 c12 c13 c14 c15 hlt
 obtain ⟨c0,c1,c2,c3,c4,c5,c6,c7,c8,c9,c10,c11,c12,c13,c14,c15⟩:=HPn2.out.cells
 have hlt:=HPn2.out.lt
 as_aux_lemma=>
 go_wp2_with (first | (go_at_call 23;fail))
 refine (HP2.out _).mono ?_
 rintro e z3 ⟨rfl,hb⟩
 have HPn3:=hid (HPn2.out.below hb)
 have HBn3:=hid (HBn2.out.trans (below_le hb HBn2.out.size))
 clear hb HP2 HPn2 HBn2 c0 c1 c2 c3 c4 c5 c6 c7 c8 c9 c10 c11 c12 c13 c14 c15 hlt
 obtain ⟨c0,c1,c2,c3,c4,c5,c6,c7,c8,c9,c10,c11,c12,c13,c14,c15⟩:=HPn3.out.cells
 have hlt:=HPn3.out.lt
 as_aux_lemma=>
 go_upto_region 6 with (fail)
 generalize hgb:w.heap.size = gb at HPn3 ⊢
 rw [hgb] at HBn3
 clear hlt c0 c1 c2 c3 c4 c5 c6 c7 c8 c9 c10 c11 c12 c13 c14 c15
 rename World=>W3
 have HSZ:Hid (gb≤W3.heap.size):=hid (by rw [←hgb];exact HBn3.out.size)
 have H1:Hid (∀ W,Below W3.heap.size W3 W→Calls Tryz.prog 24 #[.agg #[.int .i64 G.k,.string G.nm,.string G.lb,.slice G.xo G.no G.co,.int .i64 G.mn,.int .i64 G.mx,.float .f64 G.lo,.float .f64 G.hi,.float .f64 G.st,.string G.ds,.int .i64 G.dn,.bool G.db,.slice G.xl G.nl G.cl,.float .f64 G.df,.string G.sh,.string G.ck]] W fun e w'=>e = .returned (.int .i64 (sl:Nat))∧Below W3.heap.size W3 w'):=hid (call_behind (fun W _=>HS1.out W))
 have H2:Hid (∀ W,Below W3.heap.size W3 W→Calls Tryz.prog 25 #[.agg #[.int .i64 G.k,.string G.nm,.string G.lb,.slice G.xo G.no G.co,.int .i64 G.mn,.int .i64 G.mx,.float .f64 G.lo,.float .f64 G.hi,.float .f64 G.st,.string G.ds,.int .i64 G.dn,.bool G.db,.slice G.xl G.nl G.cl,.float .f64 G.df,.string G.sh,.string G.ck]] W fun e w'=>e = .returned (.int .i64 (sl:Nat))∧Below W3.heap.size W3 w'):=hid (call_behind (fun W _=>HS2.out W))
 have b1:((sl:Int) != (sl:Int)) = false:=bne_self_eq_false _
 have b2:(a2 != a2) = false:=bne_self_eq_false _
 have b3:((p1:Int) != (p1:Int)) = false:=bne_self_eq_false _
 have b4:(p2 != p2) = false:=bne_self_eq_false _
 have HRD:Hid (∀ W,Below W3.heap.size W3 W→W.cell? ⟨gb,0,none⟩ = some (.int .i64 G.k)∧W.cell? ⟨gb,1,none⟩ = some (.string G.nm)∧W.cell? ⟨gb,2,none⟩ = some (.string G.lb)∧W.cell? ⟨gb,3,none⟩ = some (.slice G.xo G.no G.co)∧W.cell? ⟨gb,4,none⟩ = some (.int .i64 G.mn)∧W.cell? ⟨gb,5,none⟩ = some (.int .i64 G.mx)∧W.cell? ⟨gb,6,none⟩ = some (.float .f64 G.lo)∧W.cell? ⟨gb,7,none⟩ = some (.float .f64 G.hi)∧W.cell? ⟨gb,8,none⟩ = some (.float .f64 G.st)∧W.cell? ⟨gb,9,none⟩ = some (.string G.ds)∧W.cell? ⟨gb,10,none⟩ = some (.int .i64 G.dn)∧W.cell? ⟨gb,11,none⟩ = some (.bool G.db)∧W.cell? ⟨gb,12,none⟩ = some (.slice G.xl G.nl G.cl)∧W.cell? ⟨gb,13,none⟩ = some (.float .f64 G.df)∧W.cell? ⟨gb,14,none⟩ = some (.string G.sh)∧W.cell? ⟨gb,15,none⟩ = some (.string G.ck)):=hid (fun W hW=>by
  obtain ⟨c0,c1,c2,c3,c4,c5,c6,c7,c8,c9,c10,c11,c12,c13,c14,c15⟩:=(HPn3.out.below hW).cells
  exact ⟨c0,c1,c2,c3,c4,c5,c6,c7,c8,c9,c10,c11,c12,c13,c14,c15⟩)
 clear HS1 HS2 HPn3
 have HS0:=hid (HRD.out W3.drew (Below.refl _ _).drew)
 as_aux_lemma=>
 refine wp_region_held (S:=(fun W=>W.cell? ⟨gb,0,none⟩ = some (.int .i64 G.k)∧W.cell? ⟨gb,1,none⟩ = some (.string G.nm)∧W.cell? ⟨gb,2,none⟩ = some (.string G.lb)∧W.cell? ⟨gb,3,none⟩ = some (.slice G.xo G.no G.co)∧W.cell? ⟨gb,4,none⟩ = some (.int .i64 G.mn)∧W.cell? ⟨gb,5,none⟩ = some (.int .i64 G.mx)∧W.cell? ⟨gb,6,none⟩ = some (.float .f64 G.lo)∧W.cell? ⟨gb,7,none⟩ = some (.float .f64 G.hi)∧W.cell? ⟨gb,8,none⟩ = some (.float .f64 G.st)∧W.cell? ⟨gb,9,none⟩ = some (.string G.ds)∧W.cell? ⟨gb,10,none⟩ = some (.int .i64 G.dn)∧W.cell? ⟨gb,11,none⟩ = some (.bool G.db)∧W.cell? ⟨gb,12,none⟩ = some (.slice G.xl G.nl G.cl)∧W.cell? ⟨gb,13,none⟩ = some (.float .f64 G.df)∧W.cell? ⟨gb,14,none⟩ = some (.string G.sh)∧W.cell? ⟨gb,15,none⟩ = some (.string G.ck))) (by as_aux_lemma=>kernel_rfl) ?_
 change wpAnyH _ _ _ _ _ _ _ _ (World.drew _)
 refine tkH (i:=0) HS0.out ?_
 try simp only [Act.put,zz1,zz2,zz3,zz4,zz6]
 refine tkH (i:=2) HS0.out ?_
 try simp only [Act.put,zz1,zz2,zz3,zz4,zz5,zz6]
 refine wpAnyH_ready (rs:=[1]) (by as_aux_lemma=>kernel_rfl) (by simp) ?_
 refine AllReadyH.cons rfl (fun K hK=>?_) AllReadyH.nil
 go_simp
 go_at_call 24
 refine (H1.out _ (Below.refl _ _).drew).mono ?_
 rintro e y1 ⟨rfl,hq⟩
 have HQ1:=hid hq
 have HS1:=hid (HRD.out y1 hq)
 clear hq
 refine hK.out _ _ HS1.out (fun _=>?_)
 clear hK K
 try simp only [Act.put,zz1,zz2,zz3,zz4,zz5,zz6]
 as_aux_lemma=>
 refine wpAnyH_ready (rs:=[3]) (by as_aux_lemma=>kernel_rfl) (by simp) ?_
 refine AllReadyH.cons rfl (fun K hK=>?_) AllReadyH.nil
 go_simp
 go_at_call 25
 refine (H2.out _ HQ1.out).mono ?_
 rintro e y2 ⟨rfl,hq⟩
 have HQ2:=hid hq
 have HS2:=hid (HRD.out y2 hq)
 clear hq
 refine hK.out _ _ HS2.out (fun _=>?_)
 clear hK K
 try simp only [Act.put,zz1,zz2,zz3,zz4,zz5,zz6]
 as_aux_lemma=>
 refine tkH (i:=4) HS2.out ?_
 try simp only [Act.put,zz1,zz2,zz3,zz4,zz5,zz6]
 refine tkH (i:=5) HS2.out ?_
 try simp only [Act.put,zz1,zz2,zz3,zz4,zz5,zz6]
 refine tkH (i:=6) HS2.out ?_
 try simp only [Act.put,zz1,zz2,zz3,zz4,zz5,zz6]
 refine tkH (i:=7) HS2.out ?_
 try simp only [Act.put,zz1,zz2,zz3,zz4,zz5,zz6]
 refine tkH (i:=8) HS2.out ?_
 try simp only [Act.put,zz1,zz2,zz3,zz4,zz5,zz6]
 refine tkH (i:=9) HS2.out ?_
 try simp only [Act.put,zz1,zz2,zz3,zz4,zz5,zz6]
 refine tkH (i:=10) HS2.out ?_
 try simp only [Act.put,zz1,zz2,zz3,zz4,zz5,zz6]
 refine tkH (i:=11) HS2.out ?_
 try simp only [Act.put,zz1,zz2,zz3,zz4,zz5,zz6]
 refine tkH (i:=12) HS2.out ?_
 try simp only [Act.put,zz1,zz2,zz3,zz4,zz5,zz6]
 refine tkH (i:=13) HS2.out ?_
 try simp only [Act.put,zz1,zz2,zz3,zz4,zz5,zz6]
 refine tkH (i:=14) HS2.out ?_
 try simp only [Act.put,zz1,zz2,zz3,zz4,zz5,zz6]
 refine tkH (i:=15) HS2.out ?_
 try simp only [Act.put,zz1,zz2,zz3,zz4,zz5,zz6]
 refine tkH (i:=16) HS2.out ?_
 try simp only [Act.put,zz1,zz2,zz3,zz4,zz5,zz6]
 refine tkH (i:=17) HS2.out ?_
 try simp only [Act.put,zz1,zz2,zz3,zz4,zz5,zz6]
 refine tkH (i:=18) HS2.out ?_
 try simp only [Act.put,zz1,zz2,zz3,zz4,zz5,zz6]
 refine tkH (i:=19) HS2.out ?_
 try simp only [Act.put,zz1,zz2,zz3,zz4,zz5,zz6]
 refine wpAnyH_done (by as_aux_lemma=>kernel_rfl) ?_ _
 clear HRD HS0 HS1 HS2 H1 H2 b1 b2 b3 b4
 go_wp2_with (first | (go_at_call 26;fail))
 refine (HSM.out _).mono ?_
 rintro e u1 ⟨rfl,hb⟩
 have HSU:Hid (gb≤u1.heap.size):=hid (Nat.le_trans HSZ.out (Nat.le_trans HQ2.out.size hb.size))
 have HBu:=hid ((HBn3.out.trans (below_le HQ2.out HSZ.out)).trans (below_le hb (Nat.le_trans HSZ.out HQ2.out.size)))
 clear hb HSM
 go_wp2_with (first | (go_at_call 10;fail))
 refine (wawakeD _).mono ?_
 rintro e u2 ⟨rfl,hb⟩
 have HBv:=hid (HBu.out.trans (below_le hb HSU.out))
 clear hb
 go_wp2
 go_ret
 exact ⟨rfl,by subst hgb;exact HBv.out⟩
end Go.Proofs.YtpcbamcelpcigaaGreat
