/- Own texts, merged. -/
import Derived.WalkKit
import Derived.Test.YtpcbamcelpcigaaGreatMC28
import Derived.Test.YtpcbamcelpcigaaGreatMC29
import Derived.Test.YtpcbamcelpcigaaGreatMC30
import Derived.Test.YtpcbamcelpcigaaGreatMC39
import Derived.Test.YtpcbamcelpcigaaGreatMC00
set_option maxRecDepth 100000
set_option maxHeartbeats 32000000
open Go.Lib (hid)
namespace Go.Proofs.YtpcbamcelpcigaaGreat
open Go.RowKit Go.Shelf
attribute [local go_sem] run_store_float
def exF:Fld:=⟨1,[97],[65],[],0,10,0,0,0,⟨[],0,false,[],0⟩,[],[]⟩
def exL:FL:=exF.fl none 0 none 0
def exD:Des:=⟨[],[exF],[],3⟩
def exD0:Des:=⟨[],[],[],0⟩
def exS:FL:=⟨9,⟨#[]⟩,⟨#[]⟩,none,0,0,0,0,0,4607182418800017408,4598175219545276416,⟨#[]⟩,0,false,none,0,0,0,⟨#[]⟩,⟨#[]⟩⟩
theorem ex_check:checkP exD = (-1,0):=by kernel_rfl
theorem ex_check0:checkP exD0 = (-1,5):=by kernel_rfl
theorem ex_raw:stepsRaw 0 4607182418800017408 4598175219545276416 = 5:=
 stepsRaw_eq _ _ _ _ (by decide) (fun i hi=>by
  have h0:leB (valB 0 4598175219545276416 0) 4607182418800017408 = true:=by kernel_rfl
  have h1:leB (valB 0 4598175219545276416 1) 4607182418800017408 = true:=by kernel_rfl
  have h2:leB (valB 0 4598175219545276416 2) 4607182418800017408 = true:=by kernel_rfl
  have h3:leB (valB 0 4598175219545276416 3) 4607182418800017408 = true:=by kernel_rfl
  have h4:leB (valB 0 4598175219545276416 4) 4607182418800017408 = true:=by kernel_rfl
  rcases (show i = 0∨i = 1∨i = 2∨i = 3∨i = 4 by omega) with rfl | rfl | rfl | rfl | rfl
  ·exact h0
  ·exact h1
  ·exact h2
  ·exact h3
  ·exact h4) (.inr (by kernel_rfl))
theorem ex_sld:exS.sld = 5:=by
 have h1:stepsBad 0 4607182418800017408 4598175219545276416 = false:=by kernel_rfl
 have h:stepsN 0 4607182418800017408 4598175219545276416 = 5:=by
  unfold stepsN
  rw [h1,ex_raw]
  rfl
 unfold FL.sld exS
 simp only [if_true]
 exact h
theorem exF_ok:FOk exF:=⟨by decide,fun i hi=>absurd hi (by simp [exF]),by decide,by decide,by decide,⟨by decide,by decide,by decide⟩⟩
theorem exD_ok:DOk exD:=⟨by decide,fun i hi=>by
 obtain rfl:i = 0:=by simp [exD] at hi;omega
 exact exF_ok,fun j hj=>absurd hj (by simp [exD])⟩
theorem exD0_ok:DOk exD0:=⟨by decide,fun i hi=>absurd hi (by simp [exD0]),fun j hj=>absurd hj (by simp [exD0])⟩
theorem exF_mem (w:World):FM w exF none 0 none 0:=⟨TxV.nil w,IntV.nil w⟩
theorem exD_mem {w:World} {b:Nat} (h:FLB w b exL):DM w exD [exL] (some ⟨b,0,none⟩) b 0 1 none 0:=by
 refine ⟨rfl,by decide,fun _=>⟨rfl,h.lt,fun i hi j u hu=>?_⟩,fun i hi=>⟨none,0,none,0,?_,?_⟩,TxV.nil w⟩
 ·obtain rfl:i = 0:=by simp at hi;omega
  have h':=h
  unfold FLB at h'
  simp only [Nat.zero_mul,Nat.zero_add,World.cell?,h']
  simpa using hu
 ·obtain rfl:i = 0:=by simp at hi;omega
  rfl
 ·obtain rfl:i = 0:=by simp at hi;omega
  exact exF_mem w
theorem exD0_mem (w:World):DM w exD0 [] none 0 0 0 none 0:=⟨rfl,by decide,fun h=>absurd rfl h,fun i hi=>absurd hi (by simp),TxV.nil w⟩
theorem wawakeD (w:World):Calls Tryz.prog 10 #[] w fun e w'=>e = .returned (.bool true)∧Below w.heap.size w w':=by
 have H1:Hid (∀ W,FLB W w.heap.size exL→Calls Tryz.prog 7 #[.agg #[.string ⟨#[]⟩,.slice (some ⟨w.heap.size,0,none⟩) 1 1,.slice none 0 0,.int .i64 3]] W fun e w'=>e = .returned (.tuple #[.int .i64 (-1),.int .i64 0])∧Below W.heap.size W w'):=hid (fun W h=>by
  have h:=dCheck exD exD_ok [exL] _ _ _ _ _ _ W (exD_mem h)
  rw [ex_check] at h
  exact h)
 have H2:Hid (∀ W,Calls Tryz.prog 7 #[.agg #[.string ⟨#[]⟩,.slice none 0 0,.slice none 0 0,.int .i64 0]] W fun e w'=>e = .returned (.tuple #[.int .i64 (-1),.int .i64 5])∧Below W.heap.size W w'):=hid (fun W=>by
  have h:=dCheck exD0 exD0_ok [] _ _ _ _ _ _ W (exD0_mem W)
  rw [ex_check0] at h
  exact h)
 have H3:Hid (∀ W,Calls Tryz.prog 24 #[.agg #[.int .i64 9,.string ⟨#[]⟩,.string ⟨#[]⟩,.slice none 0 0,.int .i64 0,.int .i64 0,.float .f64 0,.float .f64 4607182418800017408,.float .f64 4598175219545276416,.string ⟨#[]⟩,.int .i64 0,.bool false,.slice none 0 0,.float .f64 0,.string ⟨#[]⟩,.string ⟨#[]⟩]] W fun e w'=>e = .returned (.int .i64 5)∧Below W.heap.size W w'):=hid (fun W=>by
  have h:=dSlides exS W
  rw [ex_sld] at h
  exact h)
 have H4:Hid (∀ W,Calls Tryz.prog 18 #[.int .i64 4] W fun e w'=>e = .returned (.int .i64 2)∧W = w'):=hid (fun W=>dTypeOf 4 W)
 have HX:Hid (∀ o,FLB ((w.alloc (.cells exL.a 42)).alloc o) w.heap.size exL):=hid (fun o=>(heap_alloc_old _ _ (by simp)).trans (heap_alloc_new _ _))
 have HB:Hid (∀ o1 o2,Below w.heap.size w ((w.alloc o1).alloc o2)):=hid (fun o1 o2=>((Below.refl _ _).alloc (Nat.le_refl _) o1).alloc (by simp) o2)
 go_enter Tryz.func10,Tryz.ntmps10
 go_wp2_with (first | (go_at_call 7;fail))
 refine (H1.out _ (HX.out _)).mono ?_
 rintro e w1 ⟨rfl,hb1⟩
 have HB1:=hid ((HB.out _ _).trans (below_le hb1 (HB.out _ _).size))
 clear hb1 HX HB H1
 go_wp2_with (first | (go_at_call 7;fail))
 refine (H2.out _).mono ?_
 rintro e w2 ⟨rfl,hb2⟩
 have HB2:=hid (HB1.out.trans (below_le hb2 HB1.out.size))
 clear hb2 HB1 H2
 go_wp2_with (first | (go_at_call 24;fail))
 refine (H3.out _).mono ?_
 rintro e w3 ⟨rfl,hb3⟩
 have HB3:=hid (((HB2.out.alloc HB2.out.size _).trans (below_le hb3 (by have:=HB2.out.size;simp;omega))))
 clear hb3 HB2 H3
 go_wp2_with (first | (go_at_call 18;refine (H4.out _).mono ?_;rintro e w4 ⟨rfl,rfl⟩))
 go_ret
 exact ⟨rfl,HB3.out⟩
theorem DM.below {w W:World} {d:Des} {Ls:List FL} {x1:Option Addr} {q o c1:Nat} {x2:Option Addr} {c2:Nat} (h:DM w d Ls x1 q o c1 x2 c2) (hb:Below w.heap.size w W):DM W d Ls x1 q o c1 x2 c2:=
 ⟨h.len,h.cap,FRow.below h.row hb,fun i hi=>by
  obtain ⟨xo,co,xl,cl,e,hm⟩:=h.fm i hi
  exact ⟨xo,co,xl,cl,e,hm.below hb⟩,h.rl.below hb⟩
theorem few_fs_len (d:Des):(fewD d).fs.length≤12:=by simp only [fewD,fewL,List.length_map,List.length_take];omega
theorem few_rl_len (d:Des):(fewD d).rl.length≤18:=by simp only [fewD,fewR,List.length_map,List.length_take];omega
theorem fsa_f {w:World} {x:Option Addr} {c:Nat} {fs:List Fld} (h:FsA w x c fs):∀ i,i < fs.length→(fldA fs i).d.f < 18446744073709551616:=fun i hi=>by
 obtain ⟨Ls,q,o,hl,_,hf⟩:=h.row
 obtain ⟨xo,co,xl,cl,_,hA⟩:=hf i (by omega)
 exact hA.df
theorem checks_tx (d:Des) (x1:Option Addr) (c1:Nat) (x2:Option Addr) (c2:Nat) (most:Nat) (hmost:most < 256) (w:World) (hA:DA w d x1 c1 x2 c2) :
  Calls Tryz.prog 3 #[.agg (desA (tx d.t) x1 d.fs.length c1 x2 d.rl.length c2 d.rows),.int .u8 (most:Nat)] w fun e w'=>e = .returned (.bool true)∧Below w.heap.size w w':=by
 have HFW:Hid (∀ W,Below w.heap.size w W→Calls Tryz.prog 6 #[.agg (desA (tx d.t) x1 d.fs.length c1 x2 d.rl.length c2 d.rows)] W fun e w'=>∃ Ls y1 k1 y2 k2,e = .returned (.agg (desA (tx (fewD d).t) y1 (fewD d).fs.length k1 y2 (fewD d).rl.length k2 d.rows))∧FewM w W.heap.size (fewD d) Ls y1 k1 y2 k2 w'∧Below W.heap.size W w'):=hid (fun W hb=>lfew d x1 c1 x2 c2 w W hA hb)
 have HOK:=hid (fewD_ok (fsa_f hA.fs))
 obtain ⟨n,hn⟩:∃ n,n = (fewD d).fs.length:=⟨_,rfl⟩
 obtain ⟨m,hm⟩:∃ m,m = (fewD d).rl.length:=⟨_,rfl⟩
 have hn12:n≤12:=by rw [hn];exact few_fs_len d
 have hm18:m≤18:=by rw [hm];exact few_rl_len d
 have HN12:=hid hn12
 have HN:=hid hn
 have HM:=hid hm
 rw [←hn,←hm] at HFW
 obtain ⟨k,hk⟩:∃ k:Nat,min (n:Int) (most:Int) = ((k:Nat):Int):=⟨min n most,by omega⟩
 have HK:Hid (k≤1000∧min k n = k∧min 100 n = n):=hid (by omega)
 have hmz:(0:Int)≤(most:Int):=by omega
 have hmz2:(most:Int) < 256:=by omega
 clear hn hm hn12 hm18 hmost hA
 unfold desA at HFW ⊢
 obtain ⟨T,hT⟩:∃ T,T = tx d.t:=⟨_,rfl⟩
 obtain ⟨U,hU⟩:∃ U,U = tx (fewD d).t:=⟨_,rfl⟩
 rw [←hT,←hU] at HFW
 rw [←hT]
 have HU:=hid hU
 generalize d.fs.length = N at HFW ⊢
 generalize d.rl.length = M at HFW ⊢
 have HRO:Hid ((fewD d).rows = d.rows):=hid rfl
 generalize d.rows = rows at HFW HRO ⊢
 clear hT hU
 obtain ⟨B1,hB1⟩:∃ W1,W1 = w.alloc (.cells #[.string T,.slice x1 N c1,.slice x2 M c2,.int .i64 rows] 25):=⟨_,rfl⟩
 have HBL:Hid (Below w.heap.size w B1∧B1.heap.size = w.heap.size + 1):=hid (by rw [hB1];exact ⟨(Below.refl _ _).alloc (Nat.le_refl _) _,by simp⟩)
 have HBX:Hid (B1.heap[w.heap.size]? = some (.cells #[.string T,.slice x1 N c1,.slice x2 M c2,.int .i64 rows] 25 (0,0))):=hid (by rw [hB1];exact heap_alloc_new _ _)
 go_enter Tryz.func3,Tryz.ntmps3
 go_wp2_with (first | (go_at_call 6;fail))
 rw [←hB1]
 go_at_call 6
 refine (HFW.out _ HBL.out.1).mono ?_
 clear hB1
 rintro e w1 ⟨Ls,y1,k1,y2,k2,rfl,hF,hb⟩
 have hbx:=(hb.block _ (show w.heap.size < B1.heap.size by have:=HBL.out.2;omega)).trans HBX.out
 have d0:w1.cell? ⟨w.heap.size,0,none⟩ = some (.string T):=by simp [World.cell?,hbx]
 have d1:w1.cell? ⟨w.heap.size,1,none⟩ = some (.slice x1 N c1):=by simp [World.cell?,hbx]
 have d2:w1.cell? ⟨w.heap.size,2,none⟩ = some (.slice x2 M c2):=by simp [World.cell?,hbx]
 have d3:w1.cell? ⟨w.heap.size,3,none⟩ = some (.int .i64 rows):=by simp [World.cell?,hbx]
 have g0:w1.frozen? ⟨w.heap.size,0,none⟩ = false:=by simp [World.frozen?,hbx]
 have g1:w1.frozen? ⟨w.heap.size,1,none⟩ = false:=by simp [World.frozen?,hbx]
 have g2:w1.frozen? ⟨w.heap.size,2,none⟩ = false:=by simp [World.frozen?,hbx]
 have g3:w1.frozen? ⟨w.heap.size,3,none⟩ = false:=by simp [World.frozen?,hbx]
 have hlt:w.heap.size < w1.heap.size:=(Array.getElem?_eq_some_iff.1 hbx).1
 have HP:Hid ((put4 w1 w.heap.size (.string U) (.slice y1 n k1) (.slice y2 m k2) (.int .i64 rows)).heap[w.heap.size]? = some (.cells #[.string U,.slice y1 n k1,.slice y2 m k2,.int .i64 rows] 25 (0,0))):=hid (put4_blk hbx _ _ _ _)
 have HB2:Hid (Below w.heap.size w (put4 w1 w.heap.size (.string U) (.slice y1 n k1) (.slice y2 m k2) (.int .i64 rows))):=hid (put4_below (HBL.out.1.trans (below_le hb HBL.out.1.size)) (Nat.le_refl _) _ _ _ _)
 have HF2:Hid (FewM w B1.heap.size (fewD d) Ls y1 k1 y2 k2 (put4 w1 w.heap.size (.string U) (.slice y1 n k1) (.slice y2 m k2) (.int .i64 rows))):=hid (hF.kept (fun j hj _=>put4_other (by have:=HBL.out.2;omega)))
 clear hF hb hbx HFW HBX
 go_wp2_with (first | (go_at_call 7;fail))
 unfold put4 at HP HB2 HF2
 generalize (World.setCell _ ⟨w.heap.size,3,none⟩ _) = W2 at HP HB2 HF2 ⊢
 clear d0 d1 d2 d3 g0 g1 g2 g3 hlt
 obtain ⟨q,hDM⟩:=HF2.out.dm HB2.out HOK.out (by rw [←HM.out];have:=few_rl_len d;rw [←HM.out] at this;omega)
 have HCH:Hid (∀ W,Below W2.heap.size W2 W→Calls Tryz.prog 7 #[.agg #[.string U,.slice y1 n k1,.slice y2 m k2,.int .i64 rows]] W fun e w'=>e = .returned (.tuple #[.int .i64 (checkP (fewD d)).1,.int .i64 ((checkP (fewD d)).2:Nat)])∧Below W.heap.size W w'):=hid (fun W hb=>by
  have h:=dCheck (fewD d) HOK.out Ls y1 q 0 k1 y2 k2 W (hDM.below hb)
  rw [←HN.out,←HM.out,←HU.out,HRO.out] at h
  exact h)
 have HCR:Hid (∀ W,Below W2.heap.size W2 W→Calls Tryz.prog 8 #[.agg #[.string U,.slice y1 n k1,.slice y2 m k2,.int .i64 rows]] W fun e w'=>e = .returned (.tuple #[.int .i64 (checkP (fewD d)).1,.int .i64 ((checkP (fewD d)).2:Nat)])∧Below W.heap.size W w'):=hid (fun W hb=>by
  have h:=rCheck (fewD d) HOK.out Ls y1 q 0 k1 y2 k2 W (hDM.below hb)
  rw [←HN.out,←HM.out,←HU.out,HRO.out] at h
  exact h)
 have hlen:Ls.length = n:=by rw [HN.out];exact hDM.len
 have HLT:Hid (w.heap.size < W2.heap.size):=hid (Array.getElem?_eq_some_iff.1 HP.out).1
 have HTD:Hid (∀ mo:Nat,mo≤1000→∀ W,Below W2.heap.size W2 W→Calls Tryz.prog 9 #[.agg #[.string U,.slice y1 n k1,.slice y2 m k2,.int .i64 rows],.int .i64 (mo:Nat)] W fun e w'=>e = .returned (.tuple #[.int .i64 (min mo n:Nat),.bool true])∧Below W.heap.size W w'):=hid (fun mo hmo W hb=>by
  have hr:=FRow.below hDM.row hb
  by_cases hz:Ls = []
  ·have h:=ltold U y1 k1 y2 m k2 rows [] 0 0 (by simp) (by simp) mo hmo W (fun e=>absurd rfl e) (by have:=hb.size;have:=HLT.out;omega)
   subst hz
   rw [show n = 0 from hlen.symm]
   exact h
  ·have h:=ltold U y1 k1 y2 m k2 rows Ls q 0 (by have:=HN12.out;omega) hDM.cap mo hmo W hr (hr hz).2.1
   rw [hlen] at h
   exact h)
 generalize checkP (fewD d) = R at HCH HCR
 obtain ⟨R1,R2⟩:=R
 dsimp only at HCH HCR
 clear hDM hlen HF2 HOK
 go_at_call 7
 refine (HCH.out _ (Below.refl _ _)).mono ?_
 rintro e z1 ⟨rfl,hb⟩
 have HQ1:=hid hb
 clear hb HCH
 have hbx:=(HQ1.out.block _ HLT.out).trans HP.out
 have d0:z1.cell? ⟨w.heap.size,0,none⟩ = some (.string U):=by simp [World.cell?,hbx]
 have d1:z1.cell? ⟨w.heap.size,1,none⟩ = some (.slice y1 n k1):=by simp [World.cell?,hbx]
 have d2:z1.cell? ⟨w.heap.size,2,none⟩ = some (.slice y2 m k2):=by simp [World.cell?,hbx]
 have d3:z1.cell? ⟨w.heap.size,3,none⟩ = some (.int .i64 rows):=by simp [World.cell?,hbx]
 have hlt:w.heap.size < z1.heap.size:=(Array.getElem?_eq_some_iff.1 hbx).1
 clear hbx
 go_wp2_with (first | (go_at_call 8;fail))
 refine (HCR.out _ HQ1.out).mono ?_
 rintro e z2 ⟨rfl,hb⟩
 have HQ2:=hid (HQ1.out.trans (below_le hb HQ1.out.size))
 clear hb HCR d0 d1 d2 d3 hlt
 have hbx:=(HQ2.out.block _ HLT.out).trans HP.out
 have d0:z2.cell? ⟨w.heap.size,0,none⟩ = some (.string U):=by simp [World.cell?,hbx]
 have d1:z2.cell? ⟨w.heap.size,1,none⟩ = some (.slice y1 n k1):=by simp [World.cell?,hbx]
 have d2:z2.cell? ⟨w.heap.size,2,none⟩ = some (.slice y2 m k2):=by simp [World.cell?,hbx]
 have d3:z2.cell? ⟨w.heap.size,3,none⟩ = some (.int .i64 rows):=by simp [World.cell?,hbx]
 have hlt:w.heap.size < z2.heap.size:=(Array.getElem?_eq_some_iff.1 hbx).1
 clear hbx
 as_aux_lemma=>
 go_wp2_with (first | (go_at_call 9;fail))
 refine (HTD.out k HK.out.1 _ HQ2.out).mono ?_
 rintro e z3 ⟨rfl,hb⟩
 have HQ3:=hid (HQ2.out.trans (below_le hb HQ2.out.size))
 rw [HK.out.2.1]
 clear hb d0 d1 d2 d3 hlt
 have hbx:=(HQ3.out.block _ HLT.out).trans HP.out
 have d0:z3.cell? ⟨w.heap.size,0,none⟩ = some (.string U):=by simp [World.cell?,hbx]
 have d1:z3.cell? ⟨w.heap.size,1,none⟩ = some (.slice y1 n k1):=by simp [World.cell?,hbx]
 have d2:z3.cell? ⟨w.heap.size,2,none⟩ = some (.slice y2 m k2):=by simp [World.cell?,hbx]
 have d3:z3.cell? ⟨w.heap.size,3,none⟩ = some (.int .i64 rows):=by simp [World.cell?,hbx]
 have hlt:w.heap.size < z3.heap.size:=(Array.getElem?_eq_some_iff.1 hbx).1
 clear hbx
 go_wp2_with (first | (go_at_call 9;fail))
 refine (HTD.out 100 (by decide) _ HQ3.out).mono ?_
 rintro e z4 ⟨rfl,hb⟩
 have HQ4:=hid (HQ3.out.trans (below_le hb HQ3.out.size))
 rw [HK.out.2.2]
 clear hb d0 d1 d2 d3 hlt
 have hbx:=(HQ4.out.block _ HLT.out).trans HP.out
 have d0:z4.cell? ⟨w.heap.size,0,none⟩ = some (.string U):=by simp [World.cell?,hbx]
 have d1:z4.cell? ⟨w.heap.size,1,none⟩ = some (.slice y1 n k1):=by simp [World.cell?,hbx]
 have d2:z4.cell? ⟨w.heap.size,2,none⟩ = some (.slice y2 m k2):=by simp [World.cell?,hbx]
 have d3:z4.cell? ⟨w.heap.size,3,none⟩ = some (.int .i64 rows):=by simp [World.cell?,hbx]
 have hlt:w.heap.size < z4.heap.size:=(Array.getElem?_eq_some_iff.1 hbx).1
 clear hbx
 go_wp2_with (first | (go_at_call 10;fail))
 refine (wawakeD _).mono ?_
 rintro e z5 ⟨rfl,hb⟩
 have HQ5:=hid (HQ4.out.trans (below_le hb HQ4.out.size))
 clear hb
 go_wp2
 go_ret
 exact ⟨rfl,HB2.out.trans (below_le HQ5.out HB2.out.size)⟩
theorem checks_any (d:Des) (x1:Option Addr) (c1:Nat) (x2:Option Addr) (c2:Nat) (most:Int) (h0:0≤most) (h1:most < 256) (w:World) (hA:DA w d x1 c1 x2 c2) :
  Calls Tryz.prog 3 #[.agg (desA (tx d.t) x1 d.fs.length c1 x2 d.rl.length c2 d.rows),.int .u8 most] w fun e w'=>e = .returned (.bool true)∧Below w.heap.size w w':=by
 obtain ⟨n,rfl⟩:∃ n:Nat,most = (n:Int):=⟨most.toNat,by omega⟩
 exact checks_tx d x1 c1 x2 c2 n (by omega) w hA
end Go.Proofs.YtpcbamcelpcigaaGreat
