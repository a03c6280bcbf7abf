/- Own texts, merged. -/
import Derived.WalkKit
import Derived.Deep.Cut
import Derived.Test.YtpcbamcelpcigaaGreatMC02
import Derived.Test.YtpcbamcelpcigaaGreatMC24
import Derived.Test.YtpcbamcelpcigaaGreatMC25
import Derived.Test.YtpcbamcelpcigaaGreatMC00
set_option maxRecDepth 100000
set_option maxHeartbeats 32000000
open Go.Lib (hid)
namespace Go.Proofs.YtpcbamcelpcigaaGreat
open Go.RowKit Go.Shelf
attribute [local go_sem] run_store_float
def fewV (v:Vle):Vle:={ v with s:=v.s.take 300,l:=v.l.take 300 }
def fewF (f:Fld):Fld:={ f with nm:=f.nm.take 40,lb:=f.lb.take 400,op:=(f.op.take 40).map (·.take 300),d:=fewV f.d,sh:=f.sh.take 300,ck:=f.ck.take 300 }
theorem take_tx (l:Bs) (k:Nat):(tx l).extract 0 (min l.length k) = tx (l.take k):=by
 rw [tx_extract,List.drop_zero,Nat.sub_zero]
 by_cases h:l.length≤k
 ·rw [Nat.min_eq_left h,List.take_length,List.take_of_length_le h]
 ·rw [Nat.min_eq_right (by omega)]
theorem cut_facts (l:Bs) (k:Nat) (kz:Int) (hk:kz = (k:Int)):∃ q,min ((tx l).size:Int) kz = ((q:Nat):Int)∧((q:Nat):Int)≤((tx l).size:Int)∧q≤(tx l).size∧(tx l).extract 0 q = tx (l.take k):=by
 subst hk
 have hs:=tx_size' l
 exact ⟨min l.length k,by rw [hs];omega,by rw [hs];omega,by rw [hs];omega,take_tx l k⟩
def FL0:FL:=⟨0,⟨#[]⟩,⟨#[]⟩,none,0,0,0,0,0,0,0,⟨#[]⟩,0,false,none,0,0,0,⟨#[]⟩,⟨#[]⟩⟩
theorem FLB.fr {W:World} {b:Nat} {F:FL} (h:FLB W b F) (j:Nat):W.frozen? ⟨b,j,none⟩ = false:=by unfold FLB at h;simp [World.frozen?,h]
theorem FLB.other {W:World} {b c o:Nat} {F:FL} {v:Value} (h:FLB W b F) (hn:b≠c):FLB (W.setCell ⟨c,o,none⟩ v) b F:=(set_other hn).trans h
theorem FLB.set2 {W:World} {b:Nat} {F:FL} (h:FLB W b F) (u v:ByteArray):FLB ((W.setCell ⟨b,1,none⟩ (.string u)).setCell ⟨b,2,none⟩ (.string v)) b { F with nm:=u,lb:=v }:=by
 unfold FLB
 rw [set_block (set_block h _) _]
 rfl
theorem FLB.set3 {W:World} {b:Nat} {F:FL} (h:FLB W b F) (u v:ByteArray):FLB ((W.setCell ⟨b,14,none⟩ (.string u)).setCell ⟨b,15,none⟩ (.string v)) b { F with sh:=u,ck:=v }:=by
 unfold FLB
 rw [set_block (set_block h _) _]
 rfl
theorem FLB.set4 {W:World} {b:Nat} {F:FL} (h:FLB W b F) (u:ByteArray):FLB (W.setCell ⟨b,9,none⟩ (.string u)) b { F with ds:=u }:=by
 unfold FLB
 rw [set_block h _]
 rfl
theorem FLB.set5 {W:World} {b:Nat} {F:FL} (h:FLB W b F) (x:Option Addr) (n c:Nat):FLB (W.setCell ⟨b,12,none⟩ (.slice x n c)) b { F with xl:=x,nl:=n,cl:=c }:=by
 unfold FLB
 rw [set_block h _]
 rfl
theorem FLB.set6 {W:World} {b:Nat} {F:FL} (h:FLB W b F) (x:Option Addr) (n c:Nat):FLB (W.setCell ⟨b,3,none⟩ (.slice x n c)) b { F with xo:=x,no:=n,co:=c }:=by
 unfold FLB
 rw [set_block h _]
 rfl
structure OpI (We:World) (L:List Bs) (v:Value) (W:World):Prop where
 row:W.ownsRow We.heap.size 9 1 v L.length (strs L)
 bel:Below We.heap.size We W
theorem OpI.app {w1 W w2:World} {L:List Bs} {v v':Value} {X:Bs} {o:Obj} (h:OpI w1 L v W) (ho:w2.ownsRow w1.heap.size 9 1 v' (L.length + 1) (strs L ++ [.string (tx X)])) (hg:(W.alloc o).drew.grownBy w2 v.ownBlock):OpI w1 (L ++ [X]) v' w2:=
 ⟨by rw [show strs (L ++ [X]) = strs L ++ [.string (tx X)] by simp [strs],List.length_append];exact ho,(h.bel.alloc h.bel.size o).drew.grown hg (by have:=h.bel.size;simp;omega) (fun j hj=>(h.row.lt j hj).1)⟩
theorem OpI.drewN {w1 W:World} {L:List Bs} {v:Value} (h:OpI w1 L v W) (n:Nat):OpI w1 L v (W.drewN n):=⟨row_kept h.row (fun _ _=>rfl),h.bel.trans ⟨rfl,rfl,rfl,Nat.le_refl _,fun _ _=>rfl⟩⟩
def fewO (l:List Bs) (j:Nat):List Bs:=(l.take j).map (·.take 300)
theorem fewO_len {l:List Bs} {j:Nat} (h:j≤l.length):(fewO l j).length = j:=by unfold fewO;rw [List.length_map,List.length_take];omega
theorem fewO_next {l:List Bs} {j:Nat} (h:j < l.length):fewO l (j + 1) = fewO l j ++ [(l.getD j []).take 300]:=by
 unfold fewO
 rw [List.take_add_one,List.map_append,List.getElem?_eq_getElem h,List.getD_eq_getElem?_getD,List.getElem?_eq_getElem h]
 rfl
theorem lfield (f:Fld) (xo:Option Addr) (co:Nat) (xl:Option Addr) (cl:Nat) (w:World) (hA:FA w f xo co xl cl) :
  Calls Tryz.prog 11 #[(f.fl xo co xl cl).v] w fun e w'=>∃ yo yc,e = .returned ((fewF f).fl yo yc xl cl).v∧(∃ base,w.heap.size≤base∧w'.ownsRow base 9 1 (.slice yo (fewF f).op.length yc) (fewF f).op.length (strs (fewF f).op))∧Below w.heap.size w w':=by
 have HA:=hid hA
 obtain ⟨q1,m1,n1,p1,x1⟩:=cut_facts f.nm 40 40 rfl
 obtain ⟨q2,m2,n2,p2,x2⟩:=cut_facts f.lb 400 400 rfl
 obtain ⟨q3,m3,n3,p3,x3⟩:=cut_facts f.sh 300 300 rfl
 obtain ⟨q4,m4,n4,p4,x4⟩:=cut_facts f.ck 300 300 rfl
 obtain ⟨q5,m5,n5,p5,x5⟩:=cut_facts f.d.s 300 300 rfl
 have HX1:=hid x1
 have HX2:=hid x2
 have HX3:=hid x3
 have HX4:=hid x4
 have HX5:=hid x5
 obtain ⟨q6,m6,n6,HX6⟩:∃ q:Nat,min ((f.d.l.length:Nat):Int) 300 = ((q:Nat):Int)∧((q:Nat):Int)≤((cl:Nat):Int)∧Hid ((f.d.l.take 300).length = q):=by
  obtain ⟨_,c,he,hc,_⟩:=hA.l
  cases he
  exact ⟨min f.d.l.length 300,by omega,by omega,hid (by rw [List.length_take];omega)⟩
 clear x1 x2 x3 x4 x5 hA
 obtain ⟨k,nm,lb,op,mn,mx,lo,hi,st,⟨ds,dn,db,dl,df⟩,sh,ck⟩:=f
 unfold Fld.fl FL.v FL.a
 simp only at m1 m2 m3 m4 m5 m6 HX6 n1 n2 n3 n4 n5 p1 p2 p3 p4 p5 HX1 HX2 HX3 HX4 HX5 ⊢
 have HZ:Hid (∀ o1 o2,FLB ((w.alloc o1).alloc (.cells FL0.a 42)) (w.heap.size + 1) FL0∧Below w.heap.size w ((w.alloc o1).alloc o2)):=hid (fun o1 o2=>⟨heap_at (heap_alloc_new _ _) (by simp),((Below.refl _ _).alloc (Nat.le_refl _) _).alloc (by simp) _⟩)
 obtain ⟨B1,hB1⟩:∃ W1,W1 = (w.alloc (.cells #[.int .i64 k,.string (tx nm),.string (tx lb),.slice xo op.length co,.int .i64 mn,.int .i64 mx,.float .f64 lo,.float .f64 hi,.float .f64 st,.string (tx ds),.int .i64 dn,.bool db,.slice xl dl.length cl,.float .f64 df,.string (tx sh),.string (tx ck)] 42)).alloc (.cells FL0.a 42):=⟨_,rfl⟩
 have HFB:Hid (FLB B1 w.heap.size ⟨k,tx nm,tx lb,xo,op.length,co,mn,mx,lo,hi,st,tx ds,dn,db,xl,dl.length,cl,df,tx sh,tx ck⟩):=hid (by rw [hB1];exact (heap_alloc_old _ _ (by simp)).trans (heap_alloc_new _ _))
 have HF0:Hid (FLB B1 (w.heap.size + 1) FL0):=hid (by rw [hB1];exact (HZ.out _ (.cells #[] 0)).1)
 have HBL:Hid (Below w.heap.size w B1):=hid (by rw [hB1];exact (HZ.out _ _).2)
 have HSZ:Hid (B1.heap.size = w.heap.size + 2):=hid (by rw [hB1];simp)
 unfold FL.a FL0 at hB1
 clear HZ
 go_enter Tryz.func11,Tryz.ntmps11
 go_upto_region 1 with (fail)
 rw [←hB1]
 clear hB1
 go_cut [] (fun wx=>Hid (FLB wx w.heap.size ⟨k,(tx nm).extract 0 q1,(tx lb).extract 0 q2,xo,op.length,co,mn,mx,lo,hi,st,tx ds,dn,db,xl,dl.length,cl,df,tx sh,tx ck⟩∧FLB wx (w.heap.size + 1) FL0∧Below w.heap.size w wx))
 case first=>
  obtain ⟨_,c1,c2,_⟩:=HFB.out.cells
  have f1:=HFB.out.fr 1
  have f2:=HFB.out.fr 2
  have hlt:=HFB.out.lt
  refine wp_region_S (fun w'=>w'.cell? ⟨w.heap.size,1,none⟩ = some (.string (tx nm))∧w'.cell? ⟨w.heap.size,2,none⟩ = some (.string (tx lb))) [15,17] (by kernel_rfl) ?_
  refine tkS (i:=0) ?_
  try simp only [Act.put,zz1,zz2,zz3,zz4,zz6]
  refine ldS (i:=1) ⟨by go_simp,by go_simp⟩ ?_
  try simp only [Act.put,zz1,zz2,zz3,zz4,zz5,zz6]
  refine tkS (i:=2) ?_
  try simp only [Act.put,zz1,zz2,zz3,zz4,zz5,zz6]
  refine ldS (i:=3) ⟨by go_simp,by go_simp⟩ ?_
  try simp only [Act.put,zz1,zz2,zz3,zz4,zz5,zz6]
  refine tkS (i:=4) ?_
  try simp only [Act.put,zz1,zz2,zz3,zz4,zz5,zz6]
  refine tkS (i:=5) ?_
  try simp only [Act.put,zz1,zz2,zz3,zz4,zz5,zz6]
  refine tkS (i:=6) ?_
  try simp only [Act.put,zz1,zz2,zz3,zz4,zz5,zz6]
  refine tkS (i:=7) ?_
  try simp only [Act.put,zz1,zz2,zz3,zz4,zz5,zz6]
  refine ldS (i:=8) ⟨by go_simp,by go_simp⟩ ?_
  try simp only [Act.put,zz1,zz2,zz3,zz4,zz5,zz6]
  refine tkS (i:=9) ?_
  try simp only [Act.put,zz1,zz2,zz3,zz4,zz5,zz6]
  refine ldS (i:=10) ⟨by go_simp,by go_simp⟩ ?_
  try simp only [Act.put,zz1,zz2,zz3,zz4,zz5,zz6]
  refine tkS (i:=11) ?_
  try simp only [Act.put,zz1,zz2,zz3,zz4,zz5,zz6]
  refine tkS (i:=12) ?_
  try simp only [Act.put,zz1,zz2,zz3,zz4,zz5,zz6]
  refine tkS (i:=13) ?_
  try simp only [Act.put,zz1,zz2,zz3,zz4,zz5,zz6]
  refine tkS (i:=14) ?_
  try simp only [Act.put,zz1,zz2,zz3,zz4,zz5,zz6]
  refine anyS_store (i:=15) rfl (by kernel_rfl) (by decide) (fun K hK=>?_)
  go_simp
  refine hK _ _ ?_
  clear hK K
  refine tkS (i:=16) ?_
  try simp only [Act.put,zz1,zz4]
  refine anyS_store (i:=17) rfl (by kernel_rfl) (by decide) (fun K hK=>?_)
  go_simp
  refine hK _ _ ?_
  clear hK K
  refine anyS_done (by kernel_rfl) ?_
  go_wp2
  go_meet
  exact hid ⟨HFB.out.set2 _ _,(HF0.out.other (by omega)).other (by omega),((HBL.out.setCell (Nat.le_refl _) _).setCell (Nat.le_refl _) _).drew⟩
 case rest=>
  have HFc:=hid hcut.out.1
  have HF0c:=hid hcut.out.2.1
  have HBLc:=hid hcut.out.2.2
  clear hcut HFB HF0 HBL HSZ
  obtain ⟨_,_,_,_,_,_,_,_,_,_,_,_,_,_,c14,c15⟩:=HFc.out.cells
  have f14:=HFc.out.fr 14
  have f15:=HFc.out.fr 15
  have hlt:=HFc.out.lt
  dsimp only at c14 c15
  go_upto_region 2 with (fail)
  go_cut [] (fun wx=>Hid (FLB wx w.heap.size ⟨k,(tx nm).extract 0 q1,(tx lb).extract 0 q2,xo,op.length,co,mn,mx,lo,hi,st,tx ds,dn,db,xl,dl.length,cl,df,(tx sh).extract 0 q3,(tx ck).extract 0 q4⟩∧FLB wx (w.heap.size + 1) FL0∧Below w.heap.size w wx))
  case first=>
   refine wp_region_S (fun w'=>w'.cell? ⟨w.heap.size,14,none⟩ = some (.string (tx sh))∧w'.cell? ⟨w.heap.size,15,none⟩ = some (.string (tx ck))) [15,17] (by kernel_rfl) ?_
   refine tkS (i:=0) ?_
   try simp only [Act.put,zz1,zz2,zz3,zz4,zz6]
   refine ldS (i:=1) ⟨by go_simp,by go_simp⟩ ?_
   try simp only [Act.put,zz1,zz2,zz3,zz4,zz5,zz6]
   refine tkS (i:=2) ?_
   try simp only [Act.put,zz1,zz2,zz3,zz4,zz5,zz6]
   refine ldS (i:=3) ⟨by go_simp,by go_simp⟩ ?_
   try simp only [Act.put,zz1,zz2,zz3,zz4,zz5,zz6]
   refine tkS (i:=4) ?_
   try simp only [Act.put,zz1,zz2,zz3,zz4,zz5,zz6]
   refine tkS (i:=5) ?_
   try simp only [Act.put,zz1,zz2,zz3,zz4,zz5,zz6]
   refine tkS (i:=6) ?_
   try simp only [Act.put,zz1,zz2,zz3,zz4,zz5,zz6]
   refine tkS (i:=7) ?_
   try simp only [Act.put,zz1,zz2,zz3,zz4,zz5,zz6]
   refine ldS (i:=8) ⟨by go_simp,by go_simp⟩ ?_
   try simp only [Act.put,zz1,zz2,zz3,zz4,zz5,zz6]
   refine tkS (i:=9) ?_
   try simp only [Act.put,zz1,zz2,zz3,zz4,zz5,zz6]
   refine ldS (i:=10) ⟨by go_simp,by go_simp⟩ ?_
   try simp only [Act.put,zz1,zz2,zz3,zz4,zz5,zz6]
   refine tkS (i:=11) ?_
   try simp only [Act.put,zz1,zz2,zz3,zz4,zz5,zz6]
   refine tkS (i:=12) ?_
   try simp only [Act.put,zz1,zz2,zz3,zz4,zz5,zz6]
   refine tkS (i:=13) ?_
   try simp only [Act.put,zz1,zz2,zz3,zz4,zz5,zz6]
   refine tkS (i:=14) ?_
   try simp only [Act.put,zz1,zz2,zz3,zz4,zz5,zz6]
   refine anyS_store (i:=15) rfl (by kernel_rfl) (by decide) (fun K hK=>?_)
   go_simp
   refine hK _ _ ?_
   clear hK K
   refine tkS (i:=16) ?_
   try simp only [Act.put,zz1,zz4]
   refine anyS_store (i:=17) rfl (by kernel_rfl) (by decide) (fun K hK=>?_)
   go_simp
   refine hK _ _ ?_
   clear hK K
   refine anyS_done (by kernel_rfl) ?_
   go_wp2
   go_meet
   exact hid ⟨HFc.out.set3 _ _,(HF0c.out.other (by omega)).other (by omega),((HBLc.out.setCell (Nat.le_refl _) _).setCell (Nat.le_refl _) _).drew⟩
  case rest=>
   have HFd:=hid hcut.out.1
   have HF0d:=hid hcut.out.2.1
   have HBLd:=hid hcut.out.2.2
   clear hcut HFc HF0c HBLc c14 c15 f14 f15 hlt
   obtain ⟨_,_,_,_,_,_,_,_,_,c9,_,_,c12,_,_,_⟩:=HFd.out.cells
   have f9:=HFd.out.fr 9
   have f12:=HFd.out.fr 12
   have hlt:=HFd.out.lt
   dsimp only at c9 c12
   go_upto_region 5 with (fail)
   have HFe:Hid (FLB ((wc.setCell ⟨w.heap.size,9,none⟩ (Value.string ((tx ds).extract 0 q5))).setCell ⟨w.heap.size,12,none⟩ (Value.slice xl q6 cl)) w.heap.size ⟨k,(tx nm).extract 0 q1,(tx lb).extract 0 q2,xo,op.length,co,mn,mx,lo,hi,st,(tx ds).extract 0 q5,dn,db,xl,q6,cl,df,(tx sh).extract 0 q3,(tx ck).extract 0 q4⟩):=hid ((HFd.out.set4 ((tx ds).extract 0 q5)).set5 xl q6 cl)
   have HF0e:Hid (FLB ((wc.setCell ⟨w.heap.size,9,none⟩ (Value.string ((tx ds).extract 0 q5))).setCell ⟨w.heap.size,12,none⟩ (Value.slice xl q6 cl)) (w.heap.size + 1) FL0):=hid ((HF0d.out.other (by omega)).other (by omega))
   have HBLe:Hid (Below w.heap.size w ((wc.setCell ⟨w.heap.size,9,none⟩ (Value.string ((tx ds).extract 0 q5))).setCell ⟨w.heap.size,12,none⟩ (Value.slice xl q6 cl))):=hid ((HBLd.out.setCell (Nat.le_refl _) _).setCell (Nat.le_refl _) _)
   generalize (wc.setCell ⟨w.heap.size,9,none⟩ (Value.string ((tx ds).extract 0 q5))).setCell ⟨w.heap.size,12,none⟩ (Value.slice xl q6 cl) = We at HFe HF0e HBLe ⊢
   clear HFd HF0d HBLd c9 c12 f9 f12 hlt m1 m2 m3 m4 m5 m6 n1 n2 n3 n4 n5 n6 p1 p2 p3 p4 p5
   have HOP:=hid (fun g o (W':World) (he:xo = some ⟨g,o,none⟩) (hb:Below We.heap.size We W') j (hj:j < op.length)=>show W'.cell? ⟨g,o + j,none⟩ = some (.string (tx (op.getD j []))) from by
    obtain ⟨g1,o1,he1,hg,hc⟩:=HA.out.op.cells (by intro h;rw [show op = [] from h] at hj;exact absurd hj (by simp))
    obtain ⟨rfl,rfl⟩:g = g1∧o = o1:=by rw [he] at he1;simpa using he1
    have h1:g < We.heap.size:=Nat.lt_of_lt_of_le hg HBLe.out.size
    rw [hb.cell (p:=⟨g,o + j,none⟩) h1,HBLe.out.cell (p:=⟨g,o + j,none⟩) hg]
    exact hc j hj)
   have HXO:Hid (0 < op.length→∃ g o,xo = some ⟨g,o,none⟩):=hid (fun h=>by
    obtain ⟨g,o,he,_⟩:=HA.out.op.cells (by intro h2;rw [show op = [] from h2] at h;exact absurd h (by simp))
    exact ⟨g,o,he⟩)
   have HMX:Hid (op.length≤9223372036854775807):=hid (Nat.le_trans HA.out.op.cap HA.out.op.max)
   obtain ⟨i0,hi0,hz0,hz1,hz2⟩:=info_parts9
   have HNF:=hid (And.intro hi0 (And.intro hz0 (And.intro hz1 hz2)))
   clear hi0 hz0 hz1 hz2
   go_wp2
   go_loopw [3,4] (fun s i wr=>∃ j:Nat,i = .int .i64 j∧j≤op.length∧j≤40∧(∃ y c,s = .slice y j c)∧Hid (OpI We (fewO op j) s wr)) (fun _ i _=>40 - (intOf i).toNat)
   case atStart=>exact ⟨0,rfl,Nat.zero_le _,by omega,⟨none,0,rfl⟩,hid ⟨World.ownsRow_nil _ _ _ _,Below.refl _ _⟩⟩
   case round=>
    obtain ⟨j,rfl,hj1,hj2,⟨y,c,rfl⟩,HR⟩:=hrel
    have c3:=(HFe.out.below HR.out.bel).cells.2.2.2.1
    dsimp only at c3
    have hmx:=HMX.out
    by_cases hlt:j < op.length
    ·by_cases h40:j < 40
     ·obtain ⟨g,o,rfl⟩:=HXO.out (by omega)
      have HCL:=hid (HOP.out g o)
      obtain ⟨q,m1,n1,p1,x1⟩:=cut_facts (op.getD j []) 300 300 rfl
      have HX:=hid x1
      clear x1
      have HTT:Hid (∀ W',Below We.heap.size We W'→W'.cell? ⟨g,o + j,none⟩ = some (.string (tx (op.getD j [])))):=hid (fun W' hb=>HCL.out W' rfl hb j hlt)
      have HSC:Hid (∀ W',Below We.heap.size We W'→W'.cell? ⟨w.heap.size,3,none⟩ = some (.slice (some ⟨g,o,none⟩) op.length co)):=hid (fun W' hb=>(HFe.out.below hb).cells.2.2.2.1)
      obtain ⟨X,hX⟩:∃ X,X = (op.getD j []).take 300:=⟨_,rfl⟩
      have HNX:Hid (fewO op (j + 1) = fewO op j ++ [X]):=hid (by rw [hX];exact fewO_next hlt)
      rw [←hX] at HX
      generalize tx (op.getD j []) = T at m1 n1 p1 HX HTT
      have k1:(0:Int)≤(j:Int):=by omega
      have k2:(j:Int) < (op.length:Int):=by omega
      have k3:(j:Int) < 40:=by omega
      clear hX HCL HOP HXO HA
      go_upto_region 9 with (fail)
      have HRW:Hid (wr.ownsRow We.heap.size 9 1 (.slice y j c) j (strs (fewO op j))):=hid (by have h:=HR.out.row;rw [fewO_len hj1] at h;exact h)
      have HS0:Hid (wr.drew.cell? ⟨w.heap.size,3,none⟩ = some (.slice (some ⟨g,o,none⟩) op.length co)∧wr.drew.cell? ⟨g,o + j,none⟩ = some (.string T)):=hid ⟨HSC.out _ HR.out.bel.drew,HTT.out _ HR.out.bel.drew⟩
      refine wp_region_S (fun w'=>w'.cell? ⟨w.heap.size,3,none⟩ = some (.slice (some ⟨g,o,none⟩) op.length co)∧w'.cell? ⟨g,o + j,none⟩ = some (.string T)) [] (by kernel_rfl) ?_
      change wpAnyS _ _ _ _ _ _ _ _ _ (World.drew _)
      refine tkS (i:=0) ?_
      try simp only [Act.put,zz1,zz2,zz3,zz4,zz6]
      refine tkS (i:=1) ?_
      try simp only [Act.put,zz1,zz2,zz3,zz4,zz5,zz6]
      refine ldS (i:=2) HS0.out ?_
      try simp only [Act.put,zz1,zz2,zz3,zz4,zz5,zz6]
      refine tkS (i:=3) ?_
      try simp only [Act.put,zz1,zz2,zz3,zz4,zz5,zz6]
      refine tkS (i:=4) ?_
      try simp only [Act.put,zz1,zz2,zz3,zz4,zz5,zz6]
      refine ldS (i:=5) HS0.out ?_
      try simp only [Act.put,zz1,zz2,zz3,zz4,zz5,zz6]
      refine tkS (i:=6) ?_
      try simp only [Act.put,zz1,zz2,zz3,zz4,zz5,zz6]
      refine ldS (i:=7) HS0.out ?_
      try simp only [Act.put,zz1,zz2,zz3,zz4,zz5,zz6]
      refine tkS (i:=8) ?_
      try simp only [Act.put,zz1,zz2,zz3,zz4,zz5,zz6]
      refine tkS (i:=9) ?_
      try simp only [Act.put,zz1,zz2,zz3,zz4,zz5,zz6]
      refine ldS (i:=10) HS0.out ?_
      try simp only [Act.put,zz1,zz2,zz3,zz4,zz5,zz6]
      refine tkS (i:=11) ?_
      try simp only [Act.put,zz1,zz2,zz3,zz4,zz5,zz6]
      refine tkS (i:=12) ?_
      try simp only [Act.put,zz1,zz2,zz3,zz4,zz5,zz6]
      refine tkS (i:=13) ?_
      try simp only [Act.put,zz1,zz2,zz3,zz4,zz5,zz6]
      refine anyS_step (i:=14) rfl (by kernel_rfl) (fun K hK=>?_)
      go_simp
      refine hK _ _ ⟨HSC.out _ (HR.out.bel.drew.alloc (by have:=HR.out.bel.size;simp;omega) _),HTT.out _ (HR.out.bel.drew.alloc (by have:=HR.out.bel.size;simp;omega) _)⟩ ?_
      clear hK K
      refine anyS_step (i:=15) rfl (by kernel_rfl) (fun K hK=>?_)
      refine step_append_own rfl _ _ 23 rfl We.heap.size 9 i0 (.string ⟨#[]⟩) 1 16 Tryz.underlying23 HNF.out.1 HNF.out.2.1 HNF.out.2.2.1 HNF.out.2.2.2 rfl (by decide) _ _ _ rfl (HRW.out.alloc _).drew ⟨wr.heap.size,0,none⟩ 1 1 [.string (T.extract 0 q)] rfl rfl (cell_one_new wr (.string (T.extract 0 q)) 9) (by simp [Value.oneCell']) (by unfold maxLen;omega) (by omega) (by have:=HR.out.bel.size;simp;omega) ?_
      intro v4 w4 ho4 hg4 _
      obtain ⟨y4,c4,rfl⟩:=ownsRow_is ho4
      have HR4:Hid (OpI We (fewO op (j + 1)) (.slice y4 (j + 1) c4) w4):=hid (by
       rw [HNX.out]
       refine HR.out.app ?_ hg4
       rw [fewO_len hj1,←HX.out]
       exact ho4)
      clear ho4 hg4
      refine hK _ _ ⟨HSC.out _ HR4.out.bel,HTT.out _ HR4.out.bel⟩ ?_
      clear hK K
      try simp only [Act.put,zz1,zz4]
      refine tkS (i:=16) ?_
      refine anyS_done (by kernel_rfl) ?_
      go_wp2
      go_roundw
      case rel=>exact ⟨j + 1,by go_num,by omega,by omega,⟨y4,c4,rfl⟩,HR4⟩
      case measure=>simp [intOf];omega
     ·have HJ4:Hid (j = 40):=hid (by omega)
      have f3:=(HFe.out.below HR.out.bel).fr 3
      have HF6:Hid (FLB (wr.setCell ⟨w.heap.size,3,none⟩ (.slice y j c)) w.heap.size ⟨k,(tx nm).extract 0 q1,(tx lb).extract 0 q2,y,j,c,mn,mx,lo,hi,st,(tx ds).extract 0 q5,dn,db,xl,q6,cl,df,(tx sh).extract 0 q3,(tx ck).extract 0 q4⟩):=hid ((HFe.out.below HR.out.bel).set6 y j c)
      have HF7:Hid (FLB (wr.setCell ⟨w.heap.size,3,none⟩ (.slice y j c)) (w.heap.size + 1) FL0):=hid ((HF0e.out.below HR.out.bel).other (by omega))
      have HB6:Hid (Below w.heap.size w (wr.setCell ⟨w.heap.size,3,none⟩ (.slice y j c))):=hid ((HBLe.out.trans (below_le HR.out.bel HBLe.out.size)).setCell (Nat.le_refl _) _)
      have HR6:Hid ((wr.setCell ⟨w.heap.size,3,none⟩ (.slice y j c)).ownsRow We.heap.size 9 1 (.slice y j c) j (strs (fewO op j))):=hid (by
       have h:=HR.out.row
       rw [fewO_len hj1] at h
       exact row_kept h (fun z hz=>set_other (by have:=(h.lt z hz).1;have:=HFe.out.lt;omega)))
      have HOO:Hid (fewO op j = (op.take 40).map (·.take 300)):=hid (by unfold fewO;congr 1;rw [HJ4.out])
      have HJL:Hid ((op.take 40).length = j):=hid (by rw [List.length_take];omega)
      have HWL:=hid HF0e.out.lt
      clear HR HFe HF0e hmx HOP HXO HMX HNF
      go_upto_region 11 with (fail)
      generalize wr.setCell ⟨w.heap.size,3,none⟩ (.slice y j c) = W6 at HF6 HF7 HB6 HR6 ⊢
      clear c3 f3
      obtain ⟨c0,c1,c2,c3,c4,c5,c6,c7,c8,c9,c10,c11,c12,c13,c14,c15⟩:=HF6.out.cells
      dsimp only at c0 c1 c2 c3 c4 c5 c6 c7 c8 c9 c10 c11 c12 c13 c14 c15
      obtain ⟨d0,d1,d2,d3,d4,d5,d6,d7,d8,d9,d10,d11,d12,d13,d14,d15⟩:=HF7.out.cells
      have f0:=HF7.out.fr 0
      have f1:=HF7.out.fr 1
      have f2:=HF7.out.fr 2
      have f3:=HF7.out.fr 3
      have f4:=HF7.out.fr 4
      have f5:=HF7.out.fr 5
      have f6:=HF7.out.fr 6
      have f7:=HF7.out.fr 7
      have f8:=HF7.out.fr 8
      have f9:=HF7.out.fr 9
      have f10:=HF7.out.fr 10
      have f11:=HF7.out.fr 11
      have f12:=HF7.out.fr 12
      have f13:=HF7.out.fr 13
      have f14:=HF7.out.fr 14
      have f15:=HF7.out.fr 15
      have hlt7:=HF7.out.lt
      have hwe:w.heap.size + 1 < We.heap.size:=HWL.out
      go_wp2
      have hp:=putF_blk HF7.out ⟨k,(tx nm).extract 0 q1,(tx lb).extract 0 q2,y,j,c,mn,mx,lo,hi,st,(tx ds).extract 0 q5,dn,db,xl,q6,cl,df,(tx sh).extract 0 q3,(tx ck).extract 0 q4⟩
      have hr9:(putF W6 (w.heap.size + 1) ⟨k,(tx nm).extract 0 q1,(tx lb).extract 0 q2,y,j,c,mn,mx,lo,hi,st,(tx ds).extract 0 q5,dn,db,xl,q6,cl,df,(tx sh).extract 0 q3,(tx ck).extract 0 q4⟩).ownsRow We.heap.size 9 1 (.slice y j c) j (strs (fewO op j)):=row_kept HR6.out (fun z hz=>putF_other (by have:=(HR6.out.lt z hz).1;omega) _)
      have hb9:=putF_below HB6.out (show w.heap.size≤w.heap.size + 1 by omega) ⟨k,(tx nm).extract 0 q1,(tx lb).extract 0 q2,y,j,c,mn,mx,lo,hi,st,(tx ds).extract 0 q5,dn,db,xl,q6,cl,df,(tx sh).extract 0 q3,(tx ck).extract 0 q4⟩
      unfold putF at hp hr9 hb9
      unfold FL.a at hp
      dsimp only at hp hr9 hb9
      generalize (World.setCell _ ⟨w.heap.size + 1,15,none⟩ _) = W9 at hp hr9 hb9 ⊢
      refine bodyPost_ret (results_cell rfl _ _ (w.heap.size + 1) 42 _ _ _ rfl hp Tryz.underlying42 rfl (by kernel_rfl)) rfl ?_
      refine ⟨y,c,?_,⟨We.heap.size,by omega,?_⟩,hb9⟩
      ·unfold fewF fewV
       dsimp only
       rw [HX1.out,HX2.out,HX3.out,HX4.out,HX5.out,HX6.out,List.length_map,HJL.out]
      ·have h9:=hr9
       rw [HOO.out] at h9
       unfold fewF
       dsimp only
       rw [List.length_map,HJL.out]
       exact h9
    ·have HJN:Hid (j = op.length):=hid (by omega)
     have f3:=(HFe.out.below HR.out.bel).fr 3
     have HF6:Hid (FLB (wr.setCell ⟨w.heap.size,3,none⟩ (.slice y j c)) w.heap.size ⟨k,(tx nm).extract 0 q1,(tx lb).extract 0 q2,y,j,c,mn,mx,lo,hi,st,(tx ds).extract 0 q5,dn,db,xl,q6,cl,df,(tx sh).extract 0 q3,(tx ck).extract 0 q4⟩):=hid ((HFe.out.below HR.out.bel).set6 y j c)
     have HF7:Hid (FLB (wr.setCell ⟨w.heap.size,3,none⟩ (.slice y j c)) (w.heap.size + 1) FL0):=hid ((HF0e.out.below HR.out.bel).other (by omega))
     have HB6:Hid (Below w.heap.size w (wr.setCell ⟨w.heap.size,3,none⟩ (.slice y j c))):=hid ((HBLe.out.trans (below_le HR.out.bel HBLe.out.size)).setCell (Nat.le_refl _) _)
     have HR6:Hid ((wr.setCell ⟨w.heap.size,3,none⟩ (.slice y j c)).ownsRow We.heap.size 9 1 (.slice y j c) j (strs (fewO op j))):=hid (by
      have h:=HR.out.row
      rw [fewO_len hj1] at h
      exact row_kept h (fun z hz=>set_other (by have:=(h.lt z hz).1;have:=HFe.out.lt;omega)))
     have HOO:Hid (fewO op j = (op.take 40).map (·.take 300)):=hid (by unfold fewO;congr 1;have:=HJN.out;rw [List.take_of_length_le (by omega),List.take_of_length_le (by omega)])
     have HJL:Hid ((op.take 40).length = j):=hid (by rw [List.length_take];omega)
     have HWL:=hid HF0e.out.lt
     clear HR HFe HF0e hmx HOP HXO HMX HNF
     go_upto_region 11 with (fail)
     generalize wr.setCell ⟨w.heap.size,3,none⟩ (.slice y j c) = W6 at HF6 HF7 HB6 HR6 ⊢
     clear c3 f3
     obtain ⟨c0,c1,c2,c3,c4,c5,c6,c7,c8,c9,c10,c11,c12,c13,c14,c15⟩:=HF6.out.cells
     dsimp only at c0 c1 c2 c3 c4 c5 c6 c7 c8 c9 c10 c11 c12 c13 c14 c15
     obtain ⟨d0,d1,d2,d3,d4,d5,d6,d7,d8,d9,d10,d11,d12,d13,d14,d15⟩:=HF7.out.cells
     have f0:=HF7.out.fr 0
     have f1:=HF7.out.fr 1
     have f2:=HF7.out.fr 2
     have f3:=HF7.out.fr 3
     have f4:=HF7.out.fr 4
     have f5:=HF7.out.fr 5
     have f6:=HF7.out.fr 6
     have f7:=HF7.out.fr 7
     have f8:=HF7.out.fr 8
     have f9:=HF7.out.fr 9
     have f10:=HF7.out.fr 10
     have f11:=HF7.out.fr 11
     have f12:=HF7.out.fr 12
     have f13:=HF7.out.fr 13
     have f14:=HF7.out.fr 14
     have f15:=HF7.out.fr 15
     have hlt7:=HF7.out.lt
     have hwe:w.heap.size + 1 < We.heap.size:=HWL.out
     go_wp2
     have hp:=putF_blk HF7.out ⟨k,(tx nm).extract 0 q1,(tx lb).extract 0 q2,y,j,c,mn,mx,lo,hi,st,(tx ds).extract 0 q5,dn,db,xl,q6,cl,df,(tx sh).extract 0 q3,(tx ck).extract 0 q4⟩
     have hr9:(putF W6 (w.heap.size + 1) ⟨k,(tx nm).extract 0 q1,(tx lb).extract 0 q2,y,j,c,mn,mx,lo,hi,st,(tx ds).extract 0 q5,dn,db,xl,q6,cl,df,(tx sh).extract 0 q3,(tx ck).extract 0 q4⟩).ownsRow We.heap.size 9 1 (.slice y j c) j (strs (fewO op j)):=row_kept HR6.out (fun z hz=>putF_other (by have:=(HR6.out.lt z hz).1;omega) _)
     have hb9:=putF_below HB6.out (show w.heap.size≤w.heap.size + 1 by omega) ⟨k,(tx nm).extract 0 q1,(tx lb).extract 0 q2,y,j,c,mn,mx,lo,hi,st,(tx ds).extract 0 q5,dn,db,xl,q6,cl,df,(tx sh).extract 0 q3,(tx ck).extract 0 q4⟩
     unfold putF at hp hr9 hb9
     unfold FL.a at hp
     dsimp only at hp hr9 hb9
     generalize (World.setCell _ ⟨w.heap.size + 1,15,none⟩ _) = W9 at hp hr9 hb9 ⊢
     refine bodyPost_ret (results_cell rfl _ _ (w.heap.size + 1) 42 _ _ _ rfl hp Tryz.underlying42 rfl (by kernel_rfl)) rfl ?_
     refine ⟨y,c,?_,⟨We.heap.size,by omega,?_⟩,hb9⟩
     ·unfold fewF fewV
      dsimp only
      rw [HX1.out,HX2.out,HX3.out,HX4.out,HX5.out,HX6.out,List.length_map,HJL.out]
     ·have h9:=hr9
      rw [HOO.out] at h9
      unfold fewF
      dsimp only
      rw [List.length_map,HJL.out]
      exact h9
end Go.Proofs.YtpcbamcelpcigaaGreat
namespace Go.Proofs.YtpcbamcelpcigaaGreat
open Go.RowKit Go.Shelf
theorem TxA.below {w W:World} {x:Option Addr} {c:Nat} {L:List Bs} (h:TxA w x c L) (hb:Below w.heap.size w W):TxA W x c L:=
 ⟨h.cap,h.max,fun hn=>by
  obtain ⟨g,o,e,hg,hc⟩:=h.cells hn
  exact ⟨g,o,e,Nat.lt_of_lt_of_le hg hb.size,fun i hi=>(hb.cell (p:=⟨g,o + i,none⟩) hg).trans (hc i hi)⟩⟩
theorem FA.below {w W:World} {f:Fld} {xo:Option Addr} {co:Nat} {xl:Option Addr} {cl:Nat} (h:FA w f xo co xl cl) (hb:Below w.heap.size w W):FA W f xo co xl cl:=
 ⟨h.op.below hb,h.l.below hb,h.cl,h.df⟩
theorem IntV.take {W:World} {x:Option Addr} {c:Nat} {L:List Int} (h:IntV W (.slice x L.length c) L) (k:Nat):IntV W (.slice x (L.take k).length c) (L.take k):=by
 obtain ⟨x',c',e,hc,hn⟩:=h
 cases e
 refine ⟨x,c,rfl,by rw [List.length_take];omega,fun hne=>?_⟩
 have hL:L≠[]:=fun e=>hne (by rw [e];simp)
 obtain ⟨g,o,e,hg,hget⟩:=hn hL
 refine ⟨g,o,e,hg,fun i hi=>?_⟩
 have hik:i < k∧i < L.length:=by rw [List.length_take] at hi;omega
 rw [hget i hik.2,List.getD_eq_getElem?_getD,List.getD_eq_getElem?_getD,List.getElem?_take_of_lt hik.1]
theorem fewV_ok {v:Vle} (h:v.f < 18446744073709551616):VOk (fewV v):=⟨by simp only [fewV,List.length_take];omega,by simp only [fewV,List.length_take];omega,h⟩
theorem fewF_ok {f:Fld} (h:f.d.f < 18446744073709551616):FOk (fewF f):=by
 refine ⟨by simp only [fewF,List.length_map,List.length_take];omega,fun i hi=>?_,by simp only [fewF,List.length_take];omega,by simp only [fewF,List.length_take];omega,by simp only [fewF,List.length_take];omega,fewV_ok h⟩
 have hm:(fewF f).op.getD i [] ∈ (fewF f).op:=by
  rw [List.getD_eq_getElem?_getD,List.getElem?_eq_getElem hi]
  exact List.getElem_mem hi
 obtain ⟨a,_,e⟩:=List.mem_map.1 (show (fewF f).op.getD i [] ∈ (f.op.take 40).map (·.take 300) from hm)
 rw [←e,List.length_take]
 omega
def FewEnd (w:World) (f:Fld) (xl:Option Addr) (cl:Nat) (e:Ending) (w':World):Prop:=∃ (G:FL) (yo:Option Addr) (yc base:Nat),G = (fewF f).fl yo yc xl cl∧e = .returned G.v∧w.heap.size≤base∧w'.ownsRow base 9 1 (.slice yo (fewF f).op.length yc) (fewF f).op.length (strs (fewF f).op)∧Below w.heap.size w w'
theorem field_few (f:Fld) (xo:Option Addr) (co:Nat) (xl:Option Addr) (cl:Nat) (w:World) (hA:FA w f xo co xl cl) :
  Calls Tryz.prog 11 #[(f.fl xo co xl cl).v] w (FewEnd w f xl cl):=
 (lfield f xo co xl cl w hA).mono fun e w' h=>by
  obtain ⟨yo,yc,he,⟨base,hb0,hT⟩,hb⟩:=h
  exact ⟨_,yo,yc,base,rfl,he,hb0,hT,hb⟩
theorem few_op_len (f:Fld):(fewF f).op.length≤40:=by simp only [fewF,List.length_map,List.length_take];omega
theorem few_mem {w W:World} {f:Fld} {yo:Option Addr} {yc base:Nat} {xl:Option Addr} {cl:Nat} (hr:W.ownsRow base 9 1 (.slice yo (fewF f).op.length yc) (fewF f).op.length (strs (fewF f).op)) (hi:IntV w (.slice xl f.d.l.length cl) f.d.l) (hb:Below w.heap.size w W):FM W (fewF f) yo yc xl cl:=
 ⟨TxV.of_row hr (by have:=few_op_len f;omega),(hi.take 300).below hb⟩
theorem call_behind {W3:World} {F:Nat} {args:Array Value} {v:Ending} (h:∀ W,Below W3.heap.size W3 W→Calls Tryz.prog F args W fun e w'=>e = v∧Below W.heap.size W w') :
  ∀ W,Below W3.heap.size W3 W→Calls Tryz.prog F args W fun e w'=>e = v∧Below W3.heap.size W3 w':=
 fun W hW=>(h W hW).mono fun _ _ h=>⟨h.1,hW.trans (below_le h.2 hW.size)⟩
theorem call_behind_eq {W3:World} {F:Nat} {args:Array Value} {v:Ending} (h:∀ W,Calls Tryz.prog F args W fun e w'=>e = v∧W = w') :
  ∀ W,Below W3.heap.size W3 W→Calls Tryz.prog F args W fun e w'=>e = v∧Below W3.heap.size W3 w':=
 fun W hW=>(h W).mono fun _ _ h=>⟨h.1,h.2 ▸ hW⟩
end Go.Proofs.YtpcbamcelpcigaaGreat
namespace Go.Proofs.YtpcbamcelpcigaaGreat
open Go.RowKit Go.Shelf
attribute [local go_sem] run_store_float
def namedB (L:List Bnd) (s:Bs):Bool:=L.any (fun b=>decide (b.nm = s))
theorem named_hit {L:List Bnd} {s:Bs} {j:Nat} (h:j < L.length) (e:L[j].nm = s):namedB L s = true:=by
 unfold namedB
 rw [List.any_eq_true]
 exact ⟨L[j],List.getElem_mem h,by simpa using e⟩
theorem named_end {L:List Bnd} {s:Bs} (h:∀ j (hj:j < L.length),L[j].nm≠s):namedB L s = false:=by
 unfold namedB
 rw [List.any_eq_false]
 intro b hb
 obtain ⟨i,hi,e⟩:=List.mem_iff_getElem.1 hb
 have:=h i hi
 rw [e] at this
 simpa using this
theorem dnamed (s:Bs) (v:Value) (L:List Bnd) (hL:L.length≤1000000) (w:World) (h:BndV w v L):Calls Tryz.prog 52 #[.string (tx s),v] w fun e w'=>e = .returned (.bool (namedB L s))∧Below w.heap.size w w':=by
 obtain ⟨x,cap,rfl,hcap,hx,hc⟩:=h
 have HC:=hid hc
 have HX:=hid hx
 have HIT:=hid (fun j (h:j < L.length) (e:L[j].nm = s)=>named_hit h e)
 have HEND:=hid (fun (h:∀ j (hj:j < L.length),L[j].nm≠s)=>named_end h)
 obtain ⟨R,hR⟩:∃ R,R = namedB L s:=⟨_,rfl⟩
 rw [←hR] at HIT HEND ⊢
 obtain ⟨N,hN⟩:∃ N,N = L.length:=⟨_,rfl⟩
 have HN:=hid hN
 rw [←hN] at hL hcap ⊢
 clear hc hx hN hR
 go_enter Tryz.func52,Tryz.ntmps52
 go_wp2_with fail
 go_loopg [9] N (fun gh i wr=>∃ j:Nat,j + gh = N∧i = .int .i64 j∧Hid (∀ k (hk:k < L.length),k < j→L[k].nm≠s)∧Hid (Below w.heap.size w wr))
 case atStart=>exact ⟨0,by omega,rfl,hid (fun k _ hk=>absurd hk (by omega)),hid (Below.refl _ _)⟩
 case round=>
  obtain ⟨j,hj,rfl,HA,HB⟩:=hrel
  by_cases q:j < N
  ·have hjl:j < L.length:=by have:=HN.out;omega
   obtain ⟨a,rfl⟩:∃ a,x = some a:=by
    cases x with
    | none=>have:=HX.out rfl;rw [this] at hjl;cases hjl
    | some a=>exact ⟨a,rfl⟩
   obtain ⟨e0,e1,e2,e3,e4⟩:=(HC.out a rfl).2 j L[j] (List.getElem?_eq_getElem hjl)
   have hab:a.block < w.heap.size:=(HC.out a rfl).1 (nil_not hjl)
   have hs:∀ k,wr.heap[(a.add k).block]? = w.heap[(a.add k).block]?:=fun k=>by rw [add_block];exact HB.out.block _ hab
   have d0:=cell_same (hs _) e0
   have d1:=cell_same (hs _) e1
   have d2:=cell_same (hs _) e2
   have d3:=cell_same (hs _) e3
   have d4:=cell_same (hs _) e4
   rw [add_lit _ _ _ (by decide)] at d1 d2 d3 d4
   clear e0 e1 e2 e3 e4 hs
   have HI:=hid (HIT.out j hjl)
   have HJ:=hid (show L[j].nm≠s→∀ k (hk:k < L.length),k < j + 1→L[k].nm≠s from fun e k hk h=>by
    rcases Nat.lt_or_ge k j with z | z
    ·exact HA.out k hk z
    ·obtain rfl:k = j:=by omega
     exact e)
   have HBA:=hid (fun o=>HB.out.alloc HB.out.size o)
   obtain ⟨bb,hbb⟩:∃ bb,bb = L[j]:=⟨_,rfl⟩
   rw [←hbb] at d0 d1 d2 d3 d4 HI HJ
   clear hbb HIT HEND HA HB HC
   obtain ⟨nm,t,fn,sv,bv⟩:=bb
   simp only at d0 d1 d2 d3 d4 HI HJ
   by_cases q1:nm = s
   ·have HR:=hid (HI.out q1)
    subst q1
    have b0:((tx nm).toList == (tx nm).toList) = true:=by simp
    clear HI HJ
    go_wp2
    go_ret
    exact ⟨ret_bool HR.out.symm,HBA.out _⟩
   ·have HR:=hid (HJ.out q1)
    have b0:((tx nm).toList == (tx s).toList) = false:=by rw [tx_beq];simpa using q1
    clear HI HJ q1
    go_wp2
    go_roundg (gk - 1)
    case measure=>omega
    case rel=>exact ⟨j + 1,by omega,by go_num,HR,hid (HBA.out _)⟩
  ·have HR:=hid (HEND.out (fun k hk=>HA.out k hk (by have:=HN.out;omega)))
   clear HIT HEND HA HC HX
   go_wp2
   go_ret
   exact ⟨ret_bool HR.out.symm,HB.out⟩
theorem bind_end {fn:Func} {p:Tmp} (h:fn.results = #[.cell p 65]) (tmps:Array Value) (w:World) (g:Nat) (v0 v1 v2 v3 v4:Value) (hp:tmps.getD p undef = .pointer (some ⟨g,0,none⟩))
  (hg:w.heap[g]? = some (.cells #[v0,v1,v2,v3,v4] 65 (0,0))):(results fn tmps).run Tryz.prog w = .ok (.agg #[v0,v1,v2,v3,v4]) w:=
 results_cell h tmps w g 65 _ _ _ hp hg Tryz.underlying65 rfl (by kernel_rfl)
def B5 (W:World) (b:Nat) (t:TypeId) (v0 v1 v2 v3 v4:Value):Prop:=W.heap[b]? = some (.cells #[v0,v1,v2,v3,v4] t (0,0))
theorem B5.lt {W:World} {b t:Nat} {v0 v1 v2 v3 v4:Value} (h:B5 W b t v0 v1 v2 v3 v4):b < W.heap.size:=(Array.getElem?_eq_some_iff.1 h).1
theorem B5.below {W W':World} {b t:Nat} {v0 v1 v2 v3 v4:Value} (h:B5 W b t v0 v1 v2 v3 v4) (hb:Below W.heap.size W W'):B5 W' b t v0 v1 v2 v3 v4:=(hb.block b h.lt).trans h
theorem B5.cells {W:World} {b t:Nat} {v0 v1 v2 v3 v4:Value} (h:B5 W b t v0 v1 v2 v3 v4):W.cell? ⟨b,0,none⟩ = some v0∧W.cell? ⟨b,1,none⟩ = some v1∧W.cell? ⟨b,2,none⟩ = some v2∧W.cell? ⟨b,3,none⟩ = some v3∧W.cell? ⟨b,4,none⟩ = some v4:=by
 unfold B5 at h
 exact ⟨by simp [World.cell?,h],by simp [World.cell?,h],by simp [World.cell?,h],by simp [World.cell?,h],by simp [World.cell?,h]⟩
theorem B5.fr {W:World} {b t:Nat} {v0 v1 v2 v3 v4:Value} (h:B5 W b t v0 v1 v2 v3 v4) (j:Nat):W.frozen? ⟨b,j,none⟩ = false:=by unfold B5 at h;simp [World.frozen?,h]
def put5 (W:World) (b:Nat) (v0 v1 v2 v3 v4:Value):World:=((((W.setCell ⟨b,0,none⟩ v0).setCell ⟨b,1,none⟩ v1).setCell ⟨b,2,none⟩ v2).setCell ⟨b,3,none⟩ v3).setCell ⟨b,4,none⟩ v4
theorem B5.put {W:World} {b t:Nat} {u0 u1 u2 u3 u4 v0 v1 v2 v3 v4:Value} (h:B5 W b t u0 u1 u2 u3 u4):B5 (put5 W b v0 v1 v2 v3 v4) b t v0 v1 v2 v3 v4:=by
 unfold B5 put5
 rw [set_block (set_block (set_block (set_block (set_block h _) _) _) _) _]
 rfl
theorem below_put5 {w W:World} {b:Nat} (h:Below w.heap.size w W) (hb:w.heap.size≤b) (v0 v1 v2 v3 v4:Value):Below w.heap.size w (put5 W b v0 v1 v2 v3 v4):=
 ((((h.setCell (p:=⟨b,0,none⟩) hb _).setCell (p:=⟨b,1,none⟩) hb _).setCell (p:=⟨b,2,none⟩) hb _).setCell (p:=⟨b,3,none⟩) hb _).setCell (p:=⟨b,4,none⟩) hb _
def bndV (b:Bnd):Value:=.agg #[.string (tx b.nm),.int .i64 b.v.t,.float .f64 b.v.n,.string (tx b.v.s),.bool b.v.b]
theorem dbind (f:Fld) (xo:Option Addr) (co:Nat) (xl:Option Addr) (cl:Nat) (w:World) :
  Calls Tryz.prog 31 #[(f.fl xo co xl cl).v] w fun e w'=>e = .returned (bndV (bndF f))∧Below w.heap.size w w':=by
 obtain ⟨R,hR⟩:∃ R,R = bndV (bndF f):=⟨_,rfl⟩
 rw [←hR]
 obtain ⟨F,hF⟩:∃ F,F = f.fl xo co xl cl:=⟨_,rfl⟩
 have HTY:Hid (∀ W,Calls Tryz.prog 18 #[.int .i64 F.k] W fun e w'=>e = .returned (.int .i64 (tyK f.k:Nat))∧W = w'):=hid (by rw [hF];exact fun W=>dTypeOf f.k W)
 have HR:Hid (R = .agg #[.string F.nm,.int .i64 (tyK f.k:Nat),.float .f64 0,.string ⟨#[]⟩,.bool false]):=hid (by rw [hF,hR];rfl)
 rw [←hF]
 clear hR hF
 unfold FL.v
 obtain ⟨B1,hB1⟩:∃ W1,W1 = (w.alloc (.cells F.a 42)).alloc (.cells #[.string ⟨#[]⟩,.int .i64 0,.float .f64 0,.string ⟨#[]⟩,.bool false] 65):=⟨_,rfl⟩
 have hbl:Below w.heap.size w B1:=by rw [hB1];exact ((Below.refl _ _).alloc (Nat.le_refl _) _).alloc (by simp) _
 have HFB:Hid (FLB B1 w.heap.size F):=hid (by rw [hB1];exact (heap_alloc_old _ _ (by simp)).trans (heap_alloc_new _ _))
 have HBB:Hid (B1.heap[w.heap.size + 1]? = some (.cells #[.string ⟨#[]⟩,.int .i64 0,.float .f64 0,.string ⟨#[]⟩,.bool false] 65 (0,0))):=hid (by rw [hB1];exact heap_at (heap_alloc_new _ _) (by simp))
 unfold FL.a at hB1 ⊢
 have HBL:=hid hbl
 clear hbl
 go_enter Tryz.func31,Tryz.ntmps31
 go_upto_region 1 with (fail)
 rw [←hB1]
 obtain ⟨c0,c1,_⟩:=HFB.out.cells
 have k0:B1.drew.cell? ⟨w.heap.size,0,none⟩ = some (.int .i64 F.k):=c0
 have k1:B1.drew.cell? ⟨w.heap.size,1,none⟩ = some (.string F.nm):=c1
 have HBD:Hid (B5 B1 (w.heap.size + 1) 65 (.string ⟨#[]⟩) (.int .i64 0) (.float .f64 0) (.string ⟨#[]⟩) (.bool false)):=HBB
 obtain ⟨d0,d1,d2,d3,d4⟩:=HBD.out.cells
 have f0:=HBD.out.fr 0
 have f1:=HBD.out.fr 1
 have f2:=HBD.out.fr 2
 have f3:=HBD.out.fr 3
 have f4:=HBD.out.fr 4
 have HEN:Hid (Below w.heap.size w (put5 B1 (w.heap.size + 1) (.string F.nm) (.int .i64 (tyK f.k:Nat)) (.float .f64 0) (.string ⟨#[]⟩) (.bool false)).drew):=hid (below_put5 HBL.out (Nat.le_succ w.heap.size) _ _ _ _ _).drew
 have HBP:Hid ((put5 B1 (w.heap.size + 1) (.string F.nm) (.int .i64 (tyK f.k:Nat)) (.float .f64 0) (.string ⟨#[]⟩) (.bool false)).drew.heap[w.heap.size + 1]? = some (.cells #[.string F.nm,.int .i64 (tyK f.k:Nat),.float .f64 0,.string ⟨#[]⟩,.bool false] 65 (0,0))):=hid HBD.out.put
 unfold put5 at HEN HBP
 clear hB1 c0 c1 HBB
 go_region_with (go_at_call 18;refine (HTY.out _).mono ?_;rintro e w2 ⟨rfl,rfl⟩)
 all_goals
  go_wp2
  refine bodyPost_ret (bind_end rfl _ _ (w.heap.size + 1) _ _ _ _ _ rfl HBP.out) rfl ⟨by rw [HR.out],HEN.out⟩
end Go.Proofs.YtpcbamcelpcigaaGreat
