/- Own texts, merged. -/
import Derived.WalkKit
import Derived.Deep.CutBlock
import Derived.Deep.LoopGhost
import Derived.Deep.Cut
import Derived.Test.YtpcbamcelpcigaaGreatMC28
import Derived.Test.YtpcbamcelpcigaaGreatMC38
import Derived.Test.YtpcbamcelpcigaaGreatMC00
set_option maxRecDepth 100000
set_option maxHeartbeats 32000000
open Go.Lib (hid)
namespace Go.Proofs.YtpcbamcelpcigaaGreat
open Go.RowKit Go.Shelf
attribute [local go_sem] run_store_float
def FLz:FL:=⟨0,⟨#[]⟩,⟨#[]⟩,none,0,0,0,0,0,0,0,⟨#[]⟩,0,false,none,0,0,0,⟨#[]⟩,⟨#[]⟩⟩
theorem bndsN_succ (fs:List Fld) (k:Nat):bndsN fs (k + 1) = bndsN fs k ++ [bndF (fldA fs k)]:=by simp [bndsN,List.range_succ]
theorem named_bnds {fs:List Fld} {i k:Nat} {s:Bs} (hk:k < i) (h:(fldA fs k).nm = s):namedB (bndsN fs i) s = true:=by
 unfold namedB bndsN
 rw [List.any_eq_true]
 exact ⟨bndF (fldA fs k),List.mem_map.2 ⟨k,List.mem_range.2 hk,rfl⟩,decide_eq_true (show (bndF (fldA fs k)).nm = s from h)⟩
theorem named_none {fs:List Fld} {i:Nat} {s:Bs} (h:∀ k,k < i→(fldA fs k).nm≠s):namedB (bndsN fs i) s = false:=by
 unfold namedB bndsN
 rw [List.any_eq_false]
 intro b hb
 obtain ⟨k,hk,rfl⟩:=List.mem_map.1 hb
 exact fun e=>h k (List.mem_range.1 hk) (of_decide_eq_true e)
structure BI (w:World) (o:Obj) (L:List Bnd) (v:Value) (W:World):Prop where
 row:W.ownsRow (w.heap.size + 1) 65 5 v L.length (bflat L)
 blk:W.heap[w.heap.size]? = some o
 bel:Below w.heap.size w W
theorem BI.below {w W W':World} {o:Obj} {L:List Bnd} {v:Value} (h:BI w o L v W) (hb:Below W.heap.size W W'):BI w o L v W':=
 ⟨row_kept h.row (fun j hj=>hb.block j (h.row.lt j hj).2),(hb.block _ (Array.getElem?_eq_some_iff.1 h.blk).1).trans h.blk,h.bel.trans (below_le hb h.bel.size)⟩
theorem TxV.old' {W:World} {x:Option Addr} {c n:Nat} {L:List Bs} (h:TxV W (.slice x n c) L) (_:n = L.length):∃ x' c',(Value.slice x n c) = .slice x' L.length c'∧L.length≤c'∧L.length≤1000000∧(L≠[]→∃ g o,x' = some ⟨g,o,none⟩∧g < W.heap.size∧∀ i,i < L.length→W.cell? ⟨g,o + i,none⟩ = some (.string (tx (L.getD i [])))):=h.old
theorem BI.push {w W Wt w1:World} {o:Obj} {L:List Bnd} {bd:Bnd} {v v1:Value} (h:BI w o L v W) (hW:Below W.heap.size W Wt) (ho:w1.ownsRow (w.heap.size + 1) 65 5 v1 (L.length + 1) (bflat L ++ bcs bd)) (hg:Wt.grownBy w1 v.ownBlock):BI w o (L ++ [bd]) v1 w1:=by
 have hlt:=(Array.getElem?_eq_some_iff.1 h.blk).1
 have hws:=hW.size
 have hgs:=hg.size
 have hbs:=h.bel.size
 have hk:∀ j,j < w.heap.size + 1→w1.heap[j]? = W.heap[j]?:=fun j hj=>(hg.block j (by omega) (fun e=>by have:=(h.row.lt j e.symm).1;omega)).trans (hW.block j (by omega))
 exact ⟨by rw [List.length_append,List.length_singleton,bflat_snoc];exact ho,(hk _ (by omega)).trans h.blk,
  ⟨hg.os.trans (hW.os.trans h.bel.os),hg.tape.trans (hW.tape.trans h.bel.tape),hg.output.trans (hW.output.trans h.bel.output),by omega,fun j hj=>(hk j (by omega)).trans (h.bel.block j hj)⟩⟩
theorem rOne21 (fs:List Fld) (hN:fs.length≤64) (hok:∀ i,i < fs.length→FOk (fldA fs i)) (Ls:List FL) (x1:Option Addr) (q o c1:Nat) (i:Nat) (hi:i < fs.length) (w:World) (hlen:Ls.length = fs.length) (hcap:Ls.length≤c1) (hrow:FRow w x1 q o Ls)
  (hfm:∀ i (h:i < Ls.length),∃ xo co xl cl,Ls[i] = (fldA fs i).fl xo co xl cl∧FM w (fldA fs i) xo co xl cl) :
  Calls Tryz.prog 35 #[.slice x1 fs.length c1,.int .i64 (i:Nat)] w fun e w'=>e = .returned (.int .i64 (badE fs i:Nat))∧Below w.heap.size w w':=by
 obtain ⟨xo,co,xl,cl,hFe,hFm⟩:=hfm i (by omega)
 obtain ⟨hx1,hqs,hcell⟩:=hrow (by intro e;rw [e] at hlen;simp at hlen;omega)
 subst hx1
 obtain ⟨R,hR⟩:∃ R,R = badE fs i:=⟨_,rfl⟩
 rw [←hR]
 unfold badE placedE at hR
 have HFD:Hid (∀ W,Below w.heap.size w W→Calls Tryz.prog 13 #[(Ls[i]).v] W fun e w'=>e = .returned (.int .i64 (fieldP (fldA fs i):Nat))∧Below W.heap.size W w'):=hid (by rw [hFe];exact fun W h=>rField _ (hok i hi) xo co xl cl W (hFm.below h))
 have HTS:Hid (∀ W v,BndV W v (bndsN fs i)→Calls Tryz.prog 37 #[.string (Ls[i]).sh,v] W fun e w'=>e = .returned (.int .i64 (truthE (bndsN fs i) (fldA fs i).sh:Nat))∧Below W.heap.size W w'):=hid (by rw [hFe];exact fun W v h=>rrule _ (by rw [bndsN_len];omega) v _ (hok i hi).sh W h)
 have HTC:Hid (∀ W v,BndV W v [bndF (fldA fs i)]→Calls Tryz.prog 37 #[.string (Ls[i]).ck,v] W fun e w'=>e = .returned (.int .i64 (truthE [bndF (fldA fs i)] (fldA fs i).ck:Nat))∧Below W.heap.size W w'):=hid (by rw [hFe];exact fun W v h=>rrule _ (by simp) v _ (hok i hi).ck W h)
 have HBI:Hid (∀ W,Calls Tryz.prog 36 #[(Ls[i]).v] W fun e w'=>e = .returned (bndV (bndF (fldA fs i)))∧Below W.heap.size W w'):=hid (by rw [hFe];exact fun W=>rbind _ xo co xl cl W)
 have HBK:Hid (∀ k (h:k < Ls.length),∀ W,Calls Tryz.prog 36 #[(Ls[k]).v] W fun e w'=>e = .returned (bndV (bndF (fldA fs k)))∧Below W.heap.size W w'):=hid (fun k h W=>by
  obtain ⟨xo,co,xl,cl,he,_⟩:=hfm k h
  rw [he]
  exact rbind _ xo co xl cl W)
 have HNK:Hid (∀ k (h:k < Ls.length),(Ls[k]).nm = tx (fldA fs k).nm):=hid (fun k h=>by
  obtain ⟨xo,co,xl,cl,he,_⟩:=hfm k h
  rw [he];rfl)
 have HES:Hid ((Ls[i]).sh.toList.isEmpty = decide ((fldA fs i).sh = [])):=hid (by rw [hFe];exact isEmpty_tx _)
 have HEC:Hid ((Ls[i]).ck.toList.isEmpty = decide ((fldA fs i).ck = [])):=hid (by rw [hFe];exact isEmpty_tx _)
 have HNI:=hid (HNK.out i (by omega))
 obtain ⟨F,hF⟩:∃ F,F = Ls[i]:=⟨_,rfl⟩
 have HCE:Hid (∀ j u,F.a[j]? = some u→w.cell? ⟨q,o + i * 16 + j,none⟩ = some u):=hid (by rw [hF];exact hcell i (by omega))
 have HCK:Hid (∀ k (h:k < Ls.length) j u,(Ls[k]).a[j]? = some u→w.cell? ⟨q,o + k * 16 + j,none⟩ = some u):=hid hcell
 rw [←hF] at HFD HTS HTC HBI HES HEC HNI
 obtain ⟨nm,hnm⟩:∃ nm,nm = (fldA fs i).nm:=⟨_,rfl⟩
 obtain ⟨tk,htk⟩:∃ tk,tk = tyK (fldA fs i).k:=⟨_,rfl⟩
 have hbf:bndF (fldA fs i) = ⟨nm,⟨tk,0,[],false⟩⟩:=by rw [hnm,htk];rfl
 rw [←hnm] at HNI hR
 rw [hbf] at HTC HBI hR
 have HHIT:Hid (∀ k,k < i→(fldA fs k).nm = nm→namedB (bndsN fs i) nm = true):=hid (fun k hk h=>named_bnds hk h)
 have HNON:Hid ((∀ k,k < i→(fldA fs k).nm≠nm)→namedB (bndsN fs i) nm = false):=hid named_none
 generalize fieldP (fldA fs i) = E1 at hR HFD
 generalize truthE (bndsN fs i) (fldA fs i).sh = E2 at hR HTS
 generalize truthE [⟨nm,⟨tk,0,[],false⟩⟩] (fldA fs i).ck = E3 at hR HTC
 generalize namedB (bndsN fs i) nm = NB at hR HHIT HNON
 generalize (fldA fs i).sh = sh at hR HES
 generalize (fldA fs i).ck = ck at hR HEC
 have HR:=hid hR
 have HLN:=hid hlen
 have HQS:=hid hqs
 have HN64:=hid hN
 obtain ⟨n,hn⟩:∃ n,n = fs.length:=⟨_,rfl⟩
 rw [←hn] at hi hN ⊢
 have HNN:=hid hn
 have hc1:n≤c1:=by omega
 obtain ⟨i0,hi0,hz0,hz1,hz2⟩:=info_bindD
 have HNF:=hid (And.intro hi0 (And.intro hz0 (And.intro hz1 hz2)))
 clear hR hF hn hnm htk hbf hi0 hz0 hz1 hz2 hlen hcap hrow hfm hok hFe hFm hqs hcell
 unfold bndV at HBI
 simp only at HBI
 have HZB:Hid (FLB (w.alloc (.cells #[.int .i64 0,.string ⟨#[]⟩,.string ⟨#[]⟩,.slice none 0 0,.int .i64 0,.int .i64 0,.float .f64 0,.float .f64 0,.float .f64 0,.string ⟨#[]⟩,.int .i64 0,.bool false,.slice none 0 0,.float .f64 0,.string ⟨#[]⟩,.string ⟨#[]⟩] 42)) w.heap.size FLz):=hid (heap_alloc_new _ _)
 have HFC:Hid (FLC w q (o + i * 16) F):=hid HCE.out
 have hqs:=HQS.out
 have i1:(0:Int)≤(i:Int):=by omega
 have i2:(i:Int) < (n:Int):=by omega
 go_enter Tryz.func35,Tryz.ntmps35
 go_upto_region 2 with (first | ((with_reducible refine wpList_ldF (F:=F) (b:=q) (q:=o + i * 16) rfl rfl ?_ HFC.out ?_);rfl) | ((with_reducible refine wpList_stF (F:=F) (G:=FLz) (b:=w.heap.size) rfl rfl ?_ ?_ HZB.out ?_);rfl;rfl))
 have hF1:=HZB.out.row F
 have hF2:Below w.heap.size w ((w.alloc (.cells #[.int .i64 0,.string ⟨#[]⟩,.string ⟨#[]⟩,.slice none 0 0,.int .i64 0,.int .i64 0,.float .f64 0,.float .f64 0,.float .f64 0,.string ⟨#[]⟩,.int .i64 0,.bool false,.slice none 0 0,.float .f64 0,.string ⟨#[]⟩,.string ⟨#[]⟩] 42)).setRow w.heap.size F.a):=below_setRow ((Below.refl _ _).alloc (Nat.le_refl _) _) (Nat.le_refl _) _
 generalize (w.alloc (.cells #[.int .i64 0,.string ⟨#[]⟩,.string ⟨#[]⟩,.slice none 0 0,.int .i64 0,.int .i64 0,.float .f64 0,.float .f64 0,.float .f64 0,.string ⟨#[]⟩,.int .i64 0,.bool false,.slice none 0 0,.float .f64 0,.string ⟨#[]⟩,.string ⟨#[]⟩] 42)).setRow w.heap.size F.a = B2 at hF1 hF2 ⊢
 have HFB:Hid (FLB B2 w.heap.size F):=hid hF1
 have HBL:=hid hF2
 have HFC2:Hid (FLC B2 w.heap.size 0 F):=hid hF1.flc
 clear hF1 hF2 HZB
 go_wp2_with (first | ((with_reducible refine wpList_ldF (F:=F) (b:=w.heap.size) (q:=0) rfl rfl ?_ HFC2.out ?_);rfl) | (go_at_call 13;fail))
 go_at_call 13
 refine (HFD.out _ HBL.out).mono ?_
 rintro e w2 ⟨rfl,hb2⟩
 replace HFB:=hid (HFB.out.below hb2)
 replace HBL:=hid (HBL.out.trans (below_le hb2 HBL.out.size))
 clear hb2 HFD HCE HFC HFC2 hqs
 by_cases h1:E1 = 0
 case neg=>
  have HR2:Hid (R = E1):=hid (by rw [HR.out,if_pos h1])
  have t1:((E1:Int) != 0) = true:=by simpa using (show ¬ ((E1:Int) = 0) by omega)
  clear HR h1
  go_wp2
  go_ret
  exact ⟨by rw [HR2.out];rfl,HBL.out⟩
 have HR1:Hid (R = if NB = true then 7 else if sh≠[]∧E2≠0 then E2 else if ck≠[] then E3 else 0):=hid (by rw [HR.out,if_neg (by omega)])
 subst h1
 clear HR
 have HLT2:=hid HFB.out.lt
 go_upto_block 0 with (fail)
 go_cut [7] (fun v wx=>(∃ x cap,v = .slice x i cap)∧Hid (wx.ownsRow (w.heap.size + 1) 65 5 v i (bflat (bndsN fs i))∧(∀ j,j < i→(fldA fs j).nm≠nm)∧FLB wx w.heap.size F∧Below w.heap.size w wx))
 case first=>
  clear HTS HTC HBI HES HEC
  go_wp2_with fail
  go_loopg [7,8] (i + 1) (fun g v kk wr=>∃ k:Nat,k + g = i + 1∧kk = .int .i64 k∧k≤i∧(∃ x cap,v = .slice x k cap)∧Hid (wr.ownsRow (w.heap.size + 1) 65 5 v k (bflat (bndsN fs k))∧(∀ j,j < k→(fldA fs j).nm≠nm)∧FLB wr w.heap.size F∧Below w.heap.size w wr))
  case atStart=>exact ⟨0,by omega,rfl,Nat.zero_le _,⟨none,0,rfl⟩,hid ⟨World.ownsRow_nil _ _ _ _,fun j hj=>absurd hj (by omega),HFB.out,HBL.out⟩⟩
  case round=>
   obtain ⟨k,hkg,rfl,hk,⟨xb,cb,rfl⟩,HJ⟩:=hrel
   have HJW:=hid HJ.out.2.2.2
   have HJF:=hid HJ.out.2.2.1
   obtain ⟨_,c1,_⟩:=HJF.out.cells
   have hlt:=HJF.out.lt
   by_cases hki:k < i
   ·have hkl:k < Ls.length:=by have:=HLN.out;have:=HNN.out;omega
    have hcw:∀ j u,(Ls[k]).a[j]? = some u→wr.cell? ⟨q,o + k * 16 + j,none⟩ = some u:=fun j u hu=>(HJW.out.cell (p:=⟨q,o + k * 16 + j,none⟩) HQS.out).trans (HCK.out k hkl j u hu)
    have hqs:q < wr.heap.size:=Nat.lt_of_lt_of_le HQS.out HJW.out.size
    have HBKK:=hid (HBK.out k hkl)
    have HNKK:=hid (HNK.out k hkl)
    obtain ⟨G,hG⟩:∃ G,G = Ls[k]:=⟨_,rfl⟩
    rw [←hG] at hcw HBKK HNKK
    have e1:=hcw 1 (.string G.nm) rfl
    have i3:(0:Int)≤(k:Int):=by omega
    have i4:(k:Int) < (n:Int):=by omega
    have i5:(k:Int) < (i:Int):=by omega
    have HTE:Hid ((G.nm.toList == F.nm.toList) = decide ((fldA fs k).nm = nm)):=hid (by rw [HNKK.out,HNI.out];exact tx_beq _ _)
    have HDW:Hid (∀ d,Below w.heap.size w (wr.drewN d)):=hid (fun d=>below_drewN HJW.out d)
    have HGC:=hid hcw
    clear hcw hG HNKK
    by_cases hab:(fldA fs k).nm = nm
    ·have HR2:Hid (R = 7):=hid (by rw [HR1.out,if_pos (HHIT.out k hki hab)])
     have ht:=HTE.out
     rw [decide_eq_true hab] at ht
     clear hab HTE HR1 HHIT HNON HBKK HBK HNK HJ HCK HNI HJF HGC
     go_wp2
     go_quiet (fail)
     go_wp2
     go_ret
     exact ⟨by rw [HR2.out];rfl,HDW.out _⟩
    ·have ht:=HTE.out
     rw [decide_eq_false hab] at ht
     have HNX:Hid (∀ j,j < k + 1→(fldA fs j).nm≠nm):=hid (fun j hj=>by
      rcases Nat.lt_or_ge j k with z | z
      ·exact HJ.out.2.1 j z
      ·obtain rfl:j = k:=by omega
       exact hab)
     have HRW:=hid HJ.out.1
     unfold bndV at HBKK
     have HALL:Hid (∀ d,(wr.drewN d).ownsRow (w.heap.size + 1) 65 5 (.slice xb k cb) k (bflat (bndsN fs k))∧FLB (wr.drewN d) w.heap.size F∧Below w.heap.size w (wr.drewN d)∧FLC (wr.drewN d) q (o + k * 16) G):=hid (fun d=>⟨row_kept HRW.out (fun _ _=>rfl),HJF.out,HDW.out d,HGC.out⟩)
     clear hab HTE HJ HRW HGC
     go_wp2
     go_quiet (fail)
     obtain ⟨z1,z2,z3,z4⟩:=HALL.out nq
     have HZ1:=hid z1
     have HZ2:=hid z2
     have HZ3:=hid z3
     have HZ4:=hid z4
     have hqz:q < (wr.drewN nq).heap.size:=hqs
     clear z1 z2 z3 z4 HALL HDW HJW HJF ht hqs hlt c1 e1
     generalize wr.drewN nq = wz at HZ1 HZ2 HZ3 HZ4 hqz ⊢
     go_wp2_with (first | ((with_reducible refine wpList_ldF (F:=G) (b:=q) (q:=o + k * 16) rfl rfl ?_ HZ4.out ?_);rfl) | (go_at_call 36;fail))
     refine (HBKK.out _).mono ?_
     rintro e w3 ⟨rfl,hb3⟩
     have HI3:Hid (BI w (.cells F.a 42 (0,0)) (bndsN fs k) (.slice xb k cb) wz):=hid ⟨by rw [bndsN_len];exact HZ1.out,HZ2.out,HZ3.out⟩
     have HO3:Hid (w3.ownsRow (w.heap.size + 1) 65 5 (.slice xb k cb) k (bflat (bndsN fs k))):=hid (row_kept HZ1.out (fun j hj=>hb3.block j (HZ1.out.lt j hj).2))
     have HB3:=hid hb3
     have HZZ:Hid (w.heap.size + 1≤wz.heap.size):=hid HZ2.out.lt
     clear hb3 HZ1 HZ2 HZ3 HZ4 hqz
     go_wp2_with (first | (at_builtin;go_loud (refine wpList_append_own _ rfl _ _ 59 rfl (w.heap.size + 1) 65 i0 (.agg #[.string ⟨#[]⟩,.int .i64 0,.float .f64 0,.string ⟨#[]⟩,.bool false]) 5 56 Tryz.underlying59 HNF.out.1 HNF.out.2.1 HNF.out.2.2.1 HNF.out.2.2.2 rfl (by decide) _ _ _ rfl (HO3.out.alloc _) ⟨w3.heap.size,0,none⟩ 1 1 (bcs (bndF (fldA fs k))) rfl rfl (five_new w3 (bndF (fldA fs k)) _) (by simp [bcs,Value.oneCell']) (by have:=HN64.out;have:=HNN.out;unfold maxLen;omega) (by have:=HN64.out;have:=HNN.out;omega) (by have:=HB3.out.size;have:=HZZ.out;simp;omega) ?_)))
     intro v4 w4 ho4 hg4 _
     obtain ⟨y4,c4,rfl⟩:=ownsRow_is ho4
     have HI4:Hid (BI w (.cells F.a 42 (0,0)) (bndsN fs (k + 1)) (.slice y4 (k + 1) c4) w4):=hid (by
      rw [bndsN_succ]
      exact HI3.out.push (HB3.out.alloc HB3.out.size _) (by rw [bndsN_len];exact ho4) hg4)
     clear ho4 hg4 HI3 HO3 HB3 HZZ
     go_wp2
     go_roundg (gk - 1)
     case rel=>exact ⟨k + 1,by omega,by go_num,by omega,⟨y4,c4,rfl⟩,hid ⟨by have h:=HI4.out.row;rw [bndsN_len] at h;exact h,HNX.out,HI4.out.blk,HI4.out.bel⟩⟩
     case measure=>omega
   ·obtain rfl:k = i:=by omega
    go_wp2
    go_meet
    exact ⟨⟨_,_,rfl⟩,HJ⟩
 case rest=>
  obtain ⟨⟨xb,cb,rfl⟩,HJ⟩:=hcut
  have HJW:=hid HJ.out.2.2.2
  have HJF:=hid HJ.out.2.2.1
  have HR3:Hid (R = if sh≠[]∧E2≠0 then E2 else if ck≠[] then E3 else 0):=hid (by rw [HR1.out,HNON.out HJ.out.2.1];rfl)
  have HBV:Hid (BndV wc (.slice xb i cb) (bndsN fs i)):=hid (bndv_of_row (base:=w.heap.size + 1) (by rw [bndsN_len];exact HJ.out.1))
  clear HJ HR1 HNON HHIT HBK HNK HCK HNI
  obtain ⟨_,_,_,_,_,_,_,_,_,_,_,_,_,_,c14,c15⟩:=HJF.out.cells
  have hlt:=HJF.out.lt
  by_cases hs:sh = []
  ·have he1:=HES.out
   rw [decide_eq_true hs] at he1
   have HR4:Hid (R = if ck≠[] then E3 else 0):=hid (by rw [HR3.out,if_neg (fun h=>h.1 hs)])
   clear hs HES HR3
   by_cases hc:ck = []
   ·have HR5:Hid (R = 0):=hid (by rw [HR4.out,if_neg (fun h=>h hc)])
    have he2:=HEC.out
    rw [decide_eq_true hc] at he2
    clear HR4 HEC hc
    go_wp2
    go_ret
    exact ⟨(by rw [HR5.out] <;> rfl),HJW.out⟩
   ·have HR5:Hid (R = E3):=hid (by rw [HR4.out,if_pos hc])
    have he2:=HEC.out
    rw [decide_eq_false hc] at he2
    clear HR4 HEC hc
    have HSC:Hid (∀ W,Below wc.heap.size wc W→FLC W w.heap.size 0 F∧W.cell? ⟨w.heap.size,15,none⟩ = some (.string F.ck)):=hid (fun W hW=>by
     obtain ⟨_,_,_,_,_,_,_,_,_,_,_,_,_,_,_,k15⟩:=(HJF.out.below hW).cells
     exact ⟨(HJF.out.below hW).flc,k15⟩)
    have HS0:=hid (HSC.out _ (Below.refl _ _).drew)
    go_upto_region 15 with (fail)
    refine wp_region_held (S:=(fun w'=>FLC w' w.heap.size 0 F∧w'.cell? ⟨w.heap.size,15,none⟩ = some (.string F.ck))) (by as_aux_lemma=>kernel_rfl) ?_
    change wpAnyH _ _ _ _ _ _ _ _ (World.drew _)
    refine tkH (i:=0) HS0.out ?_
    try simp only [Act.put,zz1,zz2,zz3,zz4,zz6]
    refine tkH (i:=1) HS0.out ?_
    try simp only [Act.put,zz1,zz2,zz3,zz4,zz5,zz6]
    refine wpAnyH_take (i:=2) (v:=F.v) rfl (by as_aux_lemma=>kernel_rfl) (by as_aux_lemma=>kernel_rfl) (by as_aux_lemma=>kernel_rfl) (fun _ _ _ h=>h) (yieldsF rfl rfl rfl (fun w h=>h.1)) HS0.out ?_
    try simp only [Act.put,zz1,zz2,zz3,zz4,zz5,zz6]
    refine wpAnyH_ready (rs:=[3]) (by as_aux_lemma=>kernel_rfl) (by simp) ?_
    refine AllReadyH.cons rfl (fun K hK=>?_) AllReadyH.nil
    go_simp
    go_at_call 36
    refine (HBI.out _).mono ?_
    rintro e w6 ⟨rfl,hb6⟩
    have HB6:Hid (Below wc.heap.size wc w6):=hid ((Below.refl _ _).drew.trans hb6)
    have HS6:=hid (HSC.out _ HB6.out)
    clear hb6
    refine hK.out _ _ HS6.out (fun _=>?_)
    clear hK K
    try simp only [Act.put,zz1,zz2,zz3,zz4,zz5,zz6]
    refine wpAnyH_ready (rs:=[4]) (by as_aux_lemma=>kernel_rfl) (by simp) ?_
    refine AllReadyH.cons rfl (fun K hK=>?_) AllReadyH.nil
    go_simp
    have HB7:=hid (HB6.out.alloc HB6.out.size (.cells #[.string (tx nm),.int .i64 (tk:Nat),.float .f64 0,.string (tx []),.bool false] 65))
    have HS7:=hid (HSC.out _ HB7.out)
    have HV7:=hid (bnd_one w6 ⟨nm,⟨tk,0,[],false⟩⟩)
    refine hK.out _ _ HS7.out (fun _=>?_)
    clear hK K
    try simp only [Act.put,zz1,zz2,zz3,zz4,zz5,zz6]
    refine wpAnyH_ready (rs:=[5]) (by as_aux_lemma=>kernel_rfl) (by simp) ?_
    refine AllReadyH.cons rfl (fun K hK=>?_) AllReadyH.nil
    go_simp
    go_at_call 37
    refine (HTC.out _ _ HV7.out).mono ?_
    rintro e w8 ⟨rfl,hb8⟩
    have HB8:=hid (HB7.out.trans (below_le hb8 HB7.out.size))
    have HS8:=hid (HSC.out _ HB8.out)
    clear hb8
    refine hK.out _ _ HS8.out (fun _=>?_)
    clear hK K
    try simp only [Act.put,zz1,zz2,zz3,zz4,zz5,zz6]
    refine tkH (i:=6) HS8.out ?_
    try simp only [Act.put,zz1,zz2,zz3,zz4,zz5,zz6]
    refine wpAnyH_done (by as_aux_lemma=>kernel_rfl) ?_ _
    go_wp2
    go_ret
    exact ⟨(by rw [HR5.out] <;> rfl),HJW.out.trans (below_le HB8.out HJW.out.size)⟩
  ·have he1:=HES.out
   rw [decide_eq_false hs] at he1
   go_wp2_with (first | (go_at_call 37;fail))
   refine (HTS.out _ _ HBV.out).mono ?_
   rintro e w4 ⟨rfl,hb4⟩
   have HJF4:=hid (HJF.out.below hb4)
   have HJW4:=hid (HJW.out.trans (below_le hb4 HJW.out.size))
   clear hb4 HTS HBV HJF HJW hlt c14 c15
   obtain ⟨_,_,_,_,_,_,_,_,_,_,_,_,_,_,c14,c15⟩:=HJF4.out.cells
   have hlt:=HJF4.out.lt
   by_cases h2:E2 = 0
   ·have HR4:Hid (R = if ck≠[] then E3 else 0):=hid (by rw [HR3.out,if_neg (fun h=>h.2 h2)])
    subst h2
    clear hs HES HR3
    by_cases hc:ck = []
    ·have HR5:Hid (R = 0):=hid (by rw [HR4.out,if_neg (fun h=>h hc)])
     have he2:=HEC.out
     rw [decide_eq_true hc] at he2
     clear HR4 HEC hc
     go_wp2
     go_ret
     exact ⟨(by rw [HR5.out] <;> rfl),HJW4.out⟩
    ·have HR5:Hid (R = E3):=hid (by rw [HR4.out,if_pos hc])
     have he2:=HEC.out
     rw [decide_eq_false hc] at he2
     clear HR4 HEC hc
     have HSC:Hid (∀ W,Below w4.heap.size w4 W→FLC W w.heap.size 0 F∧W.cell? ⟨w.heap.size,15,none⟩ = some (.string F.ck)):=hid (fun W hW=>by
      obtain ⟨_,_,_,_,_,_,_,_,_,_,_,_,_,_,_,k15⟩:=(HJF4.out.below hW).cells
      exact ⟨(HJF4.out.below hW).flc,k15⟩)
     have HS0:=hid (HSC.out _ (Below.refl _ _).drew)
     go_upto_region 15 with (fail)
     refine wp_region_held (S:=(fun w'=>FLC w' w.heap.size 0 F∧w'.cell? ⟨w.heap.size,15,none⟩ = some (.string F.ck))) (by as_aux_lemma=>kernel_rfl) ?_
     change wpAnyH _ _ _ _ _ _ _ _ (World.drew _)
     refine tkH (i:=0) HS0.out ?_
     try simp only [Act.put,zz1,zz2,zz3,zz4,zz6]
     refine tkH (i:=1) HS0.out ?_
     try simp only [Act.put,zz1,zz2,zz3,zz4,zz5,zz6]
     refine wpAnyH_take (i:=2) (v:=F.v) rfl (by as_aux_lemma=>kernel_rfl) (by as_aux_lemma=>kernel_rfl) (by as_aux_lemma=>kernel_rfl) (fun _ _ _ h=>h) (yieldsF rfl rfl rfl (fun w h=>h.1)) HS0.out ?_
     try simp only [Act.put,zz1,zz2,zz3,zz4,zz5,zz6]
     refine wpAnyH_ready (rs:=[3]) (by as_aux_lemma=>kernel_rfl) (by simp) ?_
     refine AllReadyH.cons rfl (fun K hK=>?_) AllReadyH.nil
     go_simp
     go_at_call 36
     refine (HBI.out _).mono ?_
     rintro e w6 ⟨rfl,hb6⟩
     have HB6:Hid (Below w4.heap.size w4 w6):=hid ((Below.refl _ _).drew.trans hb6)
     have HS6:=hid (HSC.out _ HB6.out)
     clear hb6
     refine hK.out _ _ HS6.out (fun _=>?_)
     clear hK K
     try simp only [Act.put,zz1,zz2,zz3,zz4,zz5,zz6]
     refine wpAnyH_ready (rs:=[4]) (by as_aux_lemma=>kernel_rfl) (by simp) ?_
     refine AllReadyH.cons rfl (fun K hK=>?_) AllReadyH.nil
     go_simp
     have HB7:=hid (HB6.out.alloc HB6.out.size (.cells #[.string (tx nm),.int .i64 (tk:Nat),.float .f64 0,.string (tx []),.bool false] 65))
     have HS7:=hid (HSC.out _ HB7.out)
     have HV7:=hid (bnd_one w6 ⟨nm,⟨tk,0,[],false⟩⟩)
     refine hK.out _ _ HS7.out (fun _=>?_)
     clear hK K
     try simp only [Act.put,zz1,zz2,zz3,zz4,zz5,zz6]
     refine wpAnyH_ready (rs:=[5]) (by as_aux_lemma=>kernel_rfl) (by simp) ?_
     refine AllReadyH.cons rfl (fun K hK=>?_) AllReadyH.nil
     go_simp
     go_at_call 37
     refine (HTC.out _ _ HV7.out).mono ?_
     rintro e w8 ⟨rfl,hb8⟩
     have HB8:=hid (HB7.out.trans (below_le hb8 HB7.out.size))
     have HS8:=hid (HSC.out _ HB8.out)
     clear hb8
     refine hK.out _ _ HS8.out (fun _=>?_)
     clear hK K
     try simp only [Act.put,zz1,zz2,zz3,zz4,zz5,zz6]
     refine tkH (i:=6) HS8.out ?_
     try simp only [Act.put,zz1,zz2,zz3,zz4,zz5,zz6]
     refine wpAnyH_done (by as_aux_lemma=>kernel_rfl) ?_ _
     go_wp2
     go_ret
     exact ⟨(by rw [HR5.out] <;> rfl),HJW4.out.trans (below_le HB8.out HJW4.out.size)⟩
   ·have HR4:Hid (R = E2):=hid (by rw [HR3.out,if_pos ⟨hs,h2⟩])
    have t1:((E2:Int) == 0) = false:=by simpa using (show ¬ ((E2:Int) = 0) by omega)
    clear h2 hs HES HR3
    go_wp2
    go_ret
    exact ⟨(by rw [HR4.out] <;> rfl),HJW4.out⟩
theorem rcheck_rows (t:ByteArray) (x1:Option Addr) (n1 c1:Nat) (x2:Option Addr) (n2 c2:Nat) (rows:Int) (h:¬ (1≤rows∧rows≤60)) (w:World) :
  Calls Tryz.prog 8 #[.agg (desA t x1 n1 c1 x2 n2 c2 rows)] w fun e w'=>e = .returned (.tuple #[.int .i64 (-1),.int .i64 5])∧Below w.heap.size w w':=by
 have HW:=hid (fun W=>rwithin rows 1 60 W)
 rw [decide_eq_false h] at HW
 unfold desA
 have HAL:=hid (fun o1=>(Below.refl w.heap.size w).alloc (Nat.le_refl _) o1)
 clear h
 go_enter Tryz.func8,Tryz.ntmps8
 go_wp2_with (first | (go_at_call 33;refine (HW.out _).mono ?_;rintro e w1 ⟨rfl,rfl⟩))
 go_ret2
 exact ⟨rfl,HAL.out _⟩
theorem rcheck_many (t:ByteArray) (x1:Option Addr) (n1 c1:Nat) (x2:Option Addr) (n2 c2:Nat) (rows:Int) (h0:1≤rows∧rows≤60) (h:¬ (1≤n1∧n1≤64)∨16 < n2) (w:World) :
  Calls Tryz.prog 8 #[.agg (desA t x1 n1 c1 x2 n2 c2 rows)] w fun e w'=>e = .returned (.tuple #[.int .i64 (-1),.int .i64 3])∧Below w.heap.size w w':=by
 have HW:=hid (fun W=>rwithin rows 1 60 W)
 have HN:=hid (fun W=>rwithin (n1:Nat) 1 64 W)
 rw [decide_eq_true h0] at HW
 unfold desA
 have HAL:=hid (fun o1=>(Below.refl w.heap.size w).alloc (Nat.le_refl _) o1)
 clear h0
 by_cases h1:1≤n1∧n1≤64
 ·have h2:decide (16 < (n2:Int)) = true:=by simp;omega
  rw [decide_eq_true (by omega)] at HN
  clear h h1
  go_enter Tryz.func8,Tryz.ntmps8
  go_wp2_with (first | (go_at_call 33;(with_reducible refine (HW.out _).mono ?_);rintro e w1 ⟨rfl,rfl⟩) | (go_at_call 33;(with_reducible refine (HN.out _).mono ?_);rintro e w1 ⟨rfl,rfl⟩))
  go_ret2
  exact ⟨rfl,HAL.out _⟩
 ·rw [decide_eq_false (by omega)] at HN
  clear h h1
  go_enter Tryz.func8,Tryz.ntmps8
  go_wp2_with (first | (go_at_call 33;(with_reducible refine (HW.out _).mono ?_);rintro e w1 ⟨rfl,rfl⟩) | (go_at_call 33;(with_reducible refine (HN.out _).mono ?_);rintro e w1 ⟨rfl,rfl⟩))
  go_ret2
  exact ⟨rfl,HAL.out _⟩
theorem rcheck_title (l:Bs) (x1:Option Addr) (n1 c1:Nat) (x2:Option Addr) (n2 c2:Nat) (rows:Int) (h0:1≤rows∧rows≤60) (h1:1≤n1∧n1≤64) (h2:n2≤16) (hl:l.length≤900000) (h:l≠[]∧labelP l = false) (w:World) :
  Calls Tryz.prog 8 #[.agg (desA (tx l) x1 n1 c1 x2 n2 c2 rows)] w fun e w'=>e = .returned (.tuple #[.int .i64 (-1),.int .i64 210])∧Below w.heap.size w w':=by
 have HW:=hid (fun W=>rwithin rows 1 60 W)
 have HN:=hid (fun W=>rwithin (n1:Nat) 1 64 W)
 have HLB:=hid (fun W=>rLabel l hl W)
 have he:=isEmpty_tx l
 rw [decide_eq_false h.1] at he
 rw [h.2] at HLB
 rw [decide_eq_true h0] at HW
 rw [decide_eq_true (by omega)] at HN
 have h4:decide (16 < (n2:Int)) = false:=by simp;omega
 unfold desA
 have HAL:=hid (fun o1=>(Below.refl w.heap.size w).alloc (Nat.le_refl _) o1)
 generalize tx l = T at he HLB ⊢
 clear h0 h1 h2 h hl
 go_enter Tryz.func8,Tryz.ntmps8
 go_wp2_with (first | (go_at_call 33;(with_reducible refine (HW.out _).mono ?_);rintro e w1 ⟨rfl,rfl⟩) | (go_at_call 33;(with_reducible refine (HN.out _).mono ?_);rintro e w1 ⟨rfl,rfl⟩) | (go_at_call 34;refine (HLB.out _).mono ?_;rintro e w2 ⟨rfl,hb2⟩;have HBB:=hid hb2;clear hb2))
 go_ret2
 exact ⟨rfl,(HAL.out _).trans (below_le HBB.out (HAL.out _).size)⟩
theorem rcheck_go (d:Des) (hd:DOk d) (Ls:List FL) (x1:Option Addr) (q o c1:Nat) (x2:Option Addr) (c2:Nat) (w:World) (hm:DM w d Ls x1 q o c1 x2 c2)
  (h0:1≤d.rows∧d.rows≤60) (h1:1≤d.fs.length∧d.fs.length≤64) (h2:d.rl.length≤16) (h3:d.t = []∨labelP d.t = true) :
  Calls Tryz.prog 8 #[.agg (desA (tx d.t) x1 d.fs.length c1 x2 d.rl.length c2 d.rows)] w fun e w'=>e = .returned (.tuple #[.int .i64 (checkP d).1,.int .i64 ((checkP d).2:Nat)])∧Below w.heap.size w w':=by
 have HW:=hid (fun W=>rwithin d.rows 1 60 W)
 have HN:=hid (fun W=>rwithin (d.fs.length:Nat) 1 64 W)
 have HLB:=hid (fun W=>rLabel d.t hd.t W)
 have HET:=hid (isEmpty_tx d.t)
 rw [decide_eq_true h0] at HW
 rw [decide_eq_true (by omega)] at HN
 have HH3:=hid h3
 have HON:Hid (∀ i,i < d.fs.length→∀ W,Below w.heap.size w W→Calls Tryz.prog 35 #[.slice x1 d.fs.length c1,.int .i64 (i:Nat)] W fun e w'=>e = .returned (.int .i64 (badE d.fs i:Nat))∧Below W.heap.size W w'):=hid (fun i hi W hb=>
  rOne21 d.fs h1.2 hd.fs Ls x1 q o c1 i hi W hm.len hm.cap (FRow.below hm.row hb) (fun k hk=>by
   obtain ⟨xo,co,xl,cl,e,h⟩:=hm.fm k hk
   exact ⟨xo,co,xl,cl,e,h.below hb⟩))
 have HBK:Hid (∀ k (h:k < Ls.length),∀ W,Calls Tryz.prog 36 #[(Ls[k]).v] W fun e w'=>e = .returned (bndV (bndF (fldA d.fs k)))∧Below W.heap.size W w'):=hid (fun k h W=>by
  obtain ⟨xo,co,xl,cl,he,_⟩:=hm.fm k h
  rw [he]
  exact rbind _ xo co xl cl W)
 have HRW:Hid (FRow w x1 q o Ls∧Ls.length = d.fs.length∧Ls.length≤c1):=hid ⟨hm.row,hm.len,hm.cap⟩
 have HTR:Hid (∀ j,j < d.rl.length→∀ W v,BndV W v (bndsN d.fs d.fs.length)→Calls Tryz.prog 37 #[.string (tx (d.rl.getD j [])),v] W fun e w'=>e = .returned (.int .i64 (truthE (bndsN d.fs d.fs.length) (d.rl.getD j []):Nat))∧Below W.heap.size W w'):=hid (fun j hj W v hb=>rrule _ (by rw [bndsN_len];omega) v _ (hd.rl j hj) W hb)
 have HRL:=hid hm.rl
 obtain ⟨N,hN⟩:∃ N,N = d.fs.length:=⟨_,rfl⟩
 obtain ⟨M,hM⟩:∃ M,M = d.rl.length:=⟨_,rfl⟩
 rw [←hN] at HN HON HRW HTR ⊢
 rw [←hM] at h2 HTR HRL ⊢
 have HNN:=hid hN
 have HMM:=hid hM
 have h4:decide (16 < (M:Int)) = false:=by simp;omega
 have HM16:=hid h2
 have HN64:Hid (N≤64):=hid (by omega)
 obtain ⟨rows,hrows⟩:∃ rows,rows = d.rows:=⟨_,rfl⟩
 rw [←hrows] at HW ⊢
 obtain ⟨T,hT⟩:∃ T,T = tx d.t:=⟨_,rfl⟩
 rw [←hT] at HLB HET ⊢
 obtain ⟨R,hR⟩:∃ R,R = checkP d:=⟨_,rfl⟩
 rw [←hR]
 have HRR:Hid (R = if badI d.fs < N then ((badI d.fs:Int),badE d.fs (badI d.fs)) else if badR d < M then (-1,truthE (bndsN d.fs N) (d.rl.getD (badR d) [])) else (-1,0)):=hid (by
  rw [hR]
  unfold checkP
  rw [if_neg (by omega),if_neg (by omega),if_neg (fun e=>by rcases h3 with h | h;exact e.1 h;rw [h] at e;cases e.2),hN,hM])
 have HBF:Hid (∀ j,j≤N→(∀ i,i < j→badE d.fs i = 0)→(j = N∨badE d.fs j≠0)→badI d.fs = j):=hid (fun j h1 h2 h3=>firstNot_eq _ _ _ (by omega) (fun i hi=>by rw [h2 i hi];rfl) (by
  rcases h3 with h | h
  ·exact .inl (by omega)
  ·exact .inr (by simpa using h)))
 have HBR:Hid (∀ j,j≤M→(∀ i,i < j→truthE (bndsN d.fs N) (d.rl.getD i []) = 0)→(j = M∨truthE (bndsN d.fs N) (d.rl.getD j [])≠0)→badR d = j):=hid (fun j h1 h2 h3=>firstNot_eq _ _ _ (by omega) (fun i hi=>by rw [←hN,h2 i hi];rfl) (by
  rcases h3 with h | h
  ·exact .inl (by omega)
  ·exact .inr (by rw [←hN];simpa using h)))
 obtain ⟨i0,hi0,hz0,hz1,hz2⟩:=info_bindD
 have HNF:=hid (And.intro hi0 (And.intro hz0 (And.intro hz1 hz2)))
 clear hN hM hrows hT hR h0 h1 h2 h3 hm hd hi0 hz0 hz1 hz2
 unfold desA
 obtain ⟨B1,hB1⟩:∃ B1,B1 = w.alloc (.cells #[.string T,.slice x1 N c1,.slice x2 M c2,.int .i64 rows] 25):=⟨_,rfl⟩
 have HBL:Hid (Below w.heap.size w B1):=hid (by rw [hB1];exact (Below.refl w.heap.size w).alloc (Nat.le_refl _) _)
 have HD:Hid (B1.heap[w.heap.size]? = some (.cells #[.string T,.slice x1 N c1,.slice x2 M c2,.int .i64 rows] 25 (0,0))):=hid (by rw [hB1];exact heap_alloc_new _ _)
 go_enter Tryz.func8,Tryz.ntmps8
 go_upto_region 5 with (first | (go_at_call 33;(with_reducible refine (HW.out _).mono ?_);rintro e w1 ⟨rfl,rfl⟩) | (go_at_call 33;(with_reducible refine (HN.out _).mono ?_);rintro e w1 ⟨rfl,rfl⟩))
 rw [←hB1]
 clear hB1 HW HN
 go_cut [26] from 26 to 35 (fun t wx=>t = .bool false∧Hid (Below B1.heap.size B1 wx))
 case first=>
  have cc:=HD.out
  have c0:B1.cell? ⟨w.heap.size,0,none⟩ = some (.string T):=by simp [World.cell?,cc]
  clear cc
  by_cases ht:d.t = []
  ·have he:=HET.out
   rw [decide_eq_true ht] at he
   go_wp2
   go_meet
   exact ⟨rfl,hid (Below.refl _ _)⟩
  ·have he:=HET.out
   rw [decide_eq_false ht] at he
   rw [HH3.out.resolve_left ht] at HLB
   go_wp2_with (first | (go_at_call 34;refine (HLB.out _).mono ?_;rintro e w2 ⟨rfl,hb2⟩;have HBB:=hid hb2;clear hb2))
   go_meet
   exact ⟨rfl,HBB⟩
 case rest=>
  obtain ⟨rfl,HC⟩:=hcut
  have HBC:Hid (Below w.heap.size w wc):=hid (HBL.out.trans (below_le HC.out HBL.out.size))
  have HDC:Hid (wc.heap[w.heap.size]? = some (.cells #[.string T,.slice x1 N c1,.slice x2 M c2,.int .i64 rows] 25 (0,0))):=hid ((HC.out.block _ (Array.getElem?_eq_some_iff.1 HD.out).1).trans HD.out)
  clear HC HD HBL HET HLB HH3
  go_wp2
  go_loopw [4,5] (fun v ii wr=>∃ i:Nat,ii = .int .i64 i∧i≤N∧(∃ x cap,v = .slice x i cap)∧Hid (BI w (.cells #[.string T,.slice x1 N c1,.slice x2 M c2,.int .i64 rows] 25 (0,0)) (bndsN d.fs i) v wr∧∀ j,j < i→badE d.fs j = 0)) (fun _ ii _=>N - (intOf ii).toNat)
  case atStart=>exact ⟨0,rfl,Nat.zero_le _,⟨none,0,rfl⟩,hid ⟨⟨World.ownsRow_nil _ _ _ _,HDC.out,HBC.out⟩,fun j hj=>absurd hj (by omega)⟩⟩
  case round=>
   obtain ⟨i,rfl,hi,⟨xb,cb,rfl⟩,HJ⟩:=hrel
   have HI:=hid HJ.out.1
   have dd:=HI.out.blk
   have hlt:=(Array.getElem?_eq_some_iff.1 dd).1
   have d1:wr.cell? ⟨w.heap.size,1,none⟩ = some (.slice x1 N c1):=by simp [World.cell?,dd]
   have d2:wr.cell? ⟨w.heap.size,2,none⟩ = some (.slice x2 M c2):=by simp [World.cell?,dd]
   clear dd
   by_cases hin:i < N
   ·have hii:(i:Int) < (N:Int):=by omega
    have h0i:(0:Int)≤(i:Int):=by omega
    have h9i:(i:Int)≤64:=by have:=HN64.out;omega
    have HOI:=hid (HON.out i hin)
    obtain ⟨E,hE⟩:∃ E,E = badE d.fs i:=⟨_,rfl⟩
    rw [←hE] at HOI
    have HE:=hid hE
    clear hE
    go_wp2_with (first | (go_at_call 35;fail))
    refine (HOI.out _ HI.out.bel).mono ?_
    rintro e w2 ⟨rfl,hb2⟩
    have HI2:Hid (BI w (.cells #[.string T,.slice x1 N c1,.slice x2 M c2,.int .i64 rows] 25 (0,0)) (bndsN d.fs i) (.slice xb i cb) w2):=hid (HI.out.below hb2)
    clear hb2 hlt d1 d2
    have dd:=HI2.out.blk
    have hlt:=(Array.getElem?_eq_some_iff.1 dd).1
    have d1:w2.cell? ⟨w.heap.size,1,none⟩ = some (.slice x1 N c1):=by simp [World.cell?,dd]
    clear dd
    by_cases hz:E = 0
    ·have HNX:Hid (∀ j,j < i + 1→badE d.fs j = 0):=hid (fun j hj=>by
      rcases Nat.lt_or_ge j i with z | z
      ·exact HJ.out.2 j z
      ·obtain rfl:j = i:=by omega
       rw [←HE.out];exact hz)
     subst hz
     have hkl:i < Ls.length:=by have:=HRW.out.2.1;omega
     obtain ⟨hx1,hqs,hcell⟩:=HRW.out.1 (by intro e;rw [e] at hkl;cases hkl)
     subst hx1
     have hcw:FLC w2 q (o + i * 16) (Ls[i]):=fun j u hu=>(HI2.out.bel.cell (p:=⟨q,o + i * 16 + j,none⟩) hqs).trans (hcell i hkl j u hu)
     have hqz:q < w2.heap.size:=Nat.lt_of_lt_of_le hqs HI2.out.bel.size
     have hNc:N≤c1:=by have:=HRW.out;omega
     have HBKK:=hid (HBK.out i hkl)
     obtain ⟨G,hG⟩:∃ G,G = Ls[i]:=⟨_,rfl⟩
     rw [←hG] at hcw HBKK
     have HCW:=hid hcw
     unfold bndV at HBKK
     clear hG hqs hcell hcw HJ HI
     go_wp2_with (first | ((with_reducible refine wpList_ldF (F:=G) (b:=q) (q:=o + i * 16) rfl rfl ?_ HCW.out ?_);rfl) | (go_at_call 36;fail))
     refine (HBKK.out _).mono ?_
     rintro e w3 ⟨rfl,hb3⟩
     have HO3:Hid (w3.ownsRow (w.heap.size + 1) 65 5 (.slice xb i cb) i (bflat (bndsN d.fs i))):=hid (by
      have h:=HI2.out.row
      have h3:=row_kept (w':=w3) h (fun j hj=>hb3.block j (h.lt j hj).2)
      rw [bndsN_len] at h3
      exact h3)
     have HB3:=hid hb3
     have HZZ:Hid (w.heap.size + 1≤w2.heap.size):=hid hlt
     clear hb3 hqz hlt d1 HCW
     go_wp2_with (first | (at_builtin;go_loud (refine wpList_append_own _ rfl _ _ 59 rfl (w.heap.size + 1) 65 i0 (.agg #[.string ⟨#[]⟩,.int .i64 0,.float .f64 0,.string ⟨#[]⟩,.bool false]) 5 56 Tryz.underlying59 HNF.out.1 HNF.out.2.1 HNF.out.2.2.1 HNF.out.2.2.2 rfl (by decide) _ _ _ rfl (HO3.out.alloc _) ⟨w3.heap.size,0,none⟩ 1 1 (bcs (bndF (fldA d.fs i))) rfl rfl (five_new w3 (bndF (fldA d.fs i)) _) (by simp [bcs,Value.oneCell']) (by have:=HN64.out;unfold maxLen;omega) (by have:=HN64.out;omega) (by have:=HB3.out.size;have:=HZZ.out;simp;omega) ?_)))
     intro v4 w4 ho4 hg4 _
     obtain ⟨y4,c4,rfl⟩:=ownsRow_is ho4
     have HI4:Hid (BI w (.cells #[.string T,.slice (some ⟨q,o,none⟩) N c1,.slice x2 M c2,.int .i64 rows] 25 (0,0)) (bndsN d.fs (i + 1)) (.slice y4 (i + 1) c4) w4):=hid (by
      rw [bndsN_succ]
      exact HI2.out.push (HB3.out.alloc HB3.out.size _) (by rw [bndsN_len];exact ho4) hg4)
     clear ho4 hg4 HO3 HB3 HZZ
     go_wp2
     go_roundw
     case rel=>exact ⟨i + 1,by go_num,by omega,⟨y4,c4,rfl⟩,hid ⟨HI4.out,HNX.out⟩⟩
     case measure=>simp [intOf];omega
    ·have t1:((E:Int) != 0) = true:=by simpa using (show ¬ ((E:Int) = 0) by omega)
     have HR5:Hid (R = ((i:Int),E)):=hid (by rw [HRR.out,HBF.out i hi HJ.out.2 (.inr (by rw [←HE.out];exact hz)),if_pos hin,←HE.out])
     clear hz d1
     go_wp2
     go_ret2
     exact ⟨(by rw [HR5.out] <;> rfl),HI2.out.bel⟩
   ·obtain rfl:i = N:=by omega
    have HRE:Hid (R = if badR d < M then (-1,truthE (bndsN d.fs i) (d.rl.getD (badR d) [])) else (-1,0)):=hid (by rw [HRR.out,HBF.out i (Nat.le_refl _) HJ.out.2 (.inl rfl),if_neg (by omega)])
    have HBV:Hid (BndV wr (.slice xb i cb) (bndsN d.fs i)):=hid (bndv_of_row (base:=w.heap.size + 1) (by have h:=HI.out.row;exact h))
    have hii:¬ (i:Int) < (i:Int):=by omega
    clear HJ HON HBK HRR HBF HRW HNF
    go_wp2
    clear d1 d2 hlt
    obtain ⟨wo,rfl⟩:∃ wo:World,wo = wr:=⟨_,rfl⟩
    go_loopw [7] (fun jj wq=>∃ j:Nat,jj = .int .i64 j∧j≤M∧Hid (Below wo.heap.size wo wq∧∀ k,k < j→truthE (bndsN d.fs i) (d.rl.getD k []) = 0)) (fun jj _=>M - (intOf jj).toNat)
    case atStart=>exact ⟨0,rfl,Nat.zero_le _,hid ⟨Below.refl _ _,fun j hj=>absurd hj (by omega)⟩⟩
    case round=>
     obtain ⟨j,rfl,hj,HJ⟩:=hrel
     have HBQ:=hid HJ.out.1
     have HBW:Hid (Below w.heap.size w wr):=hid (HI.out.bel.trans (below_le HBQ.out HI.out.bel.size))
     have dd:=(HBQ.out.block _ (Array.getElem?_eq_some_iff.1 HI.out.blk).1).trans HI.out.blk
     have hlt:=(Array.getElem?_eq_some_iff.1 dd).1
     have d2:wr.cell? ⟨w.heap.size,2,none⟩ = some (.slice x2 M c2):=by simp [World.cell?,dd]
     clear dd
     by_cases hjm:j < M
     ·have hjj:(j:Int) < (M:Int):=by omega
      have h0j:(0:Int)≤(j:Int):=by omega
      have h9j:(j:Int)≤16:=by have:=HM16.out;omega
      have HTJ:=hid (HTR.out j hjm wr (.slice xb i cb) (HBV.out.below HBQ.out))
      obtain ⟨g,p,hx2,hMc,hg2,hget⟩:∃ g p,x2 = some ⟨g,p,none⟩∧M≤c2∧g < w.heap.size∧w.cell? ⟨g,p + j,none⟩ = some (.string (tx (d.rl.getD j []))):=by
       obtain ⟨x,c,e,hc,_,hn⟩:=HRL.out.old' HMM.out
       cases e
       obtain ⟨g,p,e1,e2,e3⟩:=hn (List.ne_nil_of_length_pos (by have:=HMM.out;omega))
       exact ⟨g,p,e1,by have:=HMM.out;omega,e2,e3 j (by have:=HMM.out;omega)⟩
      subst hx2
      have hgw:wr.cell? ⟨g,p + j,none⟩ = some (.string (tx (d.rl.getD j []))):=(HBW.out.cell (p:=⟨g,p + j,none⟩) hg2).trans hget
      have hgz:g < wr.heap.size:=Nat.lt_of_lt_of_le hg2 HBW.out.size
      obtain ⟨E,hE⟩:∃ E,E = truthE (bndsN d.fs i) (d.rl.getD j []):=⟨_,rfl⟩
      rw [←hE] at HTJ
      have HE:=hid hE
      clear hE hget
      generalize tx (d.rl.getD j []) = U at HTJ hgw
      go_wp2_with (first | (go_at_call 37;fail))
      refine HTJ.out.mono ?_
      rintro e w2 ⟨rfl,hb2⟩
      have HB2:=hid (HBQ.out.trans (below_le hb2 HBQ.out.size))
      clear hb2 hlt d2 hgw hgz HTJ
      by_cases hz:E = 0
      ·have HNX:Hid (∀ k,k < j + 1→truthE (bndsN d.fs i) (d.rl.getD k []) = 0):=hid (fun k hk=>by
        rcases Nat.lt_or_ge k j with z | z
        ·exact HJ.out.2 k z
        ·obtain rfl:k = j:=by omega
         rw [←HE.out];exact hz)
       subst hz
       go_wp2
       go_roundw
       case rel=>exact ⟨j + 1,by go_num,by omega,hid ⟨HB2.out,HNX.out⟩⟩
       case measure=>simp [intOf];omega
      ·have t1:((E:Int) != 0) = true:=by simpa using (show ¬ ((E:Int) = 0) by omega)
       have HR5:Hid (R = (-1,E)):=hid (by rw [HRE.out,HBR.out j hj HJ.out.2 (.inr (by rw [←HE.out];exact hz)),if_pos hjm,←HE.out])
       clear hz
       go_wp2
       go_ret2
       exact ⟨(by rw [HR5.out] <;> rfl),HI.out.bel.trans (below_le HB2.out HI.out.bel.size)⟩
     ·obtain rfl:j = M:=by omega
      have HR5:Hid (R = (-1,0)):=hid (by rw [HRE.out,HBR.out j (Nat.le_refl _) HJ.out.2 (.inl rfl),if_neg (by omega)])
      clear HJ
      go_wp2
      go_ret2
      exact ⟨(by rw [HR5.out] <;> rfl),HBW.out⟩
theorem rCheck (d:Des) (hd:DOk d) (Ls:List FL) (x1:Option Addr) (q o c1:Nat) (x2:Option Addr) (c2:Nat) (w:World) (hm:DM w d Ls x1 q o c1 x2 c2) :
  Calls Tryz.prog 8 #[.agg (desA (tx d.t) x1 d.fs.length c1 x2 d.rl.length c2 d.rows)] w fun e w'=>e = .returned (.tuple #[.int .i64 (checkP d).1,.int .i64 ((checkP d).2:Nat)])∧Below w.heap.size w w':=by
 by_cases h0:1≤d.rows∧d.rows≤60
 ·by_cases h1:¬ (1≤d.fs.length∧d.fs.length≤64)∨16 < d.rl.length
  ·have e:checkP d = (-1,3):=by unfold checkP;rw [if_neg (by omega),if_pos h1]
   rw [e]
   exact rcheck_many _ _ _ _ _ _ _ _ h0 h1 w
  ·by_cases h3:d.t≠[]∧labelP d.t = false
   ·have e:checkP d = (-1,210):=by unfold checkP;rw [if_neg (by omega),if_neg h1,if_pos h3]
    rw [e]
    exact rcheck_title _ _ _ _ _ _ _ _ h0 (by omega) (by omega) hd.t h3 w
   ·refine rcheck_go d hd Ls x1 q o c1 x2 c2 w hm h0 (by omega) (by omega) ?_
    by_cases ht:d.t = []
    ·exact .inl ht
    ·right
     cases hl:labelP d.t
     ·exact absurd ⟨ht,hl⟩ h3
     ·rfl
 ·have e:checkP d = (-1,5):=by unfold checkP;rw [if_pos h0]
  rw [e]
  exact rcheck_rows _ _ _ _ _ _ _ _ h0 w
end Go.Proofs.YtpcbamcelpcigaaGreat
