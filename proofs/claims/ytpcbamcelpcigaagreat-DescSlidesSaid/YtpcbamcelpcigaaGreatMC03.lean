/- Own texts, merged. -/
import Derived.WalkKit
import Derived.WalkMore
import Derived.Test.YtpcbamcelpcigaaGreatMC02
import Derived.Test.YtpcbamcelpcigaaGreatMC00
set_option maxRecDepth 100000
set_option maxHeartbeats 32000000
open Go.Lib (hid)
namespace Go.Proofs.YtpcbamcelpcigaaGreat
open Go.RowKit Go.Shelf
theorem step_call {P:Program} {ops:Array Oper} {o:Oper} {a:Act} {w:World} {K:Act→World→Prop} {Q:Exit→Act→World→Prop} {E:Prop}
  (hg:o.guard = none) (f:FuncId) (x:Operand) (T:TypeId) (hop:o.op = Op.call { callee:=Callee.value (Operand.func f),args:=#[x],argTypes:=#[T] }) (hent:∀ args w,(callFunc f args).run P w = .ok (.enter f args) w)
  (v:Value) (hx:a.eval x = v) (hc:Calls P f #[v] w fun e w'=>∃ u,e = .returned u∧K (a.put o.dst u) w') :
  if Region.wanted o (yielded ops a.tmps) = true then Oper.wp P o a w K Q else E:=by
 have hw:Region.wanted o (yielded ops a.tmps) = true:=by simp [Region.wanted,hg]
 rw [if_pos hw]
 have hrun:(execOp a.eval o).run P w = .ok (.enter f #[v]) w:=by
  simp [execOp,hop,resolve,invoke,hent,Act.eval,go_sem]
  rw [←hx]
  cases x <;> simp [Act.eval]
 unfold Oper.wp
 rw [hrun,Oper.upon_enter]
 refine hc.mono ?_
 rintro e w' ⟨u,rfl,hk⟩
 exact hk
theorem BSt.app1 {B b:Nat} {D:List Bs} {N M:Bs} {o:Bool} {w w2 w':World} {vd v':Value} {y:Option Addr} {d:Nat} (hlt:b < B∧B≤w.heap.size) (hop:o = true→N ++ M≠[]) (hb:w.heap[b]? = some (.cells #[vd,.slice y N.length d,.bool o] 165 (0,0))) (hd:w.ownsRow B 9 1 vd D.length (strs D)) (hn:w.ownsRow B 5 1 (.slice y N.length d) N.length (Lib.byteCells N))
  (hbel:Below w.heap.size w w2) (ho:w'.ownsRow B 5 1 v' (N.length + M.length) (Lib.byteCells N ++ Lib.byteCells M)) (hg:w2.grownBy w' (Value.slice y N.length d).ownBlock) :
  w'.heap[b]? = some (.cells #[vd,.slice y N.length d,.bool o] 165 (0,0))∧BSt B b D (N ++ M) o (w'.setCell ⟨b,1,none⟩ v')∧Stay b B w (w'.setCell ⟨b,1,none⟩ v'):=by
 have hbl:b < w.heap.size:=(Array.getElem?_eq_some_iff.1 hb).1
 have hvl:∀ k,(Value.slice y N.length d).ownBlock = some k→B≤k∧∃ cur,w.heap[k]? = some (.cells cur 5 (0,0)):=fun k hk=>by
  refine ⟨(hn.lt k hk).1,?_⟩
  rcases hn.2 with ⟨hv,_⟩ | ⟨g',cap,cur,hv,_,hg',_⟩
  ·rw [hv] at hk;cases hk
  ·rw [hv] at hk;cases hk;exact ⟨cur,hg'⟩
 have hold:∀ k,k < w.heap.size→(Value.slice y N.length d).ownBlock≠some k→w'.heap[k]? = w.heap[k]?:=fun k hk hne=>by
  rw [hg.block k (by have:=hbel.size;omega) (fun e=>hne e.symm)]
  exact hbel.block k hk
 have hbb:=(hold b hbl (fun e=>by have:=(hvl b e).1;omega)).trans hb
 have hs:=set_block (o:=1) hbb v'
 have hsz:w.heap.size≤w'.heap.size:=Nat.le_trans hbel.size hg.size
 refine ⟨hbb,⟨⟨vd,v',?_,?_,?_⟩,⟨hlt.1,by simp;omega⟩,hop⟩,?_⟩
 ·rw [hs];rfl
 ·refine row_kept hd (fun j hj=>?_)
  obtain ⟨h1,h2⟩:=hd.lt j hj
  rw [set_other (by omega)]
  refine hold j h2 (fun e=>?_)
  obtain ⟨_,cur,h3⟩:=hvl j e
  rcases hd.2 with ⟨hv,_⟩ | ⟨g',cap,cur',hv,_,hg',_⟩
  ·rw [hv] at hj;cases hj
  ·rw [hv] at hj;cases hj;rw [h3] at hg';cases hg'
 ·have h1:(N ++ M).length = N.length + M.length:=by simp
  rw [h1,Lib.byteCells_append]
  exact row_kept ho (fun j hj=>set_other (by have:=(ho.lt j hj).1;omega))
 ·refine Stay.trans ⟨hg.os.trans hbel.os,hg.tape.trans hbel.tape,hg.output.trans hbel.output,hsz,fun j hj _=>hold j (by omega) (fun e=>by have:=(hvl j e).1;omega),fun j o2 ho2 hc2=>?_⟩ (Stay.set hbb)
  rw [hold j (Array.getElem?_eq_some_iff.1 ho2).1 (fun e=>by obtain ⟨_,cur,h1⟩:=hvl j e;rw [h1] at ho2;cases ho2;cases hc2)]
  exact ho2
theorem BSt.open {B b:Nat} {D:List Bs} {N:Bs} {o:Bool} {W:World} (h:BSt B b D N o W) (hN:N≠[]):(∃ v,W.cell? ⟨b,2,none⟩ = some v)∧W.frozen? ⟨b,2,none⟩ = false∧BSt B b D N true (W.setCell ⟨b,2,none⟩ (.bool true))∧Stay b B W (W.setCell ⟨b,2,none⟩ (.bool true)):=by
 obtain ⟨vd,vn,hb,hd,hn⟩:=h.ex
 have hs:=set_block (o:=2) hb (.bool true)
 refine ⟨⟨.bool o,by simp [World.cell?,hb]⟩,by simp [World.frozen?,hb],⟨⟨vd,vn,by rw [hs];rfl,row_kept hd (fun j hj=>set_other (by have:=(hd.lt j hj).1;have:=h.lt.1;omega)),row_kept hn (fun j hj=>set_other (by have:=(hn.lt j hj).1;have:=h.lt.1;omega))⟩,⟨h.lt.1,by simpa using h.lt.2⟩,fun _=>hN⟩,Stay.set hb⟩
theorem BSt.kept {B b:Nat} {D:List Bs} {N:Bs} {o:Bool} {W W':World} (h:BSt B b D N o W) (hb:Below W.heap.size W W'):BSt B b D N o W':=by
 obtain ⟨vd,vn,h1,hd,hn⟩:=h.ex
 exact ⟨⟨vd,vn,(hb.block b (Array.getElem?_eq_some_iff.1 h1).1).trans h1,row_kept hd (fun j hj=>hb.block j (hd.lt j hj).2),row_kept hn (fun j hj=>hb.block j (hn.lt j hj).2)⟩,⟨h.lt.1,Nat.le_trans h.lt.2 hb.size⟩,h.op⟩
theorem rb0_len (x:Int):rb0 x≠[]∧(rb0 x).length≤4:=by
 unfold rb0
 split
 ·simp
 ·split
  ·simp
  ·split <;> simp
theorem rb_ne (r:Int):rb r≠[]:=(rb0_len _).1
theorem rb_len (r:Int):(rb r).length≤4:=(rb0_len _).2
def addS (s:List Bs × Bs × Bool) (r:Int):List Bs × Bs × Bool:=
 if 0 < ofW r then (if s.2.2 = true then s.1 ++ [s.2.1] else s.1,rb r,true)
 else if s.2.2 = true∧isMk r = true∧s.2.1.length + (rb r).length≤64 then (s.1,s.2.1 ++ rb r,true) else s
theorem byteCells_one (l:Bs):∀ u ∈ Lib.byteCells l,u.oneCell' = true:=by
 intro u hu
 unfold Lib.byteCells at hu
 obtain ⟨x,_,rfl⟩:=List.mem_map.1 hu
 rfl
theorem row_at {w:World} {g:Nat} {l:Bs} {t:TypeId} (h:w.heap[g]? = some (.cells (Lib.byteCells l).toArray t (0,0))):∀ j u,(Lib.byteCells l)[j]? = some u→w.cell? ((⟨g,0,none⟩:Addr).add j) = some u:=fun j u hu=>by
 have h4:(⟨g,0,none⟩:Addr).add j = ⟨g,j,none⟩:=by by_cases e:j = 0 <;> simp [Addr.add,e]
 rw [h4]
 simpa [World.cell?,h] using hu
theorem wadd_base (B b:Nat) (D:List Bs) (N:Bs) (o:Bool) (r:Int) (hDl:D.length≤999999) (hbase:0 < ofW r) (w:World) (h:BSt B b D N o w) :
  Calls Tryz.prog 124 #[.pointer (some ⟨b,0,none⟩),.int .i32 r] w fun e w'=>e = .returned (.tuple #[])∧BSt B b (if o = true then D ++ [N] else D) (rb r) true w'∧Stay b B w w':=by
 obtain ⟨i0,hi,hz0,hz1,hz2⟩:=info_parts5
 have HLT:=hid h.lt
 have HB:=hid (wisBase r)
 rw [decide_eq_true hbase] at HB
 have HEND:Hid (∀ W,BSt B b D N o W→Calls Tryz.prog 125 #[.pointer (some ⟨b,0,none⟩)] W fun e w'=>e = .returned (.tuple #[])∧BSt B b (if o = true then D ++ [N] else D) [] false w'∧Stay b B W w'):=hid (fun W hW=>by
  cases o
  ·exact wend0 B b D N W hW
  ·exact wend1 B b D N (by omega) W hW)
 have HBY:=hid (wbytes r)
 unfold BytesEnd at HBY
 have HNE:=hid (rb_ne r)
 have HLN:=hid (rb_len r)
 obtain ⟨M,hM⟩:∃ M,M = rb r:=⟨_,rfl⟩
 obtain ⟨D2,hD2⟩:∃ M,M = (if o = true then D ++ [N] else D):=⟨_,rfl⟩
 rw [←hM] at HBY HNE HLN ⊢
 rw [←hD2] at HEND ⊢
 have H0:=hid h
 clear hM hD2 h hbase
 go_enter Tryz.func124,Tryz.ntmps124
 go_wp2_with (first | (go_at_call 166;fail))
 go_at_call 166
 refine (HB.out _).mono ?_
 rintro e w1 ⟨rfl,hb1⟩
 have HW1:=hid hb1
 clear hb1
 go_wp2_with (first | (go_at_call 125;fail))
 go_at_call 125
 refine (HEND.out _ (H0.out.kept HW1.out)).mono ?_
 rintro e w2 ⟨rfl,hB2,hS2⟩
 have HS2:=hid ((Stay.of HW1.out H0.out.lt.2).trans hS2)
 have HL2:=hid hB2.lt
 clear HEND H0 HB HW1 hS2
 obtain ⟨vd,vn,hb,hd,hn⟩:=hB2.ex
 obtain ⟨y,d,rfl⟩:=ownsRow_is hn
 have c1:w2.cell? ⟨b,1,none⟩ = some (.slice y 0 d):=by simp [World.cell?,hb]
 have f1:w2.frozen? ⟨b,1,none⟩ = false:=by simp [World.frozen?,hb]
 have hbl:b < w2.heap.size:=(Array.getElem?_eq_some_iff.1 hb).1
 have HA:=hid (fun (w3 w4:World) (v':Value) h1 h2 h3=>BSt.app1 (N:=[]) (M:=M) (w:=w2) (w2:=w3) (w':=w4) (v':=v') HL2.out (fun h=>by cases h) hb hd hn h1 h2 h3)
 have HN2:=hid (show w2.ownsRow B 5 1 (.slice y 0 d) 0 [] from hn)
 clear hB2 hb hd hn
 go_upto_region 2 with (fail)
 go_region_law (first | (refine step_call rfl 167 (.tmp 14) 21 rfl (enters_of Tryz.func167 (by kernel_rfl) rfl) (.int .i32 r) rfl ?_;refine (HBY.out _).mono ?_;rintro e w3 ⟨g3,rfl,hr3,hge3,hb3⟩;refine ⟨_,rfl,?_⟩;have HB3:Hid (Below w2.heap.size w2 w3):=hid ((Below.refl _ _).drew.trans hb3);have c13:w3.cell? ⟨b,1,none⟩ = some (.slice y 0 d):=(HB3.out.cell (p:=⟨b,1,none⟩) hbl).trans c1;have HR3:=hid hr3;clear hr3 hge3 hb3) | (refine step_append_own rfl (.tmp 13) (.tmp 15) 110 rfl B 5 i0 (.int .u8 0) 1 1 Tryz.underlying110 hi hz0 hz1 hz2 rfl (by decide) _ _ _ rfl (row_kept HN2.out (fun j hj=>HB3.out.block j (HN2.out.lt j hj).2)) ⟨g3,0,none⟩ M.length M.length (Lib.byteCells M) rfl (by simp [Lib.byteCells]) (row_at HR3.out) (byteCells_one M) (by unfold maxLen;have:=HLN.out;omega) (by have:=HLN.out;omega) (by have:=HL2.out;have:=HB3.out.size;omega) ?_;intro v' w4 hown' hgrow' _;obtain ⟨hb',hB',hS'⟩:=HA.out w3 w4 v' HB3.out hown' hgrow';have HS':=hid (And.intro hB' hS');have c14:w4.cell? ⟨b,1,none⟩ = some (.slice y 0 d):=(by simp [World.cell?,hb']);have f14:w4.frozen? ⟨b,1,none⟩ = false:=(by simp [World.frozen?,hb']);obtain ⟨x',c',rfl⟩:=ownsRow_is hown';clear hb' hB' hS' hown' hgrow'))
 all_goals
  simp only [List.nil_append,Nat.zero_add] at HS'
  clear c1 f1 c13 c14 f14
  generalize w4.setCell ⟨b,1,none⟩ (Value.slice x' M.length c') = W5 at HS' ⊢
  obtain ⟨⟨v5,c5⟩,f5,hO,hSO⟩:=HS'.out.1.open HNE.out
  have HO:=hid hO
  have HSO:=hid ((HS2.out.trans HS'.out.2).trans hSO)
  clear hO hSO
  go_wp2
  first | go_end0 | refine bodyPost_ret (results_none rfl _ _ _) rfl ?_
  exact ⟨rfl,HO.out,HSO.out⟩
theorem wadd_mark (B b:Nat) (D:List Bs) (N:Bs) (o:Bool) (r:Int) (hNl:N.length≤1000000) (hbase:¬ 0 < ofW r) (w:World) (h:BSt B b D N o w) :
  Calls Tryz.prog 124 #[.pointer (some ⟨b,0,none⟩),.int .i32 r] w fun e w'=>e = .returned (.tuple #[])∧BSt B b D (if o = true∧isMk r = true∧N.length + (rb r).length≤64 then N ++ rb r else N) o w'∧Stay b B w w':=by
 obtain ⟨i0,hi,hz0,hz1,hz2⟩:=info_parts5
 have HLT:=hid h.lt
 have HB:=hid (wisBase r)
 rw [decide_eq_false hbase] at HB
 have HMK:=hid (wisMark r)
 have HBY:=hid (wbytes r)
 unfold BytesEnd at HBY
 have HLN:=hid (rb_len r)
 obtain ⟨M,hM⟩:∃ M,M = rb r:=⟨_,rfl⟩
 obtain ⟨K,hK⟩:∃ M,M = isMk r:=⟨_,rfl⟩
 rw [←hM] at HBY HLN ⊢
 rw [←hK] at HMK ⊢
 have hMl:=HLN.out
 obtain ⟨N2,hN2⟩:∃ X,X = (if o = true∧K = true∧N.length + M.length≤64 then N ++ M else N):=⟨_,rfl⟩
 rw [←hN2]
 have HN2:=hid hN2
 have H0:=hid h
 clear hM hK h hbase hN2
 go_enter Tryz.func124,Tryz.ntmps124
 go_wp2_with (first | (go_at_call 166;fail))
 go_at_call 166
 refine (HB.out _).mono ?_
 rintro e w1 ⟨rfl,hb1⟩
 have H1:=hid (H0.out.kept hb1)
 have HS1:=hid (Stay.of (b:=b) hb1 H0.out.lt.2)
 clear hb1 HB
 obtain ⟨vd,vn,hb,hd,hn⟩:=H1.out.ex
 obtain ⟨y,d,rfl⟩:=ownsRow_is hn
 have c1:w1.cell? ⟨b,1,none⟩ = some (.slice y N.length d):=by simp [World.cell?,hb]
 have c2:w1.cell? ⟨b,2,none⟩ = some (.bool o):=by simp [World.cell?,hb]
 have hbl:b < w1.heap.size:=(Array.getElem?_eq_some_iff.1 hb).1
 have HL1:=hid H1.out.lt
 have HOP:=hid H1.out.op
 have HA:=hid (fun (w3 w4:World) (v':Value) h1 h2 h3=>BSt.app1 (M:=M) (w:=w1) (w2:=w3) (w':=w4) (v':=v') HL1.out (fun h e=>HOP.out h (List.append_eq_nil_iff.1 e).1) hb hd hn h1 h2 h3)
 have HN1:=hid hn
 clear hb hd hn
 cases o
 ·have HV:Hid (N2 = N):=hid (by have:=HN2.out;simpa using this)
  go_wp2
  first | go_end0 | refine bodyPost_ret (results_none rfl _ _ _) rfl ?_
  rw [HV.out]
  exact ⟨rfl,H1.out,HS1.out⟩
 ·go_wp2_with (first | (go_at_call 168;fail))
  go_at_call 168
  refine (HMK.out _).mono ?_
  rintro e w2 ⟨rfl,hb2⟩
  have HB2:=hid hb2
  have c21:w2.cell? ⟨b,1,none⟩ = some (.slice y N.length d):=(hb2.cell (p:=⟨b,1,none⟩) hbl).trans c1
  clear hb2 c1 c2
  cases K
  ·have H2:=hid (And.intro (H1.out.kept HB2.out) (HS1.out.trans (Stay.of (b:=b) HB2.out H1.out.lt.2)))
   have HV:Hid (N2 = N):=hid (by have:=HN2.out;simpa using this)
   go_wp2
   first | go_end0 | refine bodyPost_ret (results_none rfl _ _ _) rfl ?_
   rw [HV.out]
   exact ⟨rfl,H2.out.1,H2.out.2⟩
  ·go_wp2_with (first | (go_at_call 167;fail))
   go_at_call 167
   refine (HBY.out _).mono ?_
   rintro e w3 ⟨g3,rfl,hr3,hge3,hb3⟩
   have HB3:=hid (HB2.out.trans (below_le hb3 HB2.out.size))
   have HR3:=hid hr3
   have c31:w3.cell? ⟨b,1,none⟩ = some (.slice y N.length d):=(HB3.out.cell (p:=⟨b,1,none⟩) hbl).trans (by
    have:=HB2.out.cell (p:=⟨b,1,none⟩) hbl
    rw [←this];exact c21)
   clear hr3 hge3 hb3 c21
   by_cases h64:N.length + M.length≤64
   ·go_wp2_with (first | (at_builtin;go_loud (refine wpList_append_own _ rfl _ _ 110 rfl B 5 i0 (.int .u8 0) 1 1 Tryz.underlying110 hi hz0 hz1 hz2 rfl (by decide) _ _ _ rfl (row_kept HN1.out (fun j hj=>HB3.out.block j (HN1.out.lt j hj).2)) ⟨g3,0,none⟩ M.length M.length (Lib.byteCells M) rfl (by simp [Lib.byteCells]) (row_at HR3.out) (byteCells_one M) (by unfold maxLen;have:=HLN.out;omega) (by have:=HLN.out;omega) (by have:=HL1.out;have:=HB3.out.size;omega) ?_)))
    intro v' w4 hown' hgrow' _
    have HV:Hid (N2 = N ++ M):=hid (by rw [HN2.out];simp [h64])
    obtain ⟨hb',hB',hS'⟩:=HA.out w3 w4 v' HB3.out hown' hgrow'
    have HS':=hid (And.intro hB' (HS1.out.trans hS'))
    have c14:w4.cell? ⟨b,1,none⟩ = some (.slice y N.length d):=by simp [World.cell?,hb']
    have f14:w4.frozen? ⟨b,1,none⟩ = false:=by simp [World.frozen?,hb']
    obtain ⟨x',c',rfl⟩:=ownsRow_is hown'
    clear hb' hB' hS' hown' hgrow' c31
    go_wp2
    first | go_end0 | refine bodyPost_ret (results_none rfl _ _ _) rfl ?_
    rw [HV.out]
    exact ⟨rfl,HS'.out.1,HS'.out.2⟩
   ·have H3:=hid (And.intro (H1.out.kept HB3.out) (HS1.out.trans (Stay.of (b:=b) HB3.out H1.out.lt.2)))
    have h64':¬ (N.length:Int) + (M.length:Int)≤64:=by omega
    have HV:Hid (N2 = N):=hid (by rw [HN2.out,if_neg (fun h=>h64 h.2.2)])
    go_wp2
    first | go_end0 | refine bodyPost_ret (results_none rfl _ _ _) rfl ?_
    rw [HV.out]
    exact ⟨rfl,H3.out.1,H3.out.2⟩
theorem wadd (B b:Nat) (s:List Bs × Bs × Bool) (r:Int) (hDl:s.1.length≤999999) (hNl:s.2.1.length≤1000000) (w:World) (h:BSt B b s.1 s.2.1 s.2.2 w) :
  Calls Tryz.prog 124 #[.pointer (some ⟨b,0,none⟩),.int .i32 r] w fun e w'=>e = .returned (.tuple #[])∧BSt B b (addS s r).1 (addS s r).2.1 (addS s r).2.2 w'∧Stay b B w w':=by
 unfold addS
 by_cases h0:0 < ofW r
 ·rw [if_pos h0]
  exact wadd_base B b s.1 s.2.1 s.2.2 r hDl h0 w h
 ·rw [if_neg h0]
  refine (wadd_mark B b s.1 s.2.1 s.2.2 r hNl h0 w h).mono ?_
  rintro e w' ⟨h1,h2,h3⟩
  refine ⟨h1,?_,h3⟩
  split
  ·rename_i hc
   rw [if_pos hc,hc.1] at h2
   exact h2
  ·rename_i hc
   rw [if_neg hc] at h2
   exact h2
end Go.Proofs.YtpcbamcelpcigaaGreat
namespace Go.Proofs.YtpcbamcelpcigaaGreat
open Go.RowKit Go.Shelf
attribute [local go_sem] Oper.semAt_some
def cutR (s:List Bs × Bs × Bool) (r:Int):List Bs × Bs × Bool:=if ctl r = true then s else addS s r
def cutF (rs:List Int):List Bs × Bs × Bool:=rs.foldl cutR ([],[],false)
def endS (s:List Bs × Bs × Bool):List Bs:=if s.2.2 = true then s.1 ++ [s.2.1] else s.1
def cutS (l:Bs):List Bs:=endS (cutF ((itm l).map (·.2)))
theorem cutF_snoc (rs:List Int) (r:Int):cutF (rs ++ [r]) = cutR (cutF rs) r:=by simp [cutF]
theorem cutR_len (s:List Bs × Bs × Bool) (r:Int) (h:s.2.1.length≤64):(cutR s r).1.length≤s.1.length + 1∧(cutR s r).2.1.length≤64:=by
 have:=rb_len r
 unfold cutR addS
 split
 ·omega
 ·split
  ·split <;> simp <;> omega
  ·split
   ·rename_i hc
    simp
    omega
   ·omega
theorem cutF_len (rs : List Int) : (cutF rs).1.length ≤ rs.length ∧ (cutF rs).2.1.length ≤ 64 := by
  have : ∀ (rs : List Int) (s : List Bs × Bs × Bool), s.2.1.length ≤ 64 → (rs.foldl cutR s).1.length ≤ s.1.length + rs.length ∧ (rs.foldl cutR s).2.1.length ≤ 64 := by
    intro rs
    induction rs with
    | nil => intro s h; exact ⟨by simp, h⟩
    | cons r rs ih =>
      intro s h
      obtain ⟨h1, h2⟩ := cutR_len s r h
      obtain ⟨h3, h4⟩ := ih _ h2
      simp only [List.foldl_cons, List.length_cons]
      exact ⟨by omega, h4⟩
  have h := this rs ([], [], false) (by simp)
  simpa [cutF] using h
theorem itmN_len : ∀ (f a : Nat) (b : Bs), (itmN f a b).length ≤ f
  | 0, _, _ => by simp [itmN]
  | f + 1, a, [] => by simp [itmN]
  | f + 1, a, c :: t => by
    have := itmN_len f (a + (stp (c :: t)).2) ((c :: t).drop (stp (c :: t)).2)
    simp only [itmN, List.length_cons]
    omega
theorem itm_len (l:Bs):(itm l).length≤l.length:=itmN_len _ _ _
theorem each_stops {p q cap:Nat} {L:Bs} {w1:World} (hL:L.length≤4611686018427387904) (hcap:L.length≤cap) (hp:w1.heap[p]? = some (.cells #[.slice (some ⟨q,0,none⟩) L.length cap] 110 (0,0))) (hq:BytesAt w1 q 0 L) (hql:q < w1.heap.size) :
  SeqStopsK Fence.wide 5 Tryz.prog 183 #[.pointer (some ⟨p,0,none⟩)] encE (KeepP p q) (fun xs=>xs = itm L) (fun pre=>pre≠[]∧pre <+: itm L) (itm L).length w1:=fun l J Jx W hW hA _ hY h0=>by
 have hpl:p < w1.heap.size:=(Array.getElem?_eq_some_iff.1 hp).1
 refine (each_in l p q cap L hL hcap W ((hW.block p hpl).trans hp) (hq.kept hql hW) (by have:=hW.size;omega) J Jx hA ?_ h0).mono ?_
 ·intro pre x W1 hJ hpr
  have hlt:pre.length < (itm L).length:=by have:=hpr.length_le;simp at this;omega
  exact hY pre x W1 hJ hlt
 ·rintro e W' ⟨he,⟨xs,hx,hJ⟩ | ⟨pre,hpre,hJ⟩⟩
  ·exact ⟨he,.inl ⟨xs,hx,hJ⟩⟩
  ·exact ⟨he,.inr ⟨pre,hpre,hJ⟩⟩
structure CI (w:World) (B b:Nat) (rs:List Int) (W:World):Prop where
 bs:BSt B b (cutF rs).1 (cutF rs).2.1 (cutF rs).2.2 W
 bel:Below w.heap.size w W
theorem ci_own {α:Type} (w:World) (B b:Nat) (f:List α→List Int) (hB:w.heap.size≤B):OwnFrom B (fun (pre:List α) W=>CI w B b (f pre) W):=fun _ _ _ _ h hg hr=>by
 have hk:=cells_grown hg (fun r e=>(hr r e).2)
 obtain ⟨vd,vn,h1,hd,hn⟩:=h.bs.ex
 have hrow:∀ {e:TypeId} {z n:Nat} {v:Value} {xs:List Value} {A C:World},CellsKept A C→A.ownsRow B e z v n xs→C.ownsRow B e z v n xs:=fun hk ho=>by
  refine ⟨ho.1,?_⟩
  rcases ho.2 with h2 | ⟨g,cap,cur,hv,hb,hg,hr⟩
  ·exact .inl h2
  ·exact .inr ⟨g,cap,cur,hv,hb,(hk.2 _ _ hg rfl).trans hg,hr⟩
 exact ⟨⟨⟨vd,vn,(hk.2 _ _ h1 rfl).trans h1,hrow hk hd,hrow hk hn⟩,⟨h.bs.lt.1,Nat.le_trans h.bs.lt.2 hg.size⟩,h.bs.op⟩,h.bel.grown hg h.bel.size (fun k e=>by have:=(hr k e).1;omega)⟩
theorem wendS (B b:Nat) (s:List Bs × Bs × Bool) (hDl:s.1.length≤1000000) (w:World) (h:BSt B b s.1 s.2.1 s.2.2 w):Calls Tryz.prog 125 #[.pointer (some ⟨b,0,none⟩)] w fun e w'=>e = .returned (.tuple #[])∧BSt B b (endS s) [] false w'∧Stay b B w w':=by
 obtain ⟨D,N,o⟩:=s
 unfold endS
 cases o
 ·exact wend0 B b D N w h
 ·exact wend1 B b D N hDl w h
theorem row_lower {w:World} {b b':Nat} {e:TypeId} {z n:Nat} {v:Value} {xs:List Value} (h:w.ownsRow b e z v n xs) (hb:b'≤b):w.ownsRow b' e z v n xs:=by
 refine ⟨h.1,?_⟩
 rcases h.2 with h2 | ⟨g,cap,cur,hv,hg,hr⟩
 ·exact .inl h2
 ·exact .inr ⟨g,cap,cur,hv,Nat.le_trans hb hg,hr⟩
def CutEnd (l:Bs) (w:World) (e:Ending) (w':World):Prop:=∃ v,e = .returned v∧w'.ownsRow w.heap.size 9 1 v (cutS l).length (strs (cutS l))∧Below w.heap.size w w'
theorem wcutS (l:Bs) (hl:l.length≤900000) (w:World):Calls Tryz.prog 93 #[.string (tx l)] w (CutEnd l w):=by
 have HALL:=hid (fun W=>wall l W)
 unfold AllAt at HALL
 have HLL:=hid hl
 obtain ⟨T,hT⟩:∃ T,T = tx l:=⟨_,rfl⟩
 rw [←hT] at HALL ⊢
 clear hT
 refine (callsIn_wide (n:=6)).1 ?_
 refine callsIn_of_wp_marks Tryz.func93 rfl trivial ?_ rfl
 simp only [Tryz.ntmps93,List.size_toArray,List.length_cons,List.length_nil,Nat.reduceAdd,Nat.reduceSub,Array.replicate_succ,Array.replicate_zero,List.push_toArray,List.append_toArray,List.nil_append,List.cons_append]
 refine wpIn_wide.2 ?_
 go_wp2
 go_step3
 go_wp2
 go_step3
 go_wp2_with (first | (go_at_call 122;fail))
 go_at_call 122
 refine (HALL.out _).mono ?_
 rintro e w1 ⟨p,q,cap,rfl,hp,hcap,hq,hql,hpg,hqg,hb⟩
 have H1:Hid (CI w w1.heap.size w.heap.size [] w1):=by
  have h0:=heap_alloc_new w (.cells #[.slice none 0 0,.slice none 0 0,.bool false] 165)
  have hb0:Below w.heap.size w w1:=((Below.refl _ _).alloc (Nat.le_refl _) _).trans (below_le hb (by simp))
  have hsz:=hb.size
  simp at hsz
  exact hid ⟨⟨⟨.slice none 0 0,.slice none 0 0,(hb.block _ (by simp)).trans h0,World.ownsRow_nil _ _ _ _,World.ownsRow_nil _ _ _ _⟩,⟨by omega,Nat.le_refl _⟩,fun h=>by cases h⟩,hb0⟩
 go_wp2
 have hpl:p < w1.heap.size:=(Array.getElem?_eq_some_iff.1 hp).1
 have hpb:p≠w.heap.size:=by simp at hpg;omega
 have hqb:q≠w.heap.size:=by simp at hqg;omega
 have HPQ:=hid (And.intro (And.intro hpl hql) (And.intro hpb hqb))
 have HST:=hid (each_stops (L:=l) (by omega) hcap hp hq hql)
 clear hp hq hcap hpg hqg hb hpl hql hpb hqb
 refine (wpIn_wide (n:=6)).1 ?_
 refine wpIn_rangeFunc_ownH rfl (by omega) (gf:=183) (lb:=#[.pointer (some ⟨p,0,none⟩)]) (by simp [go_sem]) trivial (enters_of Tryz.func183 (by kernel_rfl) rfl)
  HST.out KeepP.trans (keepP_b HPQ.out.1.1 HPQ.out.1.2) (Below.refl _ _) (fun _=>rfl)
  (fun (pre:List (Nat × Int)) W=>CI w w1.heap.size w.heap.size (pre.map (·.2)) W)
  (fun _ _ _=>False)
  (ci_own w _ _ (fun (pre:List (Nat × Int))=>pre.map (·.2)) H1.out.bel.size)
  (fun _ _ _ _ _ hs _ _=>hs)
  H1.out
  (fun x a' _=>a' = { tmps:=#[.string T,undef,.slice none 0 0,.pointer (some ⟨w.heap.size,0,none⟩),undef,.int .i32 x.2,.string T,.func (.func 183) #[] #[.pointer (some ⟨p,0,none⟩)],.int .i64 x.1,.int .i32 x.2,undef,undef,undef,undef,undef,undef,undef],defers:=[] })
  (fun _ _ _ _ _ _ h _ _=>h) ?assign ?body ?done ?stop
 case assign=>
  intro l' pre x W K hI hK
  unfold encE
  have H:=hid hK
  clear hK
  gi_wp2
  exact H.out _ _ (keepsFrom_below (Below.refl _ _)) (KeepP.refl _ _ _) hI rfl
 case body=>
  rintro l' pre x a' W hl' ⟨rr,hrr⟩ hI rfl hlt
  have HI:=hid hI
  have hln:=itm_len l
  have hbd:=cutF_len (pre.map (·.2))
  rw [List.length_map] at hbd
  have HAD:=hid (fun V (hV:BSt w1.heap.size w.heap.size _ _ _ V)=>wadd w1.heap.size w.heap.size (cutF (pre.map (·.2))) x.2 (by have:=HLL.out;omega) (by omega) V hV)
  have HCT:=hid (wctl x.2)
  have HSN:Hid (cutF ((pre ++ [x]).map (·.2)) = if ctl x.2 = true then cutF (pre.map (·.2)) else addS (cutF (pre.map (·.2))) x.2):=hid (by rw [List.map_append,List.map_cons,List.map_nil,cutF_snoc];rfl)
  obtain ⟨C,hC⟩:∃ C,C = ctl x.2:=⟨_,rfl⟩
  rw [←hC] at HCT HSN
  clear hC hI hrr hlt hln hbd
  gi_wp2_with (first | (refine ⟨trivial,?_⟩;gi_at_call 123;fail))
  refine ⟨trivial,?_⟩
  gi_at_call 123
  refine (CallsIn.inRound l' (callsIn_wide.2 (HCT.out _))).mono ?_
  rintro e w2 ⟨rfl,rfl⟩
  cases C
  ·gi_wp2_with (first | (refine ⟨trivial,?_⟩;gi_at_call 124;fail))
   refine ⟨trivial,?_⟩
   gi_at_call 124
   refine (CallsIn.inRound l' (callsIn_wide.2 (HAD.out _ HI.out.bs))).mono ?_
   rintro e w3 ⟨rfl,hB3,hS3⟩
   have H3:Hid (CI w w1.heap.size w.heap.size ((pre ++ [x]).map (·.2)) w3):=hid ⟨by rw [HSN.out];exact hB3,HI.out.bel.trans (hS3.below (by have:=H1.out.bs.lt;omega))⟩
   have HK3:Hid (KeepsFrom w1.heap.size W w3∧KeepP p q W w3):=hid ⟨⟨hS3.size,fun j o _ ho hc=>hS3.same j o ho hc⟩,⟨hS3.size,hS3.block p HPQ.out.1.1 HPQ.out.2.1,hS3.block q HPQ.out.1.2 HPQ.out.2.2⟩⟩
   clear hB3 hS3
   gi_wp2
   exact ⟨HK3.out.1,HK3.out.2,H3.out⟩
  ·have H3:Hid (CI w w1.heap.size w.heap.size ((pre ++ [x]).map (·.2)) W):=hid ⟨by rw [HSN.out];exact HI.out.bs,HI.out.bel⟩
   gi_wp2
   exact ⟨keepsFrom_below (Below.refl _ _),KeepP.refl _ _ _,H3.out⟩
 case done=>
  rintro D xs W hD hS hI hK
  subst hS
  have hln:=itm_len l
  have hbd:=cutF_len ((itm l).map (·.2))
  rw [List.length_map] at hbd
  have HEN:=hid (wendS w1.heap.size w.heap.size (cutF ((itm l).map (·.2))) (by omega) W hI.bs)
  have HBE:=hid hI.bel
  have HK:=hid hK
  have HD:=hid hD
  have HSZ:=hid (show w.heap.size≤w1.heap.size from by have:=H1.out.bs.lt;omega)
  clear hI hK hD hln hbd
  go_wp2_with (first | (go_at_call 125;fail))
  go_at_call 125
  refine HEN.out.mono ?_
  rintro e w4 ⟨rfl,hB4,hS4⟩
  obtain ⟨vd,vn,hb,hd,hn⟩:=hB4.ex
  have HDD:=hid hd
  have HB4:=hid (HBE.out.trans (hS4.below (by have:=hB4.lt;omega)))
  have HK4:Hid (w4.heap[D]? = some (.deferred (some []))):=hid (hS4.same D _ HK.out rfl)
  have c0:w4.cell? ⟨w.heap.size,0,none⟩ = some vd:=by simp [World.cell?,hb]
  clear hB4 hS4 hb hd hn
  go_wp2
  rw [Exit.noGoto_ret]
  refine ⟨by simp,.inl ⟨_,_,rfl,run_takeDeferred HK4.out,?_⟩⟩
  refine ⟨_,results_tmp rfl _ _ _,vd,rfl,row_kept (row_lower HDD.out HSZ.out) (fun j hj=>?_),HB4.out.trans (belowK_b (w:=w) (Nat.le_refl _) w4 D _ _ (by have:=HD.out;have:=HSZ.out;omega) HK4.out rfl rfl)⟩
  refine World.putObj_heap_other (fun e=>?_)
  subst e
  rcases HDD.out.2 with ⟨hv,_⟩ | ⟨g,cap,cur,hv,_,hg,_⟩
  ·rw [hv] at hj;cases hj
  ·rw [hv] at hj;cases hj;rw [HK4.out] at hg;cases hg
 case stop=>
  rintro D c pre W _ _ h _
  exact h.elim
end Go.Proofs.YtpcbamcelpcigaaGreat
namespace Go.Proofs.YtpcbamcelpcigaaGreat
open Go.RowKit Go.Shelf
theorem join_nil (ws : List Bs) : Lib.join ws [] = ws.flatten := by
  induction ws with
  | nil => rfl
  | cons a t ih =>
    cases t with
    | nil => simp [Lib.join]
    | cons b t => simp only [Lib.join, List.flatten_cons] at ih ⊢; simp [ih]
def Short (s:List Bs × Bs × Bool):Prop:=(∀ c ∈ s.1,c.length≤64)∧s.2.1.length≤64
theorem cutR_short (s:List Bs × Bs × Bool) (r:Int) (h:Short s):Short (cutR s r):=by
 obtain ⟨h1,h2⟩:=h
 have:=rb_len r
 refine ⟨?_,(cutR_len s r h2).2⟩
 unfold cutR addS
 split
 ·exact h1
 ·split
  ·split
   ·intro c hc
    rcases List.mem_append.1 hc with q | q
    ·exact h1 c q
    ·simp at q;rw [q];exact h2
   ·exact h1
  ·split
   ·exact h1
   ·exact h1
theorem cutS_short (l:Bs):∀ c ∈ cutS l,c.length≤64:=by
 have h:∀ (rs:List Int) (s:List Bs × Bs × Bool),Short s→Short (rs.foldl cutR s):=by
  intro rs
  induction rs with
  | nil=>intro s h;exact h
  | cons r rs ih=>intro s h;exact ih _ (cutR_short s r h)
 obtain ⟨h1,h2⟩:=h ((itm l).map (·.2)) ([],[],false) ⟨by simp,by simp⟩
 unfold cutS endS cutF
 intro c hc
 split at hc
 ·rcases List.mem_append.1 hc with q | q
  ·exact h1 c q
  ·simp at q;rw [q];exact h2
 ·exact h1 c hc
theorem cutS_len (l:Bs):(cutS l).length≤l.length + 1:=by
 have h1:=(cutF_len ((itm l).map (·.2))).1
 rw [List.length_map] at h1
 have h2:=itm_len l
 unfold cutS endS
 split
 ·simp;omega
 ·omega
theorem flat_short (ws : List Bs) (h : ∀ c ∈ ws, c.length ≤ 64) : ws.flatten.length ≤ 64 * ws.length := by
  induction ws with
  | nil => simp
  | cons a t ih =>
    have h1 := h a (by simp)
    have h2 := ih (fun c hc => h c (by simp [hc]))
    simp only [List.flatten_cons, List.length_append, List.length_cons]
    omega
def cleanS (l:Bs):Bs:=(cutS l).flatten
theorem wcount (l:Bs) (hl:l.length≤900000) (w:World):Calls Tryz.prog 73 #[.string (tx l)] w fun e w'=>e = .returned (.int .i64 (cutS l).length)∧Below w.heap.size w w':=by
 have HC:=hid (fun W=>wcutS l hl W)
 unfold CutEnd at HC
 obtain ⟨T,hT⟩:∃ T,T = tx l:=⟨_,rfl⟩
 rw [←hT] at HC ⊢
 clear hT
 go_enter Tryz.func73,Tryz.ntmps73
 go_wp2_with (first | (go_at_call 93;fail))
 go_at_call 93
 refine (HC.out _).mono ?_
 rintro e w1 ⟨v,rfl,hv,hb⟩
 obtain ⟨x,c,rfl⟩:=ownsRow_is hv
 have HB:=hid hb
 clear hv hb
 go_wp2
 go_ret
 exact ⟨rfl,HB.out⟩
theorem wclean (l : Bs) (hl : l.length ≤ 900000) (w : World) : Calls Tryz.prog 92 #[.string (tx l)] w fun e w' => e = .returned (.string (tx (cleanS l))) ∧ Below w.heap.size w w' := by
  have HC := hid (fun W => wcutS l hl W)
  unfold CutEnd at HC
  have HLN := hid (And.intro (cutS_len l) (flat_short _ (cutS_short l)))
  have HLL := hid hl
  have HV := hid (show cleanS l = Lib.join (cutS l) [] by rw [join_nil]; rfl)
  obtain ⟨T, hT⟩ : ∃ T, T = tx l := ⟨_, rfl⟩
  rw [← hT] at HC ⊢
  clear hT
  obtain ⟨ws, hws⟩ : ∃ ws, ws = cutS l := ⟨_, rfl⟩
  rw [← hws] at HC HLN HV
  clear hws
  go_enter Tryz.func92, Tryz.ntmps92
  go_wp2_with (first | (go_at_call 93; fail))
  go_at_call 93
  refine (HC.out _).mono ?_
  rintro e w1 ⟨v, rfl, hv, hb⟩
  have HB := hid hb
  have hv2 := hv.2
  rcases hv2 with ⟨rfl, hz⟩ | ⟨g, cap, cur, rfl, hg0, hg, hnc, _⟩
  · have hws : ws = [] := List.length_eq_zero_iff.1 hz
    subst hws
    clear hv hb
    go_wp2_with (first | (go_at_call 121; fail))
    go_at_call 121
    refine (Tryz.strings_Join_none none 0 ⟨#[]⟩ _).mono ?_
    rintro e w2 ⟨rfl, rfl⟩
    go_wp2
    go_ret
    exact ⟨by rw [HV.out]; rfl, HB.out⟩
  · have hgl : g < w1.heap.size := (Array.getElem?_eq_some_iff.1 hg).1
    have HJ := hid (Tryz.strings_Join g 0 cap (ws.map tx) ⟨#[]⟩ w1 (fun j x hx => by
      rw [List.getElem?_map] at hx
      have h1 := hv.cellAt j (by
        have := (List.getElem?_eq_some_iff.1 (show (ws.map tx)[j]? = some x by rw [List.getElem?_map]; exact hx)).1
        simpa using this)
      rw [Nat.zero_add, h1, strs, List.getElem?_map]
      cases hq : ws[j]? with
      | none => rw [hq] at hx; cases hx
      | some y => rw [hq] at hx; cases hx; rfl) hgl (by have := HLN.out.1; have := HLL.out; simp; omega) (by simpa using hnc) (by
        have e1 : (ws.map tx).map (·.data.toList) = ws := by simp [tx, List.map_map, Function.comp_def]
        rw [e1, show (⟨#[]⟩ : ByteArray).data.toList = [] from rfl, join_nil]
        have := HLN.out
        have := HLL.out
        omega))
    have e1 : (ws.map tx).map (·.data.toList) = ws := by simp [tx, List.map_map, Function.comp_def]
    rw [e1, List.length_map, show (⟨#[]⟩ : ByteArray).data.toList = [] from rfl] at HJ
    clear hv hb hg hg0 hgl hnc e1
    go_wp2_with (first | (go_at_call 121; fail))
    go_at_call 121
    refine HJ.out.mono ?_
    rintro e w2 ⟨rfl, hb2⟩
    have HB2 := hid (HB.out.trans (below_le hb2 HB.out.size))
    clear hb2
    go_wp2
    go_ret
    exact ⟨by rw [HV.out]; rfl, HB2.out⟩
structure FB (W:World) (q:Nat) (l:Bs):Prop where
 at_:∀ j,j < l.length→W.cell? ⟨q,j,none⟩ = some (.int .u8 (l.getD j 0).toNat)
 fr:∀ j,j < l.length→W.frozen? ⟨q,j,none⟩ = false
theorem conv_bytes2 (w:World) (l:Bs):∃ cap W1,(convert 9 110 (.string (tx l))).run Tryz.prog w = .ok (.slice (some ⟨w.heap.size,0,none⟩) l.length cap) W1∧l.length≤cap∧FB W1 w.heap.size l∧Below w.heap.size w W1∧W1.heap.size = w.heap.size + 1:=by
 have h:=Lib.run_convert_string_bytes (P:=Tryz.prog) w 9 110 5 (tx l) Tryz.underlying9 Tryz.underlying110 Tryz.underlying5
 have hs:(tx l).size = l.length:=by simp [tx,ByteArray.size]
 rw [hs] at h
 refine ⟨_,_,h,grownCap_ge _ _ _ _,⟨fun j hj=>?_,fun j hj=>?_⟩,?_,Lib.bytesWorld_size _ _ _⟩
 ·exact Lib.bytesWorld_cell w 5 (tx l) j (by rw [hs];exact hj)
 ·have h1:=Lib.bytesWorld_at_new w 5 (tx l)
  have h2:l.length≤(Lib.bytesCells w 5 (tx l)).size:=by
   unfold Lib.bytesCells
   simp [tx]
  simp [World.frozen?,h1]
  omega
 ·exact ⟨rfl,rfl,rfl,by rw [Lib.bytesWorld_size];omega,fun j hj=>Lib.bytesWorld_at_old w 5 (tx l) j hj⟩
def flatB (c:UInt8):UInt8:=if c = 9∨c = 10∨c = 13 then 32 else c
def flatS (l:Bs):Bs:=cleanS (l.map flatB)
theorem FB.set {W:World} {q:Nat} {l:Bs} (h:FB W q l) (k:Nat) (hk:k < l.length) (c:UInt8):FB (W.setCell ⟨q,k,none⟩ (.int .u8 c.toNat)) q (l.set k c):=by
 refine ⟨fun j hj=>?_,fun j hj=>?_⟩
 ·rw [List.length_set] at hj
  by_cases e:j = k
  ·subst e
   rw [World.cell?_setCell_same _ _ _ (h.at_ j hj),List.getD_eq_getElem?_getD,List.getElem?_set_self hj]
   rfl
  ·rw [World.cell?_setCell_other _ _ _ _ (fun q=>e (by injection q with _ q2 _;exact q2.symm)),h.at_ j hj,List.getD_eq_getElem?_getD,List.getD_eq_getElem?_getD,List.getElem?_set_ne (Ne.symm e)]
 ·rw [List.length_set] at hj
  rw [World.frozen?_setCell]
  exact h.fr j hj
def part (l:Bs) (k:Nat):Bs:=(l.take k).map flatB ++ l.drop k
theorem part_len (l:Bs) (k:Nat):(part l k).length = l.length:=by unfold part;simp;omega
theorem part_at (l:Bs) (k:Nat) (hk:k < l.length):(part l k).getD k 0 = l.getD k 0:=by
 unfold part
 rw [List.getD_eq_getElem?_getD,List.getElem?_append_right (by simp;omega)]
 simp
 rw [Nat.min_eq_left (by omega),Nat.sub_self,Nat.add_zero]
theorem part_step (l:Bs) (k:Nat) (hk:k < l.length):(part l k).set k (flatB (l.getD k 0)) = part l (k + 1):=by
 unfold part
 have h1:((l.take k).map flatB).length = k:=by simp;omega
 rw [List.set_append_right _ _ (by omega),h1,Nat.sub_self,List.drop_eq_getElem_cons hk,List.set_cons_zero,List.take_succ_eq_append_getElem hk,List.getD_eq_getElem?_getD,List.getElem?_eq_getElem hk,List.map_append,List.map_cons,List.map_nil,List.append_assoc]
 rfl
theorem part_same (l:Bs) (k:Nat) (hk:k < l.length) (h:flatB (l.getD k 0) = l.getD k 0):part l (k + 1) = part l k:=by
 rw [←part_step l k hk,h,←part_at l k hk,List.getD_eq_getElem?_getD,List.getElem?_eq_getElem (by rw [part_len];exact hk)]
 simp
theorem wflat (l:Bs) (hl:l.length≤900000) (w:World):Calls Tryz.prog 72 #[.string (tx l)] w fun e w'=>e = .returned (.string (tx (flatS l)))∧Below w.heap.size w w':=by
 obtain ⟨cap,W1,hcv,hcap,hfb,hbl,hsz⟩:=conv_bytes2 w l
 have HCL:=hid (fun W=>wclean (l.map flatB) (by simpa using hl) W)
 have HLL:=hid hl
 obtain ⟨q,hq⟩:∃ q,q = w.heap.size:=⟨_,rfl⟩
 rw [←hq] at hcv hfb hbl
 have HQ:=hid hq
 have H1:Hid (FB W1 q (part l 0)∧Below q w W1):=hid ⟨hfb,hbl⟩
 obtain ⟨T,hT⟩:∃ T,T = tx l:=⟨_,rfl⟩
 rw [←hT] at hcv ⊢
 obtain ⟨n,hn⟩:∃ n,n = l.length:=⟨_,rfl⟩
 have HN:=hid hn
 rw [←hn] at hcv hcap hl
 clear hT hfb hbl hsz hq hn
 go_enter Tryz.func72,Tryz.ntmps72
 go_wp2
 go_loopw [10] (fun i wr=>∃ k:Nat,i = .int .i64 k∧k≤n∧Hid (FB wr q (part l k)∧Below q w wr)) (fun i _=>n - (intOf i).toNat)
 case atStart=>exact ⟨0,rfl,by omega,H1⟩
 case round=>
  clear H1 hcv
  obtain ⟨k,rfl,hk,HS⟩:=hrel
  by_cases hlt:k < n
  ·have hkl:k < l.length:=by have:=HN.out;omega
   have c1:=HS.out.1.at_ k (by rw [part_len];exact hkl)
   have f1:=HS.out.1.fr k (by rw [part_len];exact hkl)
   rw [part_at l k hkl] at c1
   obtain ⟨c,hc⟩:∃ c,c = l.getD k 0:=⟨_,rfl⟩
   have HST:=hid (part_step l k hkl)
   have HSM:=hid (part_same l k hkl)
   have HSE:=hid (HS.out.1.set k (by rw [part_len];exact hkl) 32)
   rw [←hc] at c1 HST HSM
   clear hc
   have i1:(0:Int)≤(k:Int):=by omega
   have i2:(k:Int) < (n:Int):=by omega
   by_cases h9:c = 9∨c = 10∨c = 13
   ·have hf:flatB c = 32:=by unfold flatB;rw [if_pos h9]
    have HNX:Hid (FB (wr.setCell ⟨q,k,none⟩ (.int .u8 32)) q (part l (k + 1))∧Below q w (wr.setCell ⟨q,k,none⟩ (.int .u8 32))):=hid ⟨by rw [←HST.out,hf];exact HSE.out,HS.out.2.setCell (p:=⟨q,k,none⟩) (Nat.le_refl _) _⟩
    clear HST HSM HSE hf
    rcases h9 with e | e | e
    all_goals
     subst e
     go_wp2
     go_roundw
     case rel=>exact ⟨k + 1,by go_num,by omega,HNX⟩
     case measure=>simp [intOf];omega
   ·have hf:flatB c = c:=by unfold flatB;rw [if_neg h9]
    have HNX:Hid (FB wr q (part l (k + 1))∧Below q w wr):=hid ⟨by rw [HSM.out hf];exact HS.out.1,HS.out.2⟩
    have nt:∀ d:UInt8,c≠d→((c.toNat:Int) == (d.toNat:Int)) = false:=fun d hd=>by
     rw [beq_eq_false_iff_ne]
     intro q
     exact hd (UInt8.toNat_inj.1 (by omega))
    have b1:((c.toNat:Int) == 9) = false:=nt 9 (fun e=>h9 (.inl e))
    have b2:((c.toNat:Int) == 10) = false:=nt 10 (fun e=>h9 (.inr (.inl e)))
    have b3:((c.toNat:Int) == 13) = false:=nt 13 (fun e=>h9 (.inr (.inr e)))
    clear HST HSM HSE hf nt h9
    go_wp2
    go_roundw
    case rel=>exact ⟨k + 1,by go_num,by omega,HNX⟩
    case measure=>simp [intOf];omega
  ·obtain rfl:k = n:=by omega
   have hM:part l k = l.map flatB:=by unfold part;rw [HN.out];simp
   have hcv2:(convert 110 9 (.slice (some ⟨q,0,none⟩) k cap)).run Tryz.prog wr = .ok (.string (tx (l.map flatB))) wr:=by
    have h:=run_convert_bytes_back wr 110 9 5 ⟨q,0,none⟩ cap (l.map flatB) Tryz.underlying110 Tryz.underlying5 Tryz.underlying9 (fun j hj=>by
     have h4:(⟨q,0,none⟩:Addr).add j = ⟨q,j,none⟩:=by by_cases e:j = 0 <;> simp [Addr.add,e]
     have h5:=HS.out.1.at_ j (by rw [hM];exact hj)
     rw [hM,List.getD_eq_getElem?_getD,List.getElem?_eq_getElem hj] at h5
     rw [h4]
     exact h5)
    rw [List.length_map,←HN.out] at h
    exact h
   obtain ⟨T2,hT2⟩:∃ T2,T2 = tx (l.map flatB):=⟨_,rfl⟩
   rw [←hT2] at hcv2 HCL
   clear hT2 hM
   go_wp2_with (first | (go_at_call 92;fail))
   go_at_call 92
   refine (HCL.out _).mono ?_
   rintro e w3 ⟨rfl,hb3⟩
   have hB:=HS.out.2
   rw [HQ.out] at hB
   have HB3:=hid (hB.trans (below_le hb3 hB.size))
   clear hb3 hB hcv2
   go_wp2
   go_ret
   exact ⟨rfl,HB3.out⟩
end Go.Proofs.YtpcbamcelpcigaaGreat
