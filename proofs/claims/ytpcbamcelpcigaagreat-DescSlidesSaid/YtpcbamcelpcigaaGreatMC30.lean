/- Own texts, merged. -/
import Derived.WalkKit
import Derived.Test.YtpcbamcelpcigaaGreatMC14
import Derived.Test.YtpcbamcelpcigaaGreatMC23
import Derived.Test.YtpcbamcelpcigaaGreatMC28
import Derived.Test.YtpcbamcelpcigaaGreatMC29
import Derived.Test.YtpcbamcelpcigaaGreatMC00
set_option maxRecDepth 100000
set_option maxHeartbeats 32000000
open Go.Lib (hid)
namespace Go.Proofs.YtpcbamcelpcigaaGreat
open Go.RowKit Go.Shelf
attribute [local go_sem] run_store_float
attribute [local go_sem] Oper.semAt_some
theorem run_equalIn_func_nilD (w:World) (d:Nat) (f:Fn) (a b:Array Value):(Op.equalIn (d + 1) 61 (.func f a b) .nilFunc).run Tryz.prog w = .ok false w:=by
 simp [Op.equalIn,run_underlying Tryz.underlying61]
theorem run_eql_func_nilD (w:World) (f:Fn) (a b:Array Value):(binOp .eql 61 (.func f a b) .nilFunc).run Tryz.prog w = .ok (.bool false) w:=by
 simp only [binOp]
 simp [Op.equal,Op.maxDepth,run_equalIn_func_nilD w 9999 f a b]
structure TLI (w:World) (D:Array Value) (most k r:Int) (t:Bool) (W:World):Prop where
 d:W.heap[w.heap.size]? = some (.cells D 25 (0,0))
 bm:Box W (w.heap.size + 1) 3 (.int .i64 most)
 b2:Box W (w.heap.size + 2) 3 (.int .i64 r)
 b3:Box W (w.heap.size + 3) 4 (.bool t)
 bn:Box W (w.heap.size + 4) 3 (.int .i64 k)
 bel:Below w.heap.size w W
 sz:w.heap.size + 6≤W.heap.size
theorem tli_own {α:Type} {w:World} {D:Array Value} {most:Int} {k r:α→Int} {t:α→Bool} {B:Nat} (hB:w.heap.size≤B):OwnFrom B (fun s W=>TLI w D most (k s) (r s) (t s) W):=fun _ _ _ _ h hg hr=>by
 have hk:=cells_grown hg (fun r e=>(hr r e).2)
 exact ⟨(hk.2 _ _ h.d rfl).trans h.d,(hk.2 _ _ h.bm rfl).trans h.bm,(hk.2 _ _ h.b2 rfl).trans h.b2,(hk.2 _ _ h.b3 rfl).trans h.b3,(hk.2 _ _ h.bn rfl).trans h.bn,
  h.bel.grown hg h.bel.size (fun k e=>by have:=(hr k e).1;omega),Nat.le_trans h.sz hg.size⟩
theorem TLI.below {w:World} {D:Array Value} {most k r:Int} {t:Bool} {W W':World} (h:TLI w D most k r t W) (hb:Below W.heap.size W W'):TLI w D most k r t W':=
 ⟨(hb.block _ (Array.getElem?_eq_some_iff.1 h.d).1).trans h.d,(hb.block _ h.bm.lt).trans h.bm,(hb.block _ h.b2.lt).trans h.b2,(hb.block _ h.b3.lt).trans h.b3,(hb.block _ h.bn.lt).trans h.bn,h.bel.trans (below_le hb h.bel.size),Nat.le_trans h.sz hb.size⟩
theorem TLI.setn {w:World} {D:Array Value} {most k r:Int} {t:Bool} {W:World} (h:TLI w D most k r t W) (k':Int):TLI w D most k' r t (W.setCell ⟨w.heap.size + 4,0,none⟩ (.int .i64 k')):=
 ⟨(set_other (by omega)).trans h.d,(set_other (by omega)).trans h.bm,(set_other (by omega)).trans h.b2,(set_other (by omega)).trans h.b3,h.bn.set _,h.bel.setCell (p:=⟨w.heap.size + 4,0,none⟩) (show w.heap.size≤w.heap.size + 4 by omega) _,by simp;exact h.sz⟩
theorem TLI.setr {w:World} {D:Array Value} {most k r:Int} {t:Bool} {W:World} (h:TLI w D most k r t W) (r':Int) (t':Bool):TLI w D most k r' t' ((W.setCell ⟨w.heap.size + 2,0,none⟩ (.int .i64 r')).setCell ⟨w.heap.size + 3,0,none⟩ (.bool t')):=
 ⟨(set_other (by omega)).trans ((set_other (by omega)).trans h.d),(set_other (by omega)).trans ((set_other (by omega)).trans h.bm),(set_other (by omega)).trans (h.b2.set _),Box.set (show Box (W.setCell ⟨w.heap.size + 2,0,none⟩ (.int .i64 r')) (w.heap.size + 3) 4 (.bool t) from (set_other (by omega)).trans h.b3) _,(set_other (by omega)).trans ((set_other (by omega)).trans h.bn),
  (h.bel.setCell (p:=⟨w.heap.size + 2,0,none⟩) (show w.heap.size≤w.heap.size + 2 by omega) _).setCell (p:=⟨w.heap.size + 3,0,none⟩) (show w.heap.size≤w.heap.size + 3 by omega) _,by simp;exact h.sz⟩
theorem told_endD {w W:World} {D:Array Value} {most k r:Int} {t:Bool} {Q:Nat} (h:TLI w D most k r t W) (hQ:w.heap.size + 5≤Q) (hK:W.heap[Q]? = some (.deferred (some []))) :
  (W.putObj Q (.deferred none)).cell? ⟨w.heap.size + 2,0,none⟩ = some (.int .i64 r)∧(W.putObj Q (.deferred none)).cell? ⟨w.heap.size + 3,0,none⟩ = some (.bool t)∧Below w.heap.size w (W.putObj Q (.deferred none)):=
 ⟨Box.cell ((World.putObj_heap_other (by omega)).trans h.b2),Box.cell ((World.putObj_heap_other (by omega)).trans h.b3),h.bel.trans (belowK_b (w:=w) (Nat.le_refl _) W Q _ _ (by omega) hK rfl rfl)⟩
theorem ltold (T:ByteArray) (x1:Option Addr) (c1:Nat) (x2:Option Addr) (n2 c2:Nat) (rows:Int) (Ls:List FL) (q o:Nat) (hL:Ls.length≤1000) (hc:Ls.length≤c1) (most:Nat) (hm:most≤1000) (w:World) (hrow:FRow w x1 q o Ls) (hq:q < w.heap.size) :
  Calls Tryz.prog 9 #[.agg (desA T x1 Ls.length c1 x2 n2 c2 rows),.int .i64 (most:Nat)] w fun e w'=>e = .returned (.tuple #[.int .i64 (min most Ls.length:Nat),.bool true])∧Below w.heap.size w w':=by
 have hfn:=run_eql_func_nilD
 have HRW:=hid hrow
 have HQ:=hid hq
 have HLL:=hid hL
 have HCC:=hid hc
 obtain ⟨N,hN⟩:∃ N,N = Ls.length:=⟨_,rfl⟩
 rw [←hN] at hL hc ⊢
 have HNN:=hid hN
 have HMM:=hid hm
 clear hN hrow hq
 unfold desA
 refine (callsIn_wide (n:=6)).1 ?_
 refine callsIn_of_wp_marks Tryz.func9 rfl trivial ?_ rfl
 simp only [Tryz.ntmps9,List.size_toArray,List.length_cons,List.length_nil,Nat.reduceAdd,Nat.reduceSub,Array.replicate_succ,Array.replicate_zero,List.push_toArray,List.append_toArray,List.nil_append,List.cons_append]
 refine wpIn_wide.2 ?_
 go_wp2_with (first | (go_at_call 29;fail))
 go_at_call 29
 refine (dFields _ _ _ _ _ _ _ _ _).mono ?_
 rintro e w1 ⟨rfl,rfl⟩
 go_wp2
 simp only [Nat.add_assoc,Nat.reduceAdd]
 obtain ⟨W0,hW0⟩:∃ W0,W0 = (((((w.alloc (.cells #[.string T,.slice x1 N c1,.slice x2 n2 c2,.int .i64 rows] 25)).alloc (.cells #[.int .i64 (most:Int)] 3)).alloc (.cells #[.int .i64 0] 3)).alloc (.cells #[.bool false] 4)).alloc (.cells #[.int .i64 0] 3)).alloc (.cells #[.string T,.slice x1 N c1,.slice x2 n2 c2,.int .i64 rows] 25):=⟨_,rfl⟩
 have HI:Hid (TLI w #[.string T,.slice x1 N c1,.slice x2 n2 c2,.int .i64 rows] (most:Int) 0 0 false W0∧W0.heap[w.heap.size + 5]? = some (.cells #[.string T,.slice x1 N c1,.slice x2 n2 c2,.int .i64 rows] 25 (0,0))∧W0.heap.size = w.heap.size + 6):=hid (by
  obtain ⟨A1,hA1⟩:∃ A1,A1 = w.alloc (.cells #[.string T,.slice x1 N c1,.slice x2 n2 c2,.int .i64 rows] 25):=⟨_,rfl⟩
  obtain ⟨A2,hA2⟩:∃ A2,A2 = A1.alloc (.cells #[.int .i64 (most:Int)] 3):=⟨_,rfl⟩
  obtain ⟨A3,hA3⟩:∃ A3,A3 = A2.alloc (.cells #[.int .i64 0] 3):=⟨_,rfl⟩
  obtain ⟨A4,hA4⟩:∃ A4,A4 = A3.alloc (.cells #[.bool false] 4):=⟨_,rfl⟩
  obtain ⟨A5,hA5⟩:∃ A5,A5 = A4.alloc (.cells #[.int .i64 0] 3):=⟨_,rfl⟩
  rw [←hA1,←hA2,←hA3,←hA4,←hA5] at hW0
  have z1:A1.heap.size = w.heap.size + 1:=by rw [hA1];simp
  have z2:A2.heap.size = w.heap.size + 2:=by rw [hA2,World.size_alloc,z1]
  have z3:A3.heap.size = w.heap.size + 3:=by rw [hA3,World.size_alloc,z2]
  have z4:A4.heap.size = w.heap.size + 4:=by rw [hA4,World.size_alloc,z3]
  have z5:A5.heap.size = w.heap.size + 5:=by rw [hA5,World.size_alloc,z4]
  have z6:W0.heap.size = w.heap.size + 6:=by rw [hW0,World.size_alloc,z5]
  have k2:∀ j,j < w.heap.size + 1→A2.heap[j]? = A1.heap[j]?:=fun j hj=>by rw [hA2];exact heap_alloc_old _ _ (by omega)
  have k3:∀ j,j < w.heap.size + 2→A3.heap[j]? = A2.heap[j]?:=fun j hj=>by rw [hA3];exact heap_alloc_old _ _ (by omega)
  have k4:∀ j,j < w.heap.size + 3→A4.heap[j]? = A3.heap[j]?:=fun j hj=>by rw [hA4];exact heap_alloc_old _ _ (by omega)
  have k5:∀ j,j < w.heap.size + 4→A5.heap[j]? = A4.heap[j]?:=fun j hj=>by rw [hA5];exact heap_alloc_old _ _ (by omega)
  have k6:∀ j,j < w.heap.size + 5→W0.heap[j]? = A5.heap[j]?:=fun j hj=>by rw [hW0];exact heap_alloc_old _ _ (by omega)
  refine ⟨⟨?_,?_,?_,?_,?_,?_,by omega⟩,?_,z6⟩
  ·rw [k6 _ (by omega),k5 _ (by omega),k4 _ (by omega),k3 _ (by omega),k2 _ (by omega),hA1];exact heap_alloc_new _ _
  ·unfold Box;rw [k6 _ (by omega),k5 _ (by omega),k4 _ (by omega),k3 _ (by omega),hA2];exact heap_at (heap_alloc_new _ _) (by omega)
  ·unfold Box;rw [k6 _ (by omega),k5 _ (by omega),k4 _ (by omega),hA3];exact heap_at (heap_alloc_new _ _) (by omega)
  ·unfold Box;rw [k6 _ (by omega),k5 _ (by omega),hA4];exact heap_at (heap_alloc_new _ _) (by omega)
  ·unfold Box;rw [k6 _ (by omega),hA5];exact heap_at (heap_alloc_new _ _) (by omega)
  ·rw [hW0]
   exact (((((((hA5 ▸ hA4 ▸ hA3 ▸ hA2 ▸ hA1 ▸ (((((Below.refl w.heap.size w).alloc (Nat.le_refl _) _).alloc (by simp) _).alloc (by simp;omega) _).alloc (by simp;omega) _).alloc (by simp;omega) _))).alloc (by omega) _))))
  ·rw [hW0];exact heap_at (heap_alloc_new _ _) (by omega))
 rw [←hW0]
 have HST:Hid (SeqStopsK Fence.wide 5 Tryz.prog 51 #[.pointer (some ⟨w.heap.size + 5,0,none⟩)] (encF Ls) (KeepP (w.heap.size + 5) q) (fun xs=>xs.map (·.1) = List.range Ls.length) (fun pre=>∃ k,k≤Ls.length∧0 < k∧pre.map (·.1) = List.range k) Ls.length W0):=hid
  (fields_stops (o:=o) (cap:=c1) (x:=x1) (t:=T) (v2:=.slice x2 n2 c2) (rows:=rows) (by have:=HLL.out;omega) HCC.out (by rw [←HNN.out];exact HI.out.2.1) (HRW.out.below HI.out.1.bel) (Nat.lt_of_lt_of_le HQ.out HI.out.1.bel.size))
 clear hW0 hfn hm hc hL
 refine (wpIn_wide (n:=6)).1 ?_
 refine wpIn_rangeFunc_ownH rfl (by omega) (gf:=51) (lb:=#[.pointer (some ⟨w.heap.size + 5,0,none⟩)]) (by simp [go_sem]) trivial (enters_of Tryz.func51 (by kernel_rfl) rfl)
  HST.out KeepP.trans (keepP_b (by have:=HI.out.2.2;omega) (Nat.lt_of_lt_of_le HQ.out HI.out.1.bel.size)) (Below.refl _ _) (fun _=>rfl)
  (fun (pre:List (Fin Ls.length)) W=>TLI w #[.string T,.slice x1 N c1,.slice x2 n2 c2,.int .i64 rows] (most:Int) (pre.length:Nat) 0 false W∧pre.length≤most)
  (fun ce (pre:List (Fin Ls.length)) W=>(ce = .exit 0∧pre.length = most + 1∧TLI w #[.string T,.slice x1 N c1,.slice x2 n2 c2,.int .i64 rows] (most:Int) (most:Int) 0 false W)∨(ce = .ret∧∀ k,pre.map (·.1)≠List.range k))
  (fun s A B row h hg hr=>⟨tli_own (α:=Unit) (k:=fun _=>((s.length:Nat):Int)) (r:=fun _=>0) (t:=fun _=>false) HI.out.1.bel.size () A B row h.1 hg hr,h.2⟩)
  (fun ce s A B row h hg hr=>h.imp (fun ⟨e,l,t⟩=>⟨e,l,tli_own (α:=Unit) (k:=fun _=>(most:Int)) (r:=fun _=>0) (t:=fun _=>false) HI.out.1.bel.size () A B row t hg hr⟩) id)
  ⟨HI.out.1,Nat.zero_le _⟩
  (fun y a' W=>∃ b6,a' = { tmps:=#[.agg #[.string T,.slice x1 N c1,.slice x2 n2 c2,.int .i64 rows],.int .i64 (most:Int),.pointer (some ⟨w.heap.size,0,none⟩),.pointer (some ⟨w.heap.size + 1,0,none⟩),.pointer (some ⟨w.heap.size + 2,0,none⟩),.pointer (some ⟨w.heap.size + 3,0,none⟩),.pointer (some ⟨w.heap.size + 4,0,none⟩),.func (.func 51) #[] #[.pointer (some ⟨w.heap.size + 5,0,none⟩)],.int .i64 (y.1:Nat),.pointer (some ⟨b6,0,none⟩),.agg #[.string T,.slice x1 N c1,.slice x2 n2 c2,.int .i64 rows],.func (.func 51) #[] #[.pointer (some ⟨w.heap.size + 5,0,none⟩)],.func (.func 51) #[] #[.pointer (some ⟨w.heap.size + 5,0,none⟩)],.bool false,.func (.func 51) #[] #[.pointer (some ⟨w.heap.size + 5,0,none⟩)],.int .i64 (y.1:Nat),(Ls[y.1]).v,undef,undef,undef,undef,undef,undef,undef,undef,undef,undef,undef,undef,undef,undef,undef,undef,undef,undef,undef,undef,undef,undef,undef,undef,undef,undef,undef,undef,undef,undef,undef,undef],defers:=[] }∧Hid (FLB W b6 (Ls[y.1])))
  ?hax ?assign ?body ?done ?stop
 case hax=>
  exact fun x a' s A B row ⟨b6,h1,h2⟩ hg hr=>⟨b6,h1,hid (((cells_grown hg (fun r e=>(hr r e).2)).2 _ _ h2.out rfl).trans h2.out)⟩
 case assign=>
  intro l pre y W K' hI hK
  have HK:=hid hK
  have HII:=hid hI
  unfold encF
  obtain ⟨F,hF⟩:∃ F,F = Ls[y.1]:=⟨_,rfl⟩
  have HF:=hid hF
  rw [←hF]
  unfold FL.v FL.a
  clear hK hI hF
  gi_wp2
  have hal:∀ ob,Below W.heap.size W (W.alloc ob):=fun ob=>(Below.refl _ _).alloc (Nat.le_refl _) _
  exact HK.out _ _ (keepsFrom_below (hal _)) (keepP_below (by have:=HII.out.1.sz;omega) (Nat.lt_of_lt_of_le HQ.out HII.out.1.bel.size) (hal _)) ⟨HII.out.1.below (hal _),HII.out.2⟩ ⟨_,by rw [←HF.out];rfl,hid (by rw [←HF.out];exact heap_alloc_new _ _)⟩
 case body=>
  rintro l pre y a' W hl' _ ⟨hI,hp⟩ ⟨b6,rfl,hf6⟩ hlt
  dsimp only
  have HII:=hid hI
  have km:=hI.bm.cell
  have kn:=hI.bn.cell
  have fn:=hI.bn.frozen
  have k2:=hI.b2.cell
  have k3:=hI.b3.cell
  have f2:=hI.b2.frozen
  have f3:=hI.b3.frozen
  have lm:=hI.bm.lt
  have ln:=hI.bn.lt
  have l2:=hI.b2.lt
  have l3:=hI.b3.lt
  have dd:=hI.d
  have l0:=(Array.getElem?_eq_some_iff.1 dd).1
  have d1:W.cell? ⟨w.heap.size,1,none⟩ = some (.slice x1 N c1):=by simp [World.cell?,dd]
  clear dd
  have HY2:Hid (y.1 < N):=hid (by rw [HNN.out];exact y.2)
  have HFR:Hid (x1 = some ⟨q,o,none⟩∧∀ j u,(Ls[y.1]).a[j]? = some u→W.cell? ⟨q,o + y.1 * 16 + j,none⟩ = some u):=hid (by
   obtain ⟨e,_,hcell⟩:=HRW.out (List.ne_nil_of_length_pos (by have:=y.2;omega))
   exact ⟨e,fun j u hu=>(hI.bel.cell (p:=⟨q,o + y.1 * 16 + j,none⟩) HQ.out).trans (hcell y.1 y.2 j u hu)⟩)
  have HQW:Hid (q < W.heap.size∧w.heap.size + 4 < W0.heap.size):=hid ⟨Nat.lt_of_lt_of_le HQ.out hI.bel.size,by have:=HI.out.2.2;omega⟩
  obtain ⟨F,hF⟩:∃ F,F = Ls[y.1]:=⟨_,rfl⟩
  rw [←hF] at hf6 HFR ⊢
  obtain ⟨pl,hpl⟩:∃ pl,pl = pre.length:=⟨_,rfl⟩
  rw [←hpl] at kn hp HII hlt
  have HPL:=hid hpl
  have HP:=hid hp
  have HM2:Hid (pl≤1000):=hid (by have:=HMM.out;omega)
  obtain ⟨yv,hyv⟩:∃ yv,yv = y.1:=⟨_,rfl⟩
  rw [←hyv] at HFR HY2 ⊢
  have HYV:Hid (yv≠pl→∀ k,(pre ++ [y]).map (·.1)≠List.range k):=hid (fun hne k hk=>by
   obtain ⟨j,_,h2,h3⟩:=snoc_rangeF hk
   have h4:=congrArg List.length h2
   simp at h4
   omega)
  obtain ⟨e0,e1,_⟩:=hf6.out.cells
  have l6:=hf6.out.lt
  clear hI hF hpl hyv hp hlt
  by_cases hge:most≤pl
  ·have i1:(most:Int)≤(pl:Int):=by omega
   have HGE:Hid (pl = most):=hid (by have:=HP.out;omega)
   clear hge
   gi_wp2
   exact ⟨KeepsFrom.refl _ _,.inl ⟨rfl,by have h1:=HPL.out;have h2:=HGE.out;rw [List.length_append,List.length_singleton];omega,by have h:=HII.out;rw [HGE.out] at h;exact h⟩⟩
  ·have i1:¬ (most:Int)≤(pl:Int):=by omega
   have HGE:Hid (pl < most):=hid (by omega)
   clear hge
   by_cases hy:yv = pl
   ·subst hy
    obtain ⟨hx1,hcell⟩:=HFR.out
    subst hx1
    have c0:=hcell 0 (.int .i64 F.k) rfl
    have c1':=hcell 1 (.string F.nm) rfl
    rw [Nat.add_zero] at c0
    have i2:(0:Int)≤(yv:Int):=by omega
    have i3:(yv:Int) < (N:Int):=by have:=HY2.out;omega
    have i4:(yv:Int)≤1000:=by have:=HM2.out;omega
    have b1:((yv:Int) != (yv:Int)) = false:=bne_self_eq_false _
    have b2:(F.nm.toList != F.nm.toList) = false:=bne_self_eq_false _
    have b3:(F.k != F.k) = false:=bne_self_eq_false _
    have hqw:=HQW.out.1
    clear hcell HFR HYV
    gi_wp2
    refine region_quiet (by kernel_rfl) (by kernel_rfl) (by kernel_rfl) ?_
    repeat (gi_big_quiet_step (fail))
    refine wpQuietIn_nil ?_
    intro _ hw'
    obtain ⟨nq,hw''⟩:=hw'
    subst hw''
    gi_wp2
    have hd:Below W.heap.size W (W.drewN nq):=below_drewN (Below.refl _ _) _
    have h1:=(HII.out.below hd).setn ((yv:Int) + 1)
    refine ⟨(keepsFrom_below hd).trans (keepsFrom_set _ _ _ (by have:=HQW.out.2;show w.heap.size + 4 < _;omega)),(keepP_below (by have:=HII.out.sz;omega) HQW.out.1 hd).trans (keepP_set (by show w.heap.size + 5≠w.heap.size + 4;omega) (by have:=HQ.out;show q≠w.heap.size + 4;omega)),?_,?_⟩
    ·rw [List.length_append,List.length_singleton,←HPL.out]
     rw [show ((yv + 1:Nat):Int) = (yv:Int) + 1 by omega]
     exact h1
    ·rw [List.length_append,List.length_singleton,←HPL.out]
     have:=HGE.out
     omega
   ·have b1:((yv:Int) != (pl:Int)) = true:=by simpa using (show ¬ ((yv:Int) = (pl:Int)) by omega)
    have HRT:=hid (HYV.out hy)
    clear hy HYV HFR
    gi_wp2
    refine region_quiet (by kernel_rfl) (by kernel_rfl) (by kernel_rfl) ?_
    repeat (gi_big_quiet_step (fail))
    refine wpQuietIn_nil ?_
    intro _ hw'
    obtain ⟨nq,hw''⟩:=hw'
    subst hw''
    gi_wp2
    have hd:Below W.heap.size W (W.drewN nq):=below_drewN (Below.refl _ _) _
    exact ⟨((keepsFrom_below hd).trans (keepsFrom_set _ _ _ (by have:=HQW.out.2;show w.heap.size + 2 < _;omega))).trans (keepsFrom_set _ _ _ (by have:=HQW.out.2;show w.heap.size + 3 < _;omega)),.inr ⟨rfl,HRT.out⟩⟩
 case done=>
  rintro Q xs W hQ hS ⟨hI,hp⟩ hK
  have hl:xs.length = N:=by have:=congrArg List.length hS;rw [HNN.out];simpa using this
  rw [hl] at hI hp
  have HE:Hid (min most N = N):=hid (by omega)
  have HII:=hid hI
  have HK:=hid hK
  have HQ5:Hid (w.heap.size + 5≤Q):=hid (by have:=HI.out.2.2;omega)
  have kn:=hI.bn.cell
  have k2:=hI.b2.cell
  have k3:=hI.b3.cell
  have f2:=hI.b2.frozen
  have f3:=hI.b3.frozen
  have ln:=hI.bn.lt
  have l2:=hI.b2.lt
  have l3:=hI.b3.lt
  have HF:Hid (TLI w #[.string T,.slice x1 N c1,.slice x2 n2 c2,.int .i64 rows] (most:Int) (N:Nat) (N:Nat) true ((W.setCell ⟨w.heap.size + 2,0,none⟩ (.int .i64 (N:Nat))).setCell ⟨w.heap.size + 3,0,none⟩ (.bool true))∧((W.setCell ⟨w.heap.size + 2,0,none⟩ (.int .i64 (N:Nat))).setCell ⟨w.heap.size + 3,0,none⟩ (.bool true)).heap[Q]? = some (.deferred (some []))):=hid ⟨hI.setr _ _,(set_other (by have:=HQ5.out;omega)).trans ((set_other (by have:=HQ5.out;omega)).trans hK)⟩
  clear hI hp hS hl hK hQ
  gi_wp2
  go_wp2
  refine ⟨by simp,.inl ⟨_,_,rfl,run_takeDeferred HF.out.2,?_⟩⟩
  obtain ⟨z1,z2,z3⟩:=told_endD HF.out.1 HQ5.out HF.out.2
  exact ⟨_,results_11 rfl _ _ (w.heap.size + 2) (w.heap.size + 3) _ _ Tryz.isAgg3 Tryz.isAgg4 rfl rfl z1 z2,by rw [HE.out],z3⟩
 case stop=>
  rintro Q ce pre W hQ ⟨k,hk1,hk2,hk3⟩ hx hK
  rcases hx with ⟨rfl,hlen,hI⟩ | ⟨_,hx⟩
  ·have hl:pre.length = k:=by have:=congrArg List.length hk3;simpa using this
   have HE:Hid (min most N = most):=hid (by have:=HNN.out;omega)
   have HK:=hid hK
   have HQ5:Hid (w.heap.size + 5≤Q):=hid (by have:=HI.out.2.2;omega)
   have kn:=hI.bn.cell
   have k2:=hI.b2.cell
   have k3:=hI.b3.cell
   have f2:=hI.b2.frozen
   have f3:=hI.b3.frozen
   have ln:=hI.bn.lt
   have l2:=hI.b2.lt
   have l3:=hI.b3.lt
   have HF:Hid (TLI w #[.string T,.slice x1 N c1,.slice x2 n2 c2,.int .i64 rows] (most:Int) (most:Nat) (most:Nat) true ((W.setCell ⟨w.heap.size + 2,0,none⟩ (.int .i64 (most:Nat))).setCell ⟨w.heap.size + 3,0,none⟩ (.bool true))∧((W.setCell ⟨w.heap.size + 2,0,none⟩ (.int .i64 (most:Nat))).setCell ⟨w.heap.size + 3,0,none⟩ (.bool true)).heap[Q]? = some (.deferred (some []))):=hid ⟨hI.setr _ _,(set_other (by have:=HQ5.out;omega)).trans ((set_other (by have:=HQ5.out;omega)).trans hK)⟩
   clear hI hlen hl hk1 hk2 hk3 hK hQ
   gi_wp2
   go_wp2
   refine ⟨by simp,.inl ⟨_,_,rfl,run_takeDeferred HF.out.2,?_⟩⟩
   obtain ⟨z1,z2,z3⟩:=told_endD HF.out.1 HQ5.out HF.out.2
   exact ⟨_,results_11 rfl _ _ (w.heap.size + 2) (w.heap.size + 3) _ _ Tryz.isAgg3 Tryz.isAgg4 rfl rfl z1 z2,by rw [HE.out],z3⟩
  ·exact absurd hk3 (hx k)
end Go.Proofs.YtpcbamcelpcigaaGreat
namespace Go.Proofs.YtpcbamcelpcigaaGreat
open Go.RowKit Go.Shelf
attribute [local go_sem] run_store_float
theorem toksV_get : ∀ (L : List Tok) (i : Nat) (t : Tok), L[i]? = some t → (toksV L)[i * 2]? = some (.int .u8 (kd t.k)) ∧ (toksV L)[i * 2 + 1]? = some (.string (tx t.s))
  | [], i, t, h => by cases h
  | u :: r, 0, t, h => by
    cases h
    exact ⟨rfl, rfl⟩
  | u :: r, i + 1, t, h => by
    have e : toksV (u :: r) = Value.int .u8 (kd u.k) :: Value.string (tx u.s) :: toksV r := rfl
    rw [e, show (i + 1) * 2 = i * 2 + 1 + 1 by omega, show i * 2 + 1 + 1 + 1 = (i * 2 + 1) + 1 + 1 by omega, List.getElem?_cons_succ, List.getElem?_cons_succ, List.getElem?_cons_succ, List.getElem?_cons_succ]
    exact toksV_get r i t (by simpa using h)
theorem tokV_row {n0:Nat} {w:World} {v:Value} {L:List Tok} (h:w.ownsRow n0 152 2 v L.length (toksV L)):TokV w.heap.size w v L:=by
 have hc:=fun g (hg:v.ownBlock = some g)=>h.cells hg
 have hl:=h.lt
 rcases h.2 with ⟨rfl,h3⟩ | ⟨g,cap,cur,rfl,_,_,hcap,_⟩
 ·have:L = []:=List.length_eq_zero_iff.1 h3
  subst this
  exact ⟨none,0,rfl,Nat.le_refl _,fun _=>rfl,fun a ha=>by cases ha⟩
 ·refine ⟨some ⟨g,0,none⟩,cap,rfl,hcap,(fun e=>by cases e),fun a ha i t hi=>?_⟩
  cases ha
  obtain ⟨h1,h2⟩:=toksV_get L i t hi
  exact ⟨(hl g rfl).2,hc g rfl _ _ h1,hc g rfl _ _ h2⟩
theorem parse_fault {l : Bs} (h : (lex l).2 = false) : readP l = none := by
  unfold readP
  by_cases q : (lex l).1 = []
  · rw [if_pos ⟨q, h⟩]
  · rw [if_neg (fun e => q e.1)]
    have hp := fun a r => P_len valV (lex l).2 (12 * (lex l).1.length + 11) .or (lex l).1 a r
    cases hx : P valV (lex l).2 (12 * (lex l).1.length + 11) .or (lex l).1 with
    | none => rfl
    | some x =>
      obtain ⟨t, r⟩ := x
      have := (hp t r hx).2.2 (fun _ => q) h
      cases r with
      | nil => exact absurd rfl this
      | cons _ _ => rfl
theorem parse_read {l:Bs} (h:(lex l).2 = true):readP l = match P valV true (12 * (lex l).1.length + 11) .or (lex l).1 with
  | some (t,[])=>some t
  | _=>none:=by
 unfold readP
 rw [if_neg (fun e=>by rw [h] at e;cases e.2),h]
 rfl
theorem lex_ok (l:Bs):KOk (lex l).1:=lexF_ok _ l
theorem rparse (l:Bs) (hl:l.length≤1000000) (w:World):Calls Tryz.prog 57 #[.string (tx l)] w (ParseEnd l w):=by
 have HS:=hid (tx_size' l)
 have HPC:=hid (fun W=>rpieces l hl W)
 have HL:=hid hl
 obtain ⟨pr,hpr⟩:∃ x,x = parseP l:=⟨_,rfl⟩
 have HP:=hid hpr
 unfold parseP at HP
 by_cases q:256 < l.length
 ·have q2:256 < ((tx l).size:Int):=by have:=HS.out;omega
  rw [if_pos q] at HP
  have HE:Hid (∀ e w',(∃ v,e = .returned (.tuple #[v,.int .i64 (2:Nat)])∧NodeV (fun b=>w.heap.size≤b) w' v zeroT∧Below w.heap.size w w')→ParseEnd l w e w'):=hid (fun e w' h=>by
   unfold ParseEnd;rw [←hpr,HP.out];exact h)
  clear hpr q hl
  go_enter Tryz.func57,Tryz.ntmps57
  go_wp2
  refine bodyPost_ret (results_cell_tmp rfl _ _ w.heap.size 87 _ _ _ rfl (heap_alloc_new w _) Tryz.underlying87 rfl (by kernel_rfl)) rfl (HE.out _ _ ?_)
  exact ⟨_,rfl,NodeV.zero _ _,(Below.refl _ _).alloc (Nat.le_refl _) _⟩
 ·have q2:¬ 256 < ((tx l).size:Int):=by have:=HS.out;omega
  rw [if_neg q] at HP
  have HSZ:Hid (∀ t,readP l = some t→szT t≤1000000∧depT t≤1000000):=hid (fun t h=>by
   have h1:=readP_sz h
   have h2:=dep_sz t
   have h3:=HL.out
   omega)
  have HE190:Hid (pr = (zeroT,190)→∀ e w',(∃ v,e = .returned (.tuple #[v,.int .i64 (190:Nat)])∧NodeV (fun b=>w.heap.size≤b) w' v zeroT∧Below w.heap.size w w')→ParseEnd l w e w'):=hid (fun h0 e w' h=>by
   unfold ParseEnd;rw [←hpr,h0];exact h)
  have HE0:Hid (∀ t,pr = (t,0)→∀ e w',(∃ v,e = .returned (.tuple #[v,.int .i64 (0:Nat)])∧NodeV (fun b=>w.heap.size≤b) w' v t∧Below w.heap.size w w')→ParseEnd l w e w'):=hid (fun t h0 e w' h=>by
   unfold ParseEnd;rw [←hpr,h0];exact h)
  have HZ0:Hid (NB (w.alloc (.cells #[.string ⟨#[]⟩,.float .f64 0,.string ⟨#[]⟩,.slice none 0 0] 87)) w.heap.size zeroN):=hid ⟨_,_,_,_,rfl,heap_alloc_new _ _⟩
  have HB0:=hid (bel1 w (.cells #[.string ⟨#[]⟩,.float .f64 0,.string ⟨#[]⟩,.slice none 0 0] 87))
  clear q hl hpr
  go_enter Tryz.func57,Tryz.ntmps57
  go_wp2_with (first | (go_at_call 82;fail))
  generalize w.alloc (.cells #[.string ⟨#[]⟩,.float .f64 0,.string ⟨#[]⟩,.slice none 0 0] 87) = W0 at HZ0 HB0 ⊢
  go_at_call 82
  refine (HPC.out _).mono ?_
  rintro e w3 ⟨hb3,⟨h1,rfl⟩ | ⟨h1,v3,rfl,hrow⟩⟩
  ·have HPR:Hid (pr = (zeroT,190)):=hid (by rw [HP.out,parse_fault h1])
   have HZ:=hid (HZ0.out.below hb3)
   have HB:=hid (HB0.out.trans (below_le hb3 HB0.out.size))
   obtain ⟨b0,b1,b2,b3,bf⟩:=HZ.out.cells
   have f0:=bf 0
   have f1:=bf 1
   have f2:=bf 2
   have f3:=bf 3
   clear bf hb3 h1 HP
   go_wp2
   have hz2:=HZ.out.put (v0:=.string ⟨#[]⟩) (v1:=.float .f64 0) (v2:=.string ⟨#[]⟩) (v3:=.slice none 0 0)
   refine bodyPost_ret (results_cell_tmp rfl _ _ w.heap.size 87 _ _ _ rfl hz2.heap Tryz.underlying87 rfl (by kernel_rfl)) rfl (HE190.out HPR.out _ _ ?_)
   exact ⟨_,rfl,NodeV.zero _ _,below_put HB.out (Nat.le_refl _)⟩
  ·have HZ3:=hid (HZ0.out.below hb3)
   have HB3:=hid (HB0.out.trans (below_le hb3 HB0.out.size))
   have htk:=tokV_row hrow
   have hlen:(lex l).1.length≤l.length:=lexF_len _ _
   have HRW:=hid (rread w3.heap.size (lex l).1 v3 w3 _ (Nat.le_refl _) (by have:=HL.out;omega) (Nat.le_refl _) (lex_ok l) htk)
   have HPR:=hid (parse_read h1)
   obtain ⟨res,hres⟩:∃ y,y = P valV true (12 * (lex l).1.length + 11) .or (lex l).1:=⟨_,rfl⟩
   rw [←hres] at HRW HPR
   obtain ⟨x3,n3,c3,rfl⟩:=htk.agg
   clear hb3 hrow h1 htk hlen hres HPC
   go_wp2_with (first | (go_at_call 83;fail))
   go_at_call 83
   refine (HRW.out).mono ?_
   rintro e w5 ⟨hb5,v5,rfl,o5,n5,s5,x5,l5,c5,y5,m5,d5,bad5,t5,rfl,hnode5,hcase5⟩
   have hal5:Below w5.heap.size w5 (w5.alloc (.cells #[.string o5,.float .f64 n5,.string s5,.slice x5 l5 c5,.slice y5 m5 d5,.bool bad5] 121)):=(Below.refl _ _).alloc (Nat.le_refl _) _
   have hlt3:=HZ3.out.lt
   have hsz5:=hb5.size
   have HZ7:=hid ((HZ3.out.below hb5).below hal5)
   have HB7:=hid ((HB3.out.trans (below_le hb5 HB3.out.size)).trans (below_le hal5 (by omega)))
   have HG7:Hid (RB (w5.alloc (.cells #[.string o5,.float .f64 n5,.string s5,.slice x5 l5 c5,.slice y5 m5 d5,.bool bad5] 121)) w5.heap.size _ _ _ _ _ _):=hid (heap_alloc_new _ _)
   have HN7:=hid ((hnode5.sub (B:=fun b=>w.heap.size≤b∧b≠w.heap.size) (fun b h1 _=>by have h3:w3.heap.size≤b:=h1;show _∧_;omega)).below hal5)
   have hlt5:w.heap.size < w5.heap.size:=by omega
   have hcases:(bad5 = true∧readP l = none)∨(bad5 = false∧0 < m5∧readP l = none)∨(bad5 = false∧m5 = 0∧readP l = some t5):=by
    rcases hcase5 with ⟨h1,h2⟩ | ⟨h1,ts,h2,⟨x',cap',hv',_⟩,_⟩
    ·exact .inl ⟨h1,by rw [HPR.out,h2]⟩
    ·cases hv'
     cases ts with
     | nil=>exact .inr (.inr ⟨h1,rfl,by rw [HPR.out,h2]⟩)
     | cons t r=>exact .inr (.inl ⟨h1,by simp,by rw [HPR.out,h2]⟩)
   clear hcase5 hnode5 hal5 hb5 HZ3 HB3 HRW HPR
   go_upto_region 7 with (fail)
   generalize (w5.alloc (.cells #[.string o5,.float .f64 n5,.string s5,.slice x5 l5 c5,.slice y5 m5 d5,.bool bad5] 121)) = W7 at *
   generalize w5.heap.size = g7 at *
   obtain ⟨e0,e1,e2,e3,e4,e5⟩:=HG7.out.cells
   have hg7:=HG7.out.lt
   rcases hcases with ⟨rfl,h2⟩ | ⟨rfl,h2,h3⟩ | ⟨rfl,h2,h3⟩
   ·have HPR:Hid (pr = (zeroT,190)):=hid (by rw [HP.out,h2])
    clear h2 HP
    obtain ⟨b0,b1,b2,b3,bf⟩:=HZ7.out.cells
    have f0:=bf 0
    have f1:=bf 1
    have f2:=bf 2
    have f3:=bf 3
    clear bf
    go_wp2
    have hz2:=HZ7.out.put (v0:=.string ⟨#[]⟩) (v1:=.float .f64 0) (v2:=.string ⟨#[]⟩) (v3:=.slice none 0 0)
    refine bodyPost_ret (results_cell_tmp rfl _ _ w.heap.size 87 _ _ _ rfl hz2.heap Tryz.underlying87 rfl (by kernel_rfl)) rfl (HE190.out HPR.out _ _ ?_)
    exact ⟨_,rfl,NodeV.zero _ _,below_put HB7.out (Nat.le_refl _)⟩
   ·have HPR:Hid (pr = (zeroT,190)):=hid (by rw [HP.out,h3])
    have hm:0 < (m5:Int):=by omega
    clear h2 h3 HP
    obtain ⟨b0,b1,b2,b3,bf⟩:=HZ7.out.cells
    have f0:=bf 0
    have f1:=bf 1
    have f2:=bf 2
    have f3:=bf 3
    clear bf
    go_wp2
    have hz2:=HZ7.out.put (v0:=.string ⟨#[]⟩) (v1:=.float .f64 0) (v2:=.string ⟨#[]⟩) (v3:=.slice none 0 0)
    refine bodyPost_ret (results_cell_tmp rfl _ _ w.heap.size 87 _ _ _ rfl hz2.heap Tryz.underlying87 rfl (by kernel_rfl)) rfl (HE190.out HPR.out _ _ ?_)
    exact ⟨_,rfl,NodeV.zero _ _,below_put HB7.out (Nat.le_refl _)⟩
   ·subst h2
    have HP2:Hid (pr = if 16 < depT t5 then (zeroT,190) else (t5,0)):=hid (by rw [HP.out,h3])
    have HSZ2:=hid (HSZ.out t5 h3)
    have HDP:Hid (∀ W,NodeV (fun b=>w.heap.size≤b∧b≠w.heap.size) W (.agg #[.string o5,.float .f64 n5,.string s5,.slice x5 l5 c5]) t5→Calls Tryz.prog 84 #[.agg #[.string o5,.float .f64 n5,.string s5,.slice x5 l5 c5]] W fun e w'=>e = .returned (.int .i64 (depT t5))∧Below W.heap.size W w'):=
     hid (fun W h=>rdepth _ t5 (Nat.le_refl _) _ _ W HSZ2.out.1 h)
    obtain ⟨D,hD⟩:∃ D,D = depT t5:=⟨_,rfl⟩
    rw [←hD] at HDP HP2 HSZ2
    have hdl:D≤1000000:=HSZ2.out.2
    clear h3 HP hD
    go_wp2_with (first | (go_at_call 84;fail))
    refine (HDP.out _ HN7.out).mono ?_
    rintro e w8 ⟨rfl,hb8⟩
    have HZ8:=hid (HZ7.out.below hb8)
    have HN8:=hid (HN7.out.below hb8)
    have HB8:=hid (HB7.out.trans (below_le hb8 HB7.out.size))
    obtain ⟨e0,e1,e2,e3,e4,e5⟩:=(HG7.out.below hb8).cells
    have hg8:=hb8.size
    clear hb8 HN7 HB7 HDP HSZ2
    obtain ⟨b0,b1,b2,b3,bf⟩:=HZ8.out.cells
    have f0:=bf 0
    have f1:=bf 1
    have f2:=bf 2
    have f3:=bf 3
    clear bf
    by_cases q16:16 < D
    ·have HPR:Hid (pr = (zeroT,190)):=hid (by rw [HP2.out,if_pos q16])
     go_wp2
     have hz2:=HZ8.out.put (v0:=.string ⟨#[]⟩) (v1:=.float .f64 0) (v2:=.string ⟨#[]⟩) (v3:=.slice none 0 0)
     refine bodyPost_ret (results_cell_tmp rfl _ _ w.heap.size 87 _ _ _ rfl hz2.heap Tryz.underlying87 rfl (by kernel_rfl)) rfl (HE190.out HPR.out _ _ ?_)
     exact ⟨_,rfl,NodeV.zero _ _,below_put HB8.out (Nat.le_refl _)⟩
    ·have HPR:Hid (pr = (t5,0)):=hid (by rw [HP2.out,if_neg q16])
     go_wp2
     have hz2:=HZ8.out.put (v0:=.string o5) (v1:=.float .f64 n5) (v2:=.string s5) (v3:=.slice x5 l5 c5)
     refine bodyPost_ret (results_cell_tmp rfl _ _ w.heap.size 87 _ _ _ rfl hz2.heap Tryz.underlying87 rfl (by kernel_rfl)) rfl (HE0.out t5 HPR.out _ _ ?_)
     exact ⟨_,rfl,NodeV.kept (by rw [putN_size];exact Nat.le_refl _) (fun b h1 _=>⟨h1.1,putN_other h1.2⟩) t5 _ HN8.out,below_put HB8.out (Nat.le_refl _)⟩
end Go.Proofs.YtpcbamcelpcigaaGreat
namespace Go.Proofs.YtpcbamcelpcigaaGreat
open Go.RowKit Go.Shelf Ieee
attribute [local go_sem] run_store_float
def oneB:Nat:=4607182418800017408
def sgN (x:Nat):Bool:=match double.div oneB x with
 | some r=>double.order r 0 == some .lt
 | none=>false
def sameN (x y:Nat):Bool:=
 if isNan x = true∨isNan y = true then isNan x && isNan y
 else (double.order x y == some .eq) && (!(double.order x 0 == some .eq) || sgN x == sgN y)
def sameV (a b:Vl):Bool:=if a.t≠b.t then false else if a.t = 1 then sameN a.n b.n else if a.t = 2 then decide (a.s = b.s) else if a.t = 3 then a.b == b.b else true
def vlV (a:Vl):Value:=.agg #[.int .i64 a.t,.float .f64 a.n,.string (tx a.s),.bool a.b]
theorem below_drewN {n:Nat} {a w:World} (h:Below n a w) (k:Nat):Below n a (w.drewN k):=h.trans ⟨rfl,rfl,rfl,Nat.le_refl _,fun _ _=>rfl⟩
theorem order_self {x:Nat} (h:isNan x = false):double.order x x = some .eq:=by
 rw [order_val x x h h]
 simp [compare,compareOfLessAndEq]
theorem sameN_self (x:Nat):sameN x x = true:=by
 unfold sameN
 cases h:isNan x
 ·rw [if_neg (by simp),order_self h]
  simp
 ·rw [if_pos (.inl rfl)];rfl
theorem div_one {x:Nat} (h:isNan x = false):∃ r,double.div oneB x = some r:=by
 obtain ⟨m,i,hm,h1⟩:∃ m i,m≠0∧double.read oneB = .number (isNeg oneB) m i:=by
  obtain ⟨m,i,h1,_,h2⟩:=read_fin oneB (by decide)
  refine ⟨m,i,fun e=>?_,h1⟩
  rw [e,Nat.zero_mul,←valN_zero] at h2
  exact absurd (valN_inj h2) (by decide)
 unfold Format.div
 rw [h1]
 rcases read_num x h with ⟨n,j,q⟩ | q
 ·rw [q]
  unfold Datum.quotient
  by_cases hn:n = 0
  ·simp [hn,hm]
  ·simp [hn]
 ·rw [q]
  exact ⟨_,rfl⟩
theorem rsign (x:Nat) (h:isNan x = false) (w:World):Calls Tryz.prog 49 #[.float .f64 x] w fun e w'=>e = .returned (.bool (sgN x))∧w = w':=by
 obtain ⟨r,hr⟩:=div_one h
 have hV:∀ W,(binOp BinOp.quo 37 (.float .f64 4607182418800017408) (.float .f64 x)).run Tryz.prog W = .ok (.float .f64 r) W:=fun W=>run_float_arith W .quo 37 .f64 _ _ _ hr
 have HE:Hid ((FloatKind.f64.format.order r 0 == some .lt) = sgN x):=hid (by unfold sgN;rw [hr];rfl)
 clear h hr
 go_enter Tryz.func49,Tryz.ntmps49
 go_wp2
 go_ret
 exact ⟨ret_bool HE.out,rfl⟩
theorem rSame (a b:Vl) (w:World):Calls Tryz.prog 26 #[vlV a,vlV b] w fun e w'=>e = .returned (.bool (sameV a b))∧Below w.heap.size w w':=by
 obtain ⟨ta,na,sa,ba⟩:=a
 obtain ⟨tb,nb,sb,bb⟩:=b
 have HAL:=hid (fun o1 o2=>((Below.refl w.heap.size w).alloc (Nat.le_refl _) o1).alloc (by simp) o2)
 show Calls Tryz.prog 26 #[.agg #[.int .i64 ta,.float .f64 na,.string (tx sa),.bool ba],.agg #[.int .i64 tb,.float .f64 nb,.string (tx sb),.bool bb]] w _
 obtain ⟨R,hR⟩:∃ R,R = sameV ⟨ta,na,sa,ba⟩ ⟨tb,nb,sb,bb⟩:=⟨_,rfl⟩
 rw [←hR]
 unfold sameV at hR
 simp only at hR
 by_cases ht:ta = tb
 ·subst ht
  rw [if_neg (by simp)] at hR
  by_cases t1:ta = 1
  ·subst t1
   rw [if_pos rfl] at hR
   unfold sameN at hR
   cases hx:isNan na
   ·have o1:(FloatKind.f64.format.order na na != some .eq) = false:=by rw [show FloatKind.f64.format = double from rfl,order_self hx];rfl
    cases hy:isNan nb
    ·have o2:(FloatKind.f64.format.order nb nb != some .eq) = false:=by rw [show FloatKind.f64.format = double from rfl,order_self hy];rfl
     rw [if_neg (by simp [hx,hy])] at hR
     cases o3:(FloatKind.f64.format.order na nb == some .eq)
     ·have HR:Hid (R = false):=hid (by rw [hR,show (double.order na nb == some .eq) = false from o3];rfl)
      clear hR hx hy
      go_enter Tryz.func26,Tryz.ntmps26
      go_wp2
      go_quiet (fail)
      go_wp2
      go_ret
      exact ⟨ret_bool HR.out.symm,below_drewN (HAL.out _ _) _⟩
     ·cases o4:(FloatKind.f64.format.order na 0 == some .eq)
      ·have HR:Hid (R = true):=hid (by rw [hR,show (double.order na nb == some .eq) = true from o3,show (double.order na 0 == some .eq) = false from o4];rfl)
       have o5:(FloatKind.f64.format.order na 0 != some .eq) = true:=by simp only [bne,o4];rfl
       clear hR hx hy
       go_enter Tryz.func26,Tryz.ntmps26
       go_wp2
       go_quiet (fail)
       go_wp2
       go_ret
       exact ⟨ret_bool HR.out.symm,below_drewN (HAL.out _ _) _⟩
      ·have HR:Hid (R = (sgN na == sgN nb)):=hid (by rw [hR,show (double.order na nb == some .eq) = true from o3,show (double.order na 0 == some .eq) = true from o4];rfl)
       have o5:(FloatKind.f64.format.order na 0 != some .eq) = false:=by simp only [bne,o4];rfl
       have HSA:=hid (fun W=>rsign na hx W)
       have HSB:=hid (fun W=>rsign nb hy W)
       clear hR hx hy
       go_enter Tryz.func26,Tryz.ntmps26
       go_wp2
       go_quiet ((first | (go_at_call 49;exact quiet_eq (HSA.out _)) | (go_at_call 49;exact quiet_eq (HSB.out _))))
       go_wp2
       go_ret
       exact ⟨ret_bool HR.out.symm,below_drewN (HAL.out _ _) _⟩
    ·have o2:(FloatKind.f64.format.order nb nb != some .eq) = true:=by rw [show FloatKind.f64.format = double from rfl,order_nan nb nb (.inl hy)];rfl
     rw [if_pos (.inr hy),hx] at hR
     have HR:Hid (R = false):=hid hR
     clear hR hx hy
     go_enter Tryz.func26,Tryz.ntmps26
     go_wp2
     go_ret
     exact ⟨ret_bool HR.out.symm,HAL.out _ _⟩
   ·have o1:(FloatKind.f64.format.order na na != some .eq) = true:=by rw [show FloatKind.f64.format = double from rfl,order_nan na na (.inl hx)];rfl
    rw [if_pos (.inl hx),hx] at hR
    cases hy:isNan nb
    ·have o2:(FloatKind.f64.format.order nb nb != some .eq) = false:=by rw [show FloatKind.f64.format = double from rfl,order_self hy];rfl
     have HR:Hid (R = false):=hid (by rw [hR,hy];rfl)
     clear hR hx hy
     go_enter Tryz.func26,Tryz.ntmps26
     go_wp2
     go_ret
     exact ⟨ret_bool HR.out.symm,HAL.out _ _⟩
    ·have o2:(FloatKind.f64.format.order nb nb != some .eq) = true:=by rw [show FloatKind.f64.format = double from rfl,order_nan nb nb (.inl hy)];rfl
     have HR:Hid (R = true):=hid (by rw [hR,hy];rfl)
     clear hR hx hy
     go_enter Tryz.func26,Tryz.ntmps26
     go_wp2
     go_ret
     exact ⟨ret_bool HR.out.symm,HAL.out _ _⟩
  ·rw [if_neg t1] at hR
   have i1:(ta == 1) = false:=by simpa using t1
   by_cases t2:ta = 2
   ·subst t2
    rw [if_pos rfl] at hR
    have HR:Hid (R = ((tx sa).toList == (tx sb).toList)):=hid (by rw [hR,tx_toList,tx_toList];by_cases e:sa = sb <;> simp [e])
    clear hR
    go_enter Tryz.func26,Tryz.ntmps26
    go_wp2
    go_ret
    exact ⟨ret_bool HR.out.symm,HAL.out _ _⟩
   ·rw [if_neg t2] at hR
    have i2:(ta == 2) = false:=by simpa using t2
    by_cases t3:ta = 3
    ·subst t3
     rw [if_pos rfl] at hR
     have HR:Hid (R = (ba == bb)):=hid hR
     clear hR
     go_enter Tryz.func26,Tryz.ntmps26
     go_wp2
     go_ret
     exact ⟨ret_bool HR.out.symm,HAL.out _ _⟩
    ·rw [if_neg t3] at hR
     have i3:(ta == 3) = false:=by simpa using t3
     have HR:Hid (R = true):=hid hR
     clear hR
     go_enter Tryz.func26,Tryz.ntmps26
     go_wp2
     go_ret
     exact ⟨ret_bool HR.out.symm,HAL.out _ _⟩
 ·rw [if_pos ht] at hR
  have i1:(ta != tb) = true:=by simpa using ht
  have HR:Hid (R = false):=hid hR
  clear hR
  go_enter Tryz.func26,Tryz.ntmps26
  go_wp2
  go_ret
  exact ⟨ret_bool HR.out.symm,HAL.out _ _⟩
end Go.Proofs.YtpcbamcelpcigaaGreat
