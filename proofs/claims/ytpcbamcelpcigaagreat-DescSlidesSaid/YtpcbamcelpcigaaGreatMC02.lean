/- Own texts, merged. -/
import Derived.WalkKit
import Derived.Lib.ConvBytes
import Derived.Laws.AppendOwn
import Derived.Deep.RegionLawGrows
import Derived.Maps.AppendAt
import Derived.Test.YtpcbamcelpcigaaGreatMC01
import Derived.Test.YtpcbamcelpcigaaGreatMC00
set_option maxRecDepth 100000
set_option maxHeartbeats 32000000
open Go.Lib (hid)
namespace Go.Proofs.YtpcbamcelpcigaaGreat
open Go.RowKit Go.Shelf
attribute [local go_sem] Oper.semAt_some
def encP (L:List Int) (x:Fin (L.length / 2)):Array Value:=#[.int .i32 (L.getD (2 * x.1) 0),.int .i32 (L.getD (2 * x.1 + 1) 0)]
theorem pairs_stops {p q:Nat} {L:List Int} {w1:World} (hL:L.length≤1000) (hp:w1.heap[p]? = some (.cells #[.slice (some ⟨q,0,none⟩) L.length L.length] 111 (0,0))) (hq:I32At w1 q L) :
  SeqStopsK Fence.wide 5 Tryz.prog 209 #[.pointer (some ⟨p,0,none⟩)] (encP L) (KeepP p q) (fun xs=>xs.map (·.1) = List.range (L.length / 2)) (fun pre=>∃ k,k≤L.length / 2∧0 < k∧pre.map (·.1) = List.range k) (L.length / 2) w1:=fun l J Jx W hW hA _ hY h0=>by
 have hpl:p < w1.heap.size:=(Array.getElem?_eq_some_iff.1 hp).1
 refine (pairs_in l p q L hL W ((hW.block p hpl).trans hp) (hq.kept hq.lt hW)
  (fun q W=>∃ fs:List (Fin (L.length / 2)),q = fs.map (·.1)∧J fs W) (fun q W=>∃ fs:List (Fin (L.length / 2)),q = fs.map (·.1)∧Jx fs W) (fun s A B row ⟨fs,h1,h2⟩ hg hr=>⟨fs,h1,hA fs A B row h2 hg hr⟩) ?_ ⟨[],rfl,h0⟩).mono ?_
 ·rintro k W1 ⟨fs,hfs,hJ⟩ hlt
  have hl:fs.length = k:=by have:=congrArg List.length hfs;simpa using this.symm
  refine (hY fs ⟨k,by omega⟩ W1 hJ (by omega)).mono ?_
  have e:List.range (k + 1) = (fs ++ [(⟨k,by omega⟩:Fin (L.length / 2))]).map (·.1):=by rw [List.range_succ,hfs];simp
  rintro e' W' (⟨he,h1,h2⟩ | ⟨he,h1⟩)
  ·exact .inl ⟨he,⟨_,e,h1⟩,h2⟩
  ·exact .inr ⟨he,_,e,h1⟩
 ·rintro e W' ⟨he,⟨xs,hx,fs,hf,hJ⟩ | ⟨pre,⟨k,h1,h2,h3⟩,fs,hf,hJ⟩⟩
  ·exact ⟨he,.inl ⟨fs,hf.symm.trans hx,hJ⟩⟩
  ·exact ⟨he,.inr ⟨fs,⟨k,h1,h2,hf.symm.trans h3⟩,hJ⟩⟩
def inR (L:List Int) (r:Int):Bool:=(List.range (L.length / 2)).any fun i=>decide (L.getD (2 * i) 0≤r∧r≤L.getD (2 * i + 1) 0)
def Rises (L:List Int):Prop:=∀ i j,i≤j→j < L.length→L.getD i 0≤L.getD j 0
theorem rises_of {L : List Int} (h : (List.range (L.length - 1)).all (fun i => decide (L.getD i 0 ≤ L.getD (i + 1) 0)) = true) : Rises L := by
  intro i j hij hj
  induction j with
  | zero => obtain rfl : i = 0 := by omega
            exact Int.le_refl _
  | succ j ih =>
    by_cases e : i = j + 1
    · subst e; exact Int.le_refl _
    · have h1 := ih (by omega) (by omega)
      have h2 := List.all_eq_true.1 h j (List.mem_range.2 (by omega))
      rw [decide_eq_true_iff] at h2
      exact Int.le_trans h1 h2
theorem marks_rise:Rises marksL:=rises_of (by decide +kernel)
theorem wides_rise:Rises widesL:=rises_of (by decide +kernel)
theorem inR_none {L:List Int} {r:Int} (h:∀ i,i < L.length / 2→¬ (L.getD (2 * i) 0≤r∧r≤L.getD (2 * i + 1) 0)):inR L r = false:=by
 unfold inR
 rw [List.any_eq_false]
 intro i hi
 rw [decide_eq_true_iff]
 exact h i (List.mem_range.1 hi)
theorem inR_some {L:List Int} {r:Int} (k:Nat) (hk:k < L.length / 2) (h:L.getD (2 * k) 0≤r∧r≤L.getD (2 * k + 1) 0):inR L r = true:=by
 unfold inR
 rw [List.any_eq_true]
 exact ⟨k,List.mem_range.2 hk,by rw [decide_eq_true_iff];exact h⟩
def Past (L:List Int) (r:Int) (k:Nat):Prop:=∀ i,i < k→L.getD (2 * i + 1) 0 < r
theorem past_stop {L:List Int} {r:Int} {k:Nat} (hr:Rises L) (hp:Past L r k) (h:r < L.getD (2 * k) 0):inR L r = false:=
 inR_none fun i hi h2=>by
  by_cases e:i < k
  ·have:=hp i e;omega
  ·have:=hr (2 * k) (2 * i) (by omega) (by omega);omega
theorem past_done {L:List Int} {r:Int} (hp:Past L r (L.length / 2)):inR L r = false:=inR_none fun i hi h2=>by have:=hp i hi;omega
theorem past_step {L:List Int} {r:Int} {k:Nat} (hp:Past L r k) (h:¬ r≤L.getD (2 * k + 1) 0):Past L r (k + 1):=fun i hi=>by
 by_cases e:i = k
 ·subst e;omega
 ·exact hp i (by omega)
structure WI (w:World) (r:Int) (v:Bool) (W:World):Prop where
 br:Box W w.heap.size 21 (.int .i32 r)
 bv:Box W (w.heap.size + 1) 4 (.bool v)
 bel:Below w.heap.size w W
def CellsKept (w w':World):Prop:=w.heap.size≤w'.heap.size∧∀ (j:Nat) (o:Obj),w.heap[j]? = some o→o.isCells = true→w'.heap[j]? = w.heap[j]?
theorem cells_grown {A B:World} {row:Option Nat} (hg:A.grownBy B row) (hr:∀ r,row = some r→∃ o:Obj,A.heap[r]? = some o∧o.isCells = false):CellsKept A B:=
 ⟨hg.size,fun _ _ ho hc=>grownBy_keeps_cells hg hr ho hc⟩
theorem wi_own {α:Type} (w:World) (r:Int) (v:Bool) (B:Nat) (hB:w.heap.size≤B):OwnFrom B (fun (_:List α) W=>WI w r v W):=fun _ _ _ _ h hg hr=>by
 have hk:=cells_grown hg (fun r e=>(hr r e).2)
 exact ⟨(hk.2 _ _ h.br rfl).trans h.br,(hk.2 _ _ h.bv rfl).trans h.bv,h.bel.grown hg h.bel.size (fun k e=>by have:=(hr k e).1;omega)⟩
theorem keepsFrom_below {B:Nat} {A C:World} (h:Below A.heap.size A C):KeepsFrom B A C:=⟨h.size,fun k _ _ ho _=>(h.block k (Array.getElem?_eq_some_iff.1 ho).1).trans ho⟩
theorem results_1 {P:Program} {fn:Func} {p:Tmp} {ty:TypeId} (h:fn.results = #[.cell p ty]) (tmps:Array Value) (w:World) (g:Nat) (v:Value) (ha:∀ w,(isAgg ty).run P w = .ok false w)
  (hp:tmps.getD p undef = .pointer (some ⟨g,0,none⟩)) (hv:w.cell? ⟨g,0,none⟩ = some v) :
  (results fn tmps).run P w = .ok v w:=by
 have hp':tmps[p]?.getD undef = .pointer (some ⟨g,0,none⟩):=by simpa using hp
 simp [results,h,hp',asAddr,go_sem,loadVar,hv,ha]
theorem WI.freed {w:World} {r:Int} {v:Bool} {W:World} (h:WI w r v W) {D:Nat} {o o':Obj} (hD:w.heap.size + 2≤D) (hK:W.heap[D]? = some o) (h1:o.isCells = false) (h2:o.isWalk = false) :
  (W.putObj D o').cell? ⟨w.heap.size + 1,0,none⟩ = some (.bool v)∧Below w.heap.size w (W.putObj D o'):=
 ⟨Box.cell ((World.putObj_heap_other (by omega)).trans h.bv),h.bel.trans (belowK_b (w:=w) (Nat.le_refl _) W D _ _ (by omega) hK h1 h2)⟩
theorem snoc_range {N:Nat} {pre:List (Fin N)} {x:Fin N} {k:Nat} (h:(pre ++ [x]).map (·.1) = List.range k):∃ j,k = j + 1∧pre.map (·.1) = List.range j∧x.1 = j:=by
 have hl:=congrArg List.length h
 simp at hl
 subst hl
 rw [List.range_succ,List.map_append] at h
 obtain ⟨h1,h2⟩:=List.append_inj' h (by simp)
 exact ⟨pre.length,rfl,h1,by simpa using h2⟩
theorem WI.set {w:World} {r:Int} {v:Bool} {W:World} (h:WI w r v W) (u:Bool):WI w r u (W.setCell ⟨w.heap.size + 1,0,none⟩ (.bool u)):=
 ⟨(set_other (by omega)).trans h.br,h.bv.set _,h.bel.setCell (p:=⟨w.heap.size + 1,0,none⟩) (show w.heap.size≤w.heap.size + 1 by omega) _⟩
theorem wwithin (r:Int) (p q:Nat) (L:List Int) (w:World) (hL:L.length≤1000) (hr:Rises L) (hp:w.heap[p]? = some (.cells #[.slice (some ⟨q,0,none⟩) L.length L.length] 111 (0,0))) (hq:I32At w q L) :
  Calls Tryz.prog 200 #[.int .i32 r,.func (.func 209) #[] #[.pointer (some ⟨p,0,none⟩)]] w fun e w'=>e = .returned (.bool (inR L r))∧Below w.heap.size w w':=by
 have HR:=hid hr
 have HL:=hid hL
 have hpl:p < w.heap.size:=(Array.getElem?_eq_some_iff.1 hp).1
 have hql:=hq.lt
 refine (callsIn_wide (n:=6)).1 ?_
 refine callsIn_of_wp_marks Tryz.func200 rfl trivial ?_ rfl
 simp only [Tryz.ntmps200,List.size_toArray,List.length_cons,List.length_nil,Nat.reduceAdd,Nat.reduceSub,Array.replicate_succ,Array.replicate_zero,List.push_toArray,List.append_toArray,List.nil_append,List.cons_append]
 gi_wp2
 have hb2:Below w.heap.size w ((w.alloc (.cells #[.int .i32 r] 21)).alloc (.cells #[.bool false] 4)):=((Below.refl _ _).alloc (Nat.le_refl _) _).alloc (by simp) _
 have hwi:WI w r false ((w.alloc (.cells #[.int .i32 r] 21)).alloc (.cells #[.bool false] 4)):=⟨(heap_alloc_old _ _ (by simp)).trans (heap_alloc_new _ _),(show ((w.alloc (.cells #[.int .i32 r] 21)).alloc (.cells #[.bool false] 4)).heap[w.heap.size + 1]? = _ from by have:=heap_alloc_new (w.alloc (.cells #[.int .i32 r] 21)) (.cells #[.bool false] 4);simpa using this),hb2⟩
 have hpw:((w.alloc (.cells #[.int .i32 r] 21)).alloc (.cells #[.bool false] 4)).heap[p]? = some (.cells #[.slice (some ⟨q,0,none⟩) L.length L.length] 111 (0,0)):=(hb2.block p hpl).trans hp
 have hqw:I32At ((w.alloc (.cells #[.int .i32 r] 21)).alloc (.cells #[.bool false] 4)) q L:=hq.kept hql hb2
 have hsz:((w.alloc (.cells #[.int .i32 r] 21)).alloc (.cells #[.bool false] 4)).heap.size = w.heap.size + 2:=by simp
 generalize (w.alloc (.cells #[.int .i32 r] 21)).alloc (.cells #[.bool false] 4) = W0 at hb2 hwi hpw hqw hsz ⊢
 have HSZ:=hid hsz
 clear hp hq hb2
 refine wpIn_rangeFunc_ownH rfl (by omega) (gf:=209) (lb:=#[.pointer (some ⟨p,0,none⟩)]) (by simp [go_sem]) trivial (enters_of Tryz.func209 (by kernel_rfl) rfl)
  (pairs_stops hL hpw hqw) KeepP.trans (keepP_b (by omega) (by omega)) (Below.refl _ _) (fun _=>rfl)
  (fun pre W=>(∀ k,pre.map (·.1) = List.range k→Past L r k)∧WI w r false W)
  (fun c pre W=>c = .ret∧∃ v,(∀ k,pre.map (·.1) = List.range k→v = inR L r)∧WI w r v W)
  (fun s A B row h hg hr=>⟨h.1,wi_own w r false _ (by omega) s A B row h.2 hg hr⟩)
  (fun c s A B row ⟨h1,v,h2,h3⟩ hg hr=>⟨h1,v,h2,wi_own w r _ _ (by omega) s A B row h3 hg hr⟩)
  ⟨fun k hk=>(by have:=congrArg List.length hk;simp at this;subst this;intro i hi;omega),hwi⟩
  (fun x a' _=>a' = { tmps:=#[.int .i32 r,.func (.func 209) #[] #[.pointer (some ⟨p,0,none⟩)],.pointer (some ⟨w.heap.size,0,none⟩),undef,.pointer (some ⟨w.heap.size + 1,0,none⟩),.int .i32 (L.getD (2 * x.1) 0),.int .i32 (L.getD (2 * x.1 + 1) 0),.func (.func 209) #[] #[.pointer (some ⟨p,0,none⟩)],.int .i32 (L.getD (2 * x.1) 0),.int .i32 (L.getD (2 * x.1 + 1) 0),undef,undef,undef,undef,undef,undef],defers:=[] })
  (fun _ _ _ _ _ _ h _ _=>h) ?assign ?body ?done ?stop
 case assign=>
  intro l pre x W K hI hK
  unfold encP
  have H:=hid hK
  clear hK
  gi_wp2
  exact H.out _ _ (keepsFrom_below (Below.refl _ _)) (KeepP.refl _ _ _) hI rfl
 case body=>
  rintro l pre x a' W hl ⟨rr,hrr⟩ ⟨hpast,hI⟩ rfl hlt
  have HI:=hid hI
  have HP:=hid hpast
  have HX:=hid x.2
  have c1:=hI.br.cell
  have c2:=hI.bv.cell
  have f2:=hI.bv.frozen
  have HN1:=hid (hI.set true)
  have HN2:=hid (hI.set false)
  have hpz:p≠w.heap.size + 1:=by omega
  have hqz:q≠w.heap.size + 1:=by omega
  have HKQ:=hid (fun u:Bool=>(show KeepP p q W (W.setCell ⟨w.heap.size + 1,0,none⟩ (.bool u)) from ⟨by simp,set_other hpz,set_other hqz⟩))
  have HKF:=hid (fun u:Bool=>(show KeepsFrom W0.heap.size W (W.setCell ⟨w.heap.size + 1,0,none⟩ (.bool u)) from ⟨by simp,fun k o hk ho _=>(set_other (by have:=HSZ.out;omega)).trans ho⟩))
  clear hI hpast hrr hlt hsz hpz hqz
  obtain ⟨A,hA⟩:∃ A,A = L.getD (2 * x.1) 0:=⟨_,rfl⟩
  obtain ⟨B,hB⟩:∃ A,A = L.getD (2 * x.1 + 1) 0:=⟨_,rfl⟩
  have HA:=hid hA
  have HB:=hid hB
  rw [←hA,←hB]
  clear hA hB
  by_cases h1:r < A
  ·have HE:Hid (∀ k,(pre ++ [x]).map (·.1) = List.range k→false = inR L r):=hid (fun k hk=>by
    obtain ⟨j,_,hj,hx⟩:=snoc_range hk
    exact (past_stop (k:=j) HR.out (HP.out j hj) (by rw [←hx,←HA.out];exact h1)).symm)
   gi_wp2
   first | exact ⟨HKF.out _,rfl,false,HE.out,HN2.out⟩ | exact ⟨HKF.out _,rfl,.inl ⟨fun k hk=>(HE.out k hk).symm,HN2.out⟩⟩
  ·by_cases h2:r≤B
   ·have HE:Hid (∀ k,(pre ++ [x]).map (·.1) = List.range k→true = inR L r):=hid (fun k hk=>by
     obtain ⟨j,_,hj,hx⟩:=snoc_range hk
     have hxl:=HX.out
     exact (inR_some j (by omega) (by rw [←hx,←HA.out,←HB.out];omega)).symm)
    gi_wp2
    first | exact ⟨HKF.out _,rfl,true,HE.out,HN1.out⟩ | exact ⟨HKF.out _,rfl,.inr ⟨fun k hk=>(HE.out k hk).symm,HN1.out⟩⟩
   ·have HE:Hid (∀ k,(pre ++ [x]).map (·.1) = List.range k→Past L r k):=hid (fun k hk=>by
     obtain ⟨j,rfl,hj,hx⟩:=snoc_range hk
     exact past_step (HP.out j hj) (by rw [←hx,←HB.out];exact h2))
    gi_wp2
    exact ⟨keepsFrom_below (Below.refl _ _),KeepP.refl _ _ _,HE.out,HI.out⟩
 case done=>
  rintro D xs W hD hS ⟨hpast,hI⟩ hK
  have HV:=hid (past_done (hpast _ hS))
  have HI:=hid (hI.set false)
  have c2:=hI.bv.cell
  have f2:=hI.bv.frozen
  have HK:Hid ((W.setCell ⟨w.heap.size + 1,0,none⟩ (.bool false)).heap[D]? = some (.deferred (some []))):=hid ((set_other (by omega)).trans hK)
  have HD:=hid (show w.heap.size + 2≤D by omega)
  clear hpast hI hK hS hD hsz
  gi_wp2
  refine ⟨by simp,.inl ⟨_,_,rfl,run_takeDeferred HK.out,?_⟩⟩
  obtain ⟨z1,z2⟩:=HI.out.freed HD.out HK.out (o':=.deferred none) rfl rfl
  exact ⟨_,results_1 rfl _ _ (w.heap.size + 1) _ Tryz.isAgg4 rfl z1,by rw [HV.out],z2⟩
 case stop=>
  rintro D c pre W hD ⟨k,hk1,hk2,hk3⟩ ⟨rfl,v,hv,hI⟩ hK
  have HV:=hid (hv k hk3)
  have HI:=hid hI
  have c2:=hI.bv.cell
  have HK:=hid hK
  have HD:=hid (show w.heap.size + 2≤D by omega)
  clear hv hI hK hk1 hk2 hk3 hsz
  gi_wp2
  refine ⟨by simp,.inl ⟨_,_,rfl,run_takeDeferred HK.out,?_⟩⟩
  obtain ⟨z1,z2⟩:=HI.out.freed HD.out HK.out (o':=.deferred none) rfl rfl
  exact ⟨_,results_1 rfl _ _ (w.heap.size + 1) _ Tryz.isAgg4 rfl z1,by rw [HV.out],z2⟩
end Go.Proofs.YtpcbamcelpcigaaGreat
namespace Go.Proofs.YtpcbamcelpcigaaGreat
open Go.RowKit Go.Shelf
def mrk (r:Int):Bool:=inR marksL r
def wid (r:Int):Bool:=inR widesL r
def ofW (r:Int):Int:=if isR r = false∨ctl r = true∨mrk r = true then 0 else if wid r = true then 2 else 1
def isMk (r:Int):Bool:=decide (ofW r = 0) && !ctl r && isR r
theorem wMark (r:Int) (w:World):Calls Tryz.prog 199 #[.int .i32 r] w fun e w'=>e = .returned (.bool (mrk r))∧Below w.heap.size w w':=by
 have HW:=hid (fun p q w h1 h2=>wwithin r p q marksL w (by decide) marks_rise h1 h2)
 go_enter Tryz.func199,Tryz.ntmps199
 go_wp2_with (first | (go_at_call 204;fail))
 go_at_call 204
 refine (wMarks _).mono ?_
 rintro e w1 ⟨p,q,rfl,h1,h2,h3,h4,hb⟩
 have HB:=hid hb
 have HC:=hid (HW.out p q w1 h1 h2)
 clear h1 h2 h3 h4 hb
 go_wp2_with (first | (go_at_call 200;fail))
 go_at_call 200
 refine HC.out.mono ?_
 rintro e w2 ⟨rfl,hb2⟩
 have HB2:=hid (HB.out.trans (below_le hb2 HB.out.size))
 clear hb2
 go_wp2
 go_ret
 exact ⟨rfl,HB2.out⟩
theorem wOf (r:Int) (w:World):Calls Tryz.prog 185 #[.int .i32 r] w fun e w'=>e = .returned (.int .i64 (ofW r))∧Below w.heap.size w w':=by
 have HW:=hid (fun p q w h1 h2=>wwithin r p q widesL w (by decide) wides_rise h1 h2)
 have HM:=hid (wMark r)
 have HS:=hid (wis r)
 have HC:=hid (wctl r)
 have HV:=hid (show ofW r = if isR r = false∨ctl r = true∨mrk r = true then 0 else if wid r = true then 2 else 1 from rfl)
 obtain ⟨V,hV⟩:∃ V,V = ofW r:=⟨_,rfl⟩
 obtain ⟨I,hI⟩:∃ V,V = isR r:=⟨_,rfl⟩
 obtain ⟨C,hC⟩:∃ V,V = ctl r:=⟨_,rfl⟩
 obtain ⟨M,hM⟩:∃ V,V = mrk r:=⟨_,rfl⟩
 obtain ⟨D,hD⟩:∃ V,V = wid r:=⟨_,rfl⟩
 have HD:=hid (show inR widesL r = D from hD.symm)
 rw [HD.out] at HW
 rw [←hV,←hI,←hC,←hM,←hD] at HV
 rw [←hV]
 rw [←hI] at HS
 rw [←hC] at HC
 rw [←hM] at HM
 clear hV hI hC hM hD HD
 cases I
 ·have HR:Hid (V = 0):=hid (by rw [HV.out];simp)
  clear HV
  go_enter Tryz.func185,Tryz.ntmps185
  go_wp2_with (first | (go_at_call 198;(with_reducible refine (HS.out _).mono ?_);rintro e w' ⟨rfl,rfl⟩))
  go_ret
  exact ⟨by rw [HR.out];rfl,Below.refl _ _⟩
 ·cases C
  ·cases M
   ·have HR:Hid (V = if D = true then 2 else 1):=hid (by rw [HV.out];simp)
    clear HV
    go_enter Tryz.func185,Tryz.ntmps185
    go_wp2_with (first | (go_at_call 198;(with_reducible refine (HS.out _).mono ?_);rintro e w' ⟨rfl,rfl⟩) | (go_at_call 123;(with_reducible refine (HC.out _).mono ?_);rintro e w' ⟨rfl,rfl⟩) | (go_at_call 199;fail))
    go_at_call 199
    refine (HM.out _).mono ?_
    rintro e w1 ⟨rfl,hb1⟩
    have HB1:=hid hb1
    clear hb1
    go_wp2_with (first | (go_at_call 201;fail))
    go_at_call 201
    refine (wWides _).mono ?_
    rintro e w2 ⟨p,q,rfl,h1,h2,h3,h4,hb⟩
    have HB:=hid (HB1.out.trans (below_le hb HB1.out.size))
    have HC7:=hid (HW.out p q w2 h1 h2)
    clear h1 h2 h3 h4 hb
    go_wp2_with (first | (go_at_call 200;fail))
    go_at_call 200
    refine HC7.out.mono ?_
    rintro e w3 ⟨rfl,hb3⟩
    have HB3:=hid (HB.out.trans (below_le hb3 HB.out.size))
    clear hb3
    cases D
    ·go_wp2
     go_ret
     exact ⟨by rw [HR.out];rfl,HB3.out⟩
    ·go_wp2
     go_ret
     exact ⟨by rw [HR.out];rfl,HB3.out⟩
   ·have HR:Hid (V = 0):=hid (by rw [HV.out];simp)
    clear HV
    go_enter Tryz.func185,Tryz.ntmps185
    go_wp2_with (first | (go_at_call 198;(with_reducible refine (HS.out _).mono ?_);rintro e w' ⟨rfl,rfl⟩) | (go_at_call 123;(with_reducible refine (HC.out _).mono ?_);rintro e w' ⟨rfl,rfl⟩) | (go_at_call 199;fail))
    go_at_call 199
    refine (HM.out _).mono ?_
    rintro e w1 ⟨rfl,hb1⟩
    have HB1:=hid hb1
    clear hb1
    go_wp2
    go_ret
    exact ⟨by rw [HR.out];rfl,HB1.out⟩
  ·have HR:Hid (V = 0):=hid (by rw [HV.out];simp)
   clear HV
   go_enter Tryz.func185,Tryz.ntmps185
   go_wp2_with (first | (go_at_call 198;(with_reducible refine (HS.out _).mono ?_);rintro e w' ⟨rfl,rfl⟩) | (go_at_call 123;(with_reducible refine (HC.out _).mono ?_);rintro e w' ⟨rfl,rfl⟩))
   go_ret
   exact ⟨by rw [HR.out];rfl,Below.refl _ _⟩
theorem wisBase (r:Int) (w:World):Calls Tryz.prog 166 #[.int .i32 r] w fun e w'=>e = .returned (.bool (decide (0 < ofW r)))∧Below w.heap.size w w':=by
 go_enter Tryz.func166,Tryz.ntmps166
 go_wp2_with (first | (go_at_call 185;fail))
 go_at_call 185
 refine (wOf r _).mono ?_
 rintro e w1 ⟨rfl,hb⟩
 have HB:=hid hb
 clear hb
 go_wp2
 go_ret
 exact ⟨rfl,HB.out⟩
theorem wisMark (r:Int) (w:World):Calls Tryz.prog 168 #[.int .i32 r] w fun e w'=>e = .returned (.bool (isMk r))∧Below w.heap.size w w':=by
 have HO:=hid (wOf r)
 have HC:=hid (wctl r)
 have HV:=hid (show isMk r = (decide (ofW r = 0) && !ctl r && isR r) from rfl)
 obtain ⟨V,hV⟩:∃ V,V = isMk r:=⟨_,rfl⟩
 obtain ⟨O,hO⟩:∃ V,V = ofW r:=⟨_,rfl⟩
 obtain ⟨C,hC⟩:∃ V,V = ctl r:=⟨_,rfl⟩
 rw [←hV,←hO,←hC] at HV
 rw [←hV]
 rw [←hO] at HO
 rw [←hC] at HC
 clear hV hO hC
 by_cases h0:O = 0
 ·subst h0
  cases C
  ·have HR:Hid (V = isR r):=hid (by rw [HV.out];simp)
   clear HV
   by_cases h1:0≤r
   ·by_cases h2:r≤1114111
    ·by_cases h3:r < 55296
     ·have HQ:=hid (show isR r = true by unfold isR;rw [decide_eq_true_iff];omega)
      go_enter Tryz.func168,Tryz.ntmps168
      go_wp2_with (first | (go_at_call 123;(with_reducible refine (HC.out _).mono ?_);rintro e w' ⟨rfl,rfl⟩) | (go_at_call 185;fail))
      go_at_call 185
      refine (HO.out _).mono ?_
      rintro e w1 ⟨rfl,hb⟩
      have HB:=hid hb
      clear hb
      go_wp2_with (first | (go_at_call 123;(with_reducible refine (HC.out _).mono ?_);rintro e w' ⟨rfl,rfl⟩))
      go_ret
      exact ⟨by rw [HR.out,HQ.out];rfl,HB.out⟩
     ·have HQ:=hid (show isR r = (decide (r < 55296) || decide (57343 < r)) by unfold isR;rw [←Bool.decide_or,decide_eq_decide];omega)
      go_enter Tryz.func168,Tryz.ntmps168
      go_wp2_with (first | (go_at_call 185;fail))
      go_at_call 185
      refine (HO.out _).mono ?_
      rintro e w1 ⟨rfl,hb⟩
      have HB:=hid hb
      clear hb
      go_wp2_with (first | (go_at_call 123;(with_reducible refine (HC.out _).mono ?_);rintro e w' ⟨rfl,rfl⟩))
      go_ret
      exact ⟨by rw [HR.out,HQ.out];rfl,HB.out⟩
    ·have HQ:=hid (show isR r = false by unfold isR;rw [decide_eq_false_iff_not];omega)
     go_enter Tryz.func168,Tryz.ntmps168
     go_wp2_with (first | (go_at_call 185;fail))
     go_at_call 185
     refine (HO.out _).mono ?_
     rintro e w1 ⟨rfl,hb⟩
     have HB:=hid hb
     clear hb
     go_wp2_with (first | (go_at_call 123;(with_reducible refine (HC.out _).mono ?_);rintro e w' ⟨rfl,rfl⟩))
     go_ret
     exact ⟨by rw [HR.out,HQ.out];rfl,HB.out⟩
   ·have HQ:=hid (show isR r = false by unfold isR;rw [decide_eq_false_iff_not];omega)
    go_enter Tryz.func168,Tryz.ntmps168
    go_wp2_with (first | (go_at_call 185;fail))
    go_at_call 185
    refine (HO.out _).mono ?_
    rintro e w1 ⟨rfl,hb⟩
    have HB:=hid hb
    clear hb
    go_wp2_with (first | (go_at_call 123;(with_reducible refine (HC.out _).mono ?_);rintro e w' ⟨rfl,rfl⟩))
    go_ret
    exact ⟨by rw [HR.out,HQ.out];rfl,HB.out⟩
  ·have HR:Hid (V = false):=hid (by rw [HV.out];simp)
   clear HV
   go_enter Tryz.func168,Tryz.ntmps168
   go_wp2_with (first | (go_at_call 185;fail))
   go_at_call 185
   refine (HO.out _).mono ?_
   rintro e w1 ⟨rfl,hb⟩
   have HB:=hid hb
   clear hb
   go_wp2_with (first | (go_at_call 123;(with_reducible refine (HC.out _).mono ?_);rintro e w' ⟨rfl,rfl⟩))
   go_ret
   exact ⟨by rw [HR.out];rfl,HB.out⟩
 ·have HR:Hid (V = false):=hid (by rw [HV.out,decide_eq_false h0];rfl)
  clear HV
  have hb0:(O == 0) = false:=by rw [beq_eq_false_iff_ne];exact h0
  go_enter Tryz.func168,Tryz.ntmps168
  go_wp2_with (first | (go_at_call 185;fail))
  go_at_call 185
  refine (HO.out _).mono ?_
  rintro e w1 ⟨rfl,hb⟩
  have HB:=hid hb
  clear hb
  go_wp2
  go_ret
  exact ⟨by rw [HR.out];rfl,HB.out⟩
end Go.Proofs.YtpcbamcelpcigaaGreat
namespace Go.Proofs.YtpcbamcelpcigaaGreat
open Go.RowKit Go.Shelf
attribute [local go_sem] Oper.semAt_some
theorem weach (x:Option Addr) (n c:Nat) (w:World):Calls Tryz.prog 165 #[.slice x n c] w fun e w'=>e = .returned (.func (.func 183) #[] #[.pointer (some ⟨w.heap.size,0,none⟩)])∧w' = w.alloc (.cells #[.slice x n c] 110):=by
 go_enter Tryz.func165,Tryz.ntmps165
 go_wp2
 go_ret
 exact ⟨rfl,rfl⟩
theorem conv_bytes (w:World) (l:Bs):∃ cap W1,(convert 9 110 (.string (tx l))).run Tryz.prog w = .ok (.slice (some ⟨w.heap.size,0,none⟩) l.length cap) W1∧l.length≤cap∧BytesAt W1 w.heap.size 0 l∧Below w.heap.size w W1∧W1.heap.size = w.heap.size + 1:=by
 have h:=Lib.run_convert_string_bytes (P:=Tryz.prog) w 9 110 5 (tx l) Tryz.underlying9 Tryz.underlying110 Tryz.underlying5
 have hs:(tx l).size = l.length:=by simp [tx,ByteArray.size]
 rw [hs] at h
 refine ⟨_,_,h,?_,?_,?_,Lib.bytesWorld_size _ _ _⟩
 ·exact grownCap_ge _ _ _ _
 ·intro j hj
  have:=Lib.bytesWorld_cell w 5 (tx l) j (by rw [hs];exact hj)
  rw [Nat.zero_add]
  exact this
 ·exact ⟨rfl,rfl,rfl,by rw [Lib.bytesWorld_size];omega,fun j hj=>Lib.bytesWorld_at_old w 5 (tx l) j hj⟩
def AllAt (l:Bs) (w:World) (e:Ending) (w':World):Prop:=∃ p q cap,e = .returned (.func (.func 183) #[] #[.pointer (some ⟨p,0,none⟩)])∧w'.heap[p]? = some (.cells #[.slice (some ⟨q,0,none⟩) l.length cap] 110 (0,0))∧l.length≤cap∧BytesAt w' q 0 l∧q < w'.heap.size∧w.heap.size≤p∧w.heap.size≤q∧Below w.heap.size w w'
theorem wall (l:Bs) (w:World):Calls Tryz.prog 122 #[.string (tx l)] w (AllAt l w):=by
 obtain ⟨cap,W1,hcv,hcap,hby,hbl,hsz⟩:=conv_bytes w l
 have HBY:=hid hby
 have HBL:=hid hbl
 have HSZ:=hid hsz
 obtain ⟨T,hT⟩:∃ T,T = tx l:=⟨_,rfl⟩
 rw [←hT] at hcv ⊢
 clear hT hby hbl hsz
 go_enter Tryz.func122,Tryz.ntmps122
 go_wp2_with (first | (go_at_call 165;fail))
 go_at_call 165
 refine (weach _ _ _ _).mono ?_
 rintro e w2 ⟨rfl,rfl⟩
 have hsz:=HSZ.out
 go_wp2
 go_ret
 exact ⟨w.heap.size + 1,w.heap.size,cap,rfl,by rw [←hsz];exact heap_alloc_new _ _,hcap,HBY.out.kept (n:=W1.heap.size) (by omega) ((Below.refl _ _).alloc (Nat.le_refl _) _),by simp;omega,by omega,Nat.le_refl _,HBL.out.alloc (by omega) _⟩
theorem tl_len : ∀ (k lo hi : Nat) (t : Bs) (r r' : Int), tl k lo hi t r = some (some r') → k ≤ t.length
  | 0, _, _, _, _, _, _ => Nat.zero_le _
  | _ + 1, _, _, [], _, _, h => by cases h
  | k + 1, lo, hi, c :: t, r, r', h => by
    unfold tl at h
    split at h
    · cases h
    · have := tl_len k _ _ t _ r' h
      simp
      omega
theorem stp_n (b : Bs) (h : b ≠ []) : 1 ≤ (stp b).2 ∧ (stp b).2 ≤ b.length := by
  obtain ⟨c, t, rfl⟩ := List.exists_cons_of_ne_nil h
  have hx : nxt (c :: t) = if (shp c.toNat).m = 0 then (65533, 1, false) else nxtT (shp c.toNat).m (tl ((shp c.toNat).m - 1) (shp c.toNat).lo (shp c.toNat).hi t (shp c.toNat).r) := rfl
  unfold stp
  rw [hx]
  by_cases hm : (shp c.toNat).m = 0
  · simp [hm]
  · rw [if_neg hm]
    generalize ht : tl _ _ _ _ _ = T
    cases T with
    | none => simp [nxtT]
    | some o =>
      cases o with
      | none => simp [nxtT]
      | some r =>
        have := tl_len _ _ _ _ _ _ ht
        simp [nxtT]
        omega
def itmN:Nat→Nat→Bs→List (Nat × Int)
 | 0,_,_=>[]
 | _ + 1,_,[]=>[]
 | f + 1,a,b@(_ :: _)=>(a,(stp b).1) :: itmN f (a + (stp b).2) (b.drop (stp b).2)
def itm (l:Bs):List (Nat × Int):=itmN l.length 0 l
theorem itmN_nil (f a:Nat):itmN f a [] = []:=by cases f <;> rfl
theorem itmN_cons (f a:Nat) (b:Bs) (h:b≠[]):itmN (f + 1) a b = (a,(stp b).1) :: itmN f (a + (stp b).2) (b.drop (stp b).2):=by
 obtain ⟨c,t,rfl⟩:=List.exists_cons_of_ne_nil h
 rfl
def encE (x:Nat × Int):Array Value:=#[.int .i64 x.1,.int .i32 x.2]
theorem each_in (l p q cap:Nat) (L:Bs) (hL:L.length≤4611686018427387904) (hcap:L.length≤cap) (W:World) (hp:W.heap[p]? = some (.cells #[.slice (some ⟨q,0,none⟩) L.length cap] 110 (0,0))) (hq:BytesAt W q 0 L) (hql:q < W.heap.size)
  (J Jx:List (Nat × Int)→World→Prop) (hA:AbidesFrom W.heap.size J)
  (hY:∀ pre x W1,J pre W1→pre ++ [x] <+: itm L→YieldAt Fence.wide 4 Tryz.prog l (encE x) W1 fun e W'=>
   (e = .returned (.bool true)∧J (pre ++ [x]) W'∧KeepP p q W1 W')∨(e = .returned (.bool false)∧Jx (pre ++ [x]) W'))
  (hJ0:J [] W) :
  CallsIn Fence.wide 5 Tryz.prog 183 #[.func (.yield l) #[] #[],.pointer (some ⟨p,0,none⟩)] W fun e W'=>(∃ v,e = .returned v)∧
   ((∃ xs,xs = itm L∧J xs W')∨(∃ pre,(pre≠[]∧pre <+: itm L)∧Jx pre W')):=by
 have HY:=hid hY
 have HA:=hid hA
 have HP:=hid hp
 have HQ:=hid hq
 have HQL:=hid hql
 have hpl:p < W.heap.size:=(Array.getElem?_eq_some_iff.1 hp).1
 have HPL:=hid hpl
 clear hY hA hp hq hql hpl
 obtain ⟨n,hn⟩:∃ n,n = L.length:=⟨_,rfl⟩
 have HN:=hid hn
 rw [←hn] at HP hL hcap
 clear hn
 refine callsIn_of_wp Tryz.func183 rfl trivial ?_ rfl
 simp only [Tryz.ntmps183,List.size_toArray,List.length_cons,List.length_nil,Nat.reduceAdd,Nat.reduceSub,Array.replicate_succ,Array.replicate_zero,List.push_toArray,List.append_toArray,List.nil_append,List.cons_append]
 gi_wp2
 gi_loopw [3] (fun i wy=>∃ (pre:List (Nat × Int)) (a f:Nat),i = .int .i64 a∧a≤n∧n - a≤f∧Hid (itm L = pre ++ itmN f a (L.drop a))∧J pre wy∧Hid (KeepP p q W wy)) (fun i _=>n - (intOf i).toNat)
 case atStart=>exact ⟨[],0,n,rfl,by omega,by omega,hid (by rw [HN.out];rfl),hJ0,hid (KeepP.refl _ _ _)⟩
 case round=>
  obtain ⟨pre,a,f,rfl,ha,hf,HI,hJ2,HK⟩:=hrel
  have cp:wr.cell? ⟨p,0,none⟩ = some (.slice (some ⟨q,0,none⟩) n cap):=by
   have:=HK.out.bp.trans HP.out
   simp [World.cell?,this]
  by_cases hlt:a < n
  ·have hne:L.drop a≠[]:=by
    intro h
    have:=congrArg List.length h
    have h2:=HN.out
    simp at this
    omega
   have hby:BytesAt wr q a (L.drop a):=fun j hj=>by
    have h1:=(HQ.out.drop a) j hj
    rw [Nat.zero_add] at h1
    have h2:=HK.out.bq
    rw [World.cell?_of_block (a:=⟨q,a + j,none⟩) h2]
    exact h1
   obtain ⟨s1,s2⟩:=stp_n _ hne
   obtain ⟨f',rfl⟩:∃ f',f = f' + 1:=⟨f - 1,by omega⟩
   have hit:=HI.out
   rw [itmN_cons _ _ _ hne] at hit
   have HS:=hid (wstep q a (cap - a) (L.drop a) (by simp;have:=HN.out;omega) (by simp;have:=HN.out;omega) hne wr (by have:=HK.out.size;have:=HQL.out;omega) hby)
   have hlen:(L.drop a).length = n - a:=by have:=HN.out;simp;omega
   rw [hlen] at HS s2
   have HIT:=hid hit
   obtain ⟨R,hR⟩:∃ R,R = (stp (L.drop a)).1:=⟨_,rfl⟩
   obtain ⟨S,hS⟩:∃ R,R = (stp (L.drop a)).2:=⟨_,rfl⟩
   rw [←hR,←hS] at HS HIT
   rw [←hS] at s1 s2
   clear hit hR hS hby hlen
   have i1:(0:Int)≤(a:Int):=by omega
   have i2:(a:Int)≤(n:Int):=by omega
   have i3:(n:Int)≤(cap:Int):=by omega
   gi_wp2_with (first | (refine ⟨trivial,?_⟩;gi_at_call 184;fail))
   refine ⟨trivial,?_⟩
   refine (callsIn_wide.2 HS.out).mono ?_
   rintro e w2 ⟨rfl,hb2⟩
   have hJ3:=HA.out _ wr w2 none hJ2 ⟨hb2.os,hb2.tape,hb2.output,hb2.size,fun i hi _=>hb2.block i hi⟩ (fun r e=>by cases e)
   have hpr:pre ++ [(a,R)] <+: itm L:=⟨itmN f' (a + S) (List.drop S (List.drop a L)),by rw [HIT.out];simp⟩
   have HK3:Hid (KeepP p q wr w2):=hid ⟨hb2.size,hb2.block _ (by have:=HK.out.size;have:=HPL.out;omega),hb2.block _ (by have:=HK.out.size;have:=HQL.out;omega)⟩
   obtain ⟨fn,tmps,assign,body,hy,hR⟩:=HY.out pre (a,R) w2 hJ3 hpr
   unfold encE at hy
   simp only [] at hy
   have HRR:=hid hR
   clear hR hb2 hJ2 hJ3 hpr cp
   gi_wp2
   refine HRR.out.mono ?_
   rintro e W3 (⟨rfl,hJ4,hk4⟩ | ⟨rfl,hJx4⟩)
   ·gi_wp2
    go_roundw
    case rel=>exact ⟨pre ++ [(a,R)],a + S,f',by go_num,by omega,by omega,hid (by have:=HIT.out;rw [this,List.drop_drop];simp),hJ4,hid ((HK.out.trans HK3.out).trans hk4)⟩
    case measure=>simp [intOf];omega
   ·have HPX:Hid (pre ++ [(a,R)]≠[]∧pre ++ [(a,R)] <+: itm L):=hid ⟨by simp,⟨itmN f' (a + S) (List.drop S (List.drop a L)),by rw [HIT.out];simp⟩⟩
    gi_wp2
    refine bodyPost_ret (results_none rfl _ _ _) rfl ?_
    exact ⟨⟨_,rfl⟩,.inr ⟨_,HPX.out,hJx4⟩⟩
  ·have he:itm L = pre:=by
    have:=HI.out
    rw [List.drop_eq_nil_of_le (by have:=HN.out;omega),itmN_nil,List.append_nil] at this
    exact this
   have HE:=hid he
   clear he
   gi_wp2
   go_end0
   first | exact ⟨⟨_,rfl⟩,.inl ⟨_,rfl,(by rw [HE.out];exact hJ2)⟩⟩ | exact ⟨⟨_,rfl⟩,.inl (by rw [HE.out];exact hJ2)⟩
end Go.Proofs.YtpcbamcelpcigaaGreat
namespace Go.Proofs.YtpcbamcelpcigaaGreat
open Go.RowKit Go.Shelf
theorem step_append_own {P:Program} {ops:Array Oper} {o:Oper} {a:Act} {w:World} {K:Act→World→Prop} {Q:Exit→Act→World→Prop} {E:Prop}
  (hg:o.guard = none) (s x:Operand) (t:TypeId) (hop:o.op = Op.call { callee:=Callee.builtin Builtin.append,args:=#[s,x],argTypes:=#[t,t] })
  (base:Nat) (e:TypeId) (i:TypeInfo) (z:Value) (size bytes:Nat) (h1:P.underlying t = some (.slice e)) (h2:P.info? e = some i) (h3:i.zero = some z) (h4:i.size = size) (h5:i.bytes = bytes) (h6:z.cells.size = size) (h7:0 < size)
  (v:Value) (n:Nat) (xs:List Value) (hs:a.eval s = v) (hown:w.ownsRow base e size v n xs)
  (ad:Addr) (m c:Nat) (news:List Value) (hx:a.eval x = .slice (some ad) m c) (hn:news.length = m * size) (hc:∀ j u,news[j]? = some u→w.cell? (ad.add j) = some u) (h1c:∀ u ∈ news,u.oneCell' = true)
  (b1:n + m≤maxLen) (b2:(n + m) * bytes≤140737488355328) (hbase:base≤w.heap.size)
  (hK:∀ v' w',w'.ownsRow base e size v' (n + m) (xs ++ news)→w.grownBy w' v.ownBlock→(v'.ownBlock = v.ownBlock∨v'.ownBlock = some w.heap.size)→K (a.put o.dst v') w') :
  if Region.wanted o (yielded ops a.tmps) = true then Oper.wp P o a w K Q else E:=by
 have hw:Region.wanted o (yielded ops a.tmps) = true:=by simp [Region.wanted,hg]
 rw [if_pos hw]
 obtain ⟨v',w',hrun,r1,r2,_,r4⟩:=run_append_own_at (P:=P) w base t o.type e i z size bytes h1 h2 h3 h4 h5 h6 h7 v n xs hown ad m c news hn hc h1c b1 b2 hbase
 unfold Oper.wp
 simp [execOp,hop,resolve,invoke,builtin,hs,hx,hrun,Result.andThen]
 exact hK v' w' r1 r2 r4
structure Stay (b B:Nat) (w w':World):Prop where
 os:w'.os = w.os
 tape:w'.tape = w.tape
 output:w'.output = w.output
 size:w.heap.size≤w'.heap.size
 block:∀ j,j < B→j≠b→w'.heap[j]? = w.heap[j]?
 same:∀ (j:Nat) (o:Obj),w.heap[j]? = some o→o.isCells = false→w'.heap[j]? = some o
theorem Stay.refl (b B:Nat) (w:World):Stay b B w w:=⟨rfl,rfl,rfl,Nat.le_refl _,fun _ _ _=>rfl,fun _ _ h _=>h⟩
theorem Stay.trans {b B:Nat} {w w1 w2:World} (h:Stay b B w w1) (k:Stay b B w1 w2):Stay b B w w2:=⟨k.os.trans h.os,k.tape.trans h.tape,k.output.trans h.output,Nat.le_trans h.size k.size,fun j hj hne=>(k.block j hj hne).trans (h.block j hj hne),fun j o ho hc=>k.same j o (h.same j o ho hc) hc⟩
theorem Stay.of {b B:Nat} {w w1:World} (h:Below w.heap.size w w1) (hB:B≤w.heap.size):Stay b B w w1:=⟨h.os,h.tape,h.output,h.size,fun j hj _=>h.block j (by omega),fun j o ho _=>(h.block j (Array.getElem?_eq_some_iff.1 ho).1).trans ho⟩
theorem Stay.below {b B:Nat} {w w1:World} (h:Stay b B w w1) (hb:b≤B):Below b w w1:=⟨h.os,h.tape,h.output,h.size,fun j hj=>h.block j (by omega) (by omega)⟩
theorem Stay.set {b B:Nat} {w:World} {o:Nat} {v:Value} {cs:Array Value} {t:TypeId} {f:Nat × Nat} (h:w.heap[b]? = some (.cells cs t f)):Stay b B w (w.setCell ⟨b,o,none⟩ v):=
 ⟨rfl,rfl,rfl,by simp,fun j _ hne=>set_other hne,fun j ob ho hc=>by
  by_cases e:j = b
  ·subst e;rw [h] at ho;cases ho;cases hc
  ·rw [set_other e];exact ho⟩
def strs (D:List Bs):List Value:=D.map fun l=>Value.string (tx l)
structure BSt (B b:Nat) (D:List Bs) (N:Bs) (o:Bool) (W:World):Prop where
 ex:∃ vd vn,W.heap[b]? = some (.cells #[vd,vn,.bool o] 165 (0,0))∧W.ownsRow B 9 1 vd D.length (strs D)∧W.ownsRow B 5 1 vn N.length (Lib.byteCells N)
 lt:b < B∧B≤W.heap.size
 op:o = true→N≠[]
theorem ownsRow_is {w:World} {base:Nat} {e:TypeId} {size n:Nat} {v:Value} {xs:List Value} (h:w.ownsRow base e size v n xs):∃ x cap,v = .slice x n cap:=by
 rcases h.2 with ⟨rfl,rfl⟩ | ⟨g,cap,cur,rfl,_⟩
 ·exact ⟨none,0,rfl⟩
 ·exact ⟨_,cap,rfl⟩
theorem row_kept {w w':World} {n0:Nat} {e:TypeId} {z n:Nat} {v:Value} {xs:List Value} (h:w.ownsRow n0 e z v n xs) (hk:∀ j,v.ownBlock = some j→w'.heap[j]? = w.heap[j]?):w'.ownsRow n0 e z v n xs:=by
 refine ⟨h.1,?_⟩
 rcases h.2 with h2 | ⟨g,cap,cur,hv,hb,hg,hr⟩
 ·exact .inl h2
 ·exact .inr ⟨g,cap,cur,hv,hb,(hk g (by rw [hv];rfl)).trans hg,hr⟩
theorem row_zero {w:World} {base:Nat} {e:TypeId} {size n cap:Nat} {x:Option Addr} {xs:List Value} (h:w.ownsRow base e size (.slice x n cap) n xs):w.ownsRow base e size (.slice x 0 cap) 0 []:=by
 refine ⟨by simp,?_⟩
 rcases h.2 with ⟨hv,rfl⟩ | ⟨g,cap',cur,hv,hb,hg,h1,h2,h3,h4⟩
 ·cases hv;exact .inl ⟨rfl,rfl⟩
 ·cases hv
  exact .inr ⟨g,cap,cur,rfl,hb,hg,Nat.zero_le _,h2,h3,by simp⟩
theorem BSt.now0 {B b:Nat} {D:List Bs} {N:Bs} {o:Bool} {W:World} (h:BSt B b D N o W):∃ x n c y m d,W.cell? ⟨b,0,none⟩ = some (.slice x n c)∧W.cell? ⟨b,1,none⟩ = some (.slice y m d)∧W.cell? ⟨b,2,none⟩ = some (.bool o)∧(∀ j,W.frozen? ⟨b,j,none⟩ = false)∧n = D.length∧m = N.length∧
  BSt B b D [] false ((W.setCell ⟨b,1,none⟩ (.slice y 0 d)).setCell ⟨b,2,none⟩ (.bool false))∧Stay b B W ((W.setCell ⟨b,1,none⟩ (.slice y 0 d)).setCell ⟨b,2,none⟩ (.bool false)):=by
 obtain ⟨vd,vn,hb,hd,hn⟩:=h.ex
 obtain ⟨x,c,rfl⟩:=ownsRow_is hd
 obtain ⟨y,d,rfl⟩:=ownsRow_is hn
 have hs1:=set_block (o:=1) hb (.slice y 0 d)
 have hs:=set_block (o:=2) hs1 (.bool false)
 have hk:∀ (v:Value) (j:Nat) (e:TypeId) (z n:Nat) (xs:List Value),W.ownsRow B e z v n xs→v.ownBlock = some j→((W.setCell ⟨b,1,none⟩ (.slice y 0 d)).setCell ⟨b,2,none⟩ (.bool false)).heap[j]? = W.heap[j]?:=fun v j e z n xs ho hj=>by
  have:=(ho.lt j hj).1
  have:=h.lt.1
  rw [set_other (by omega),set_other (by omega)]
 refine ⟨x,_,c,y,_,d,by simp [World.cell?,hb],by simp [World.cell?,hb],by simp [World.cell?,hb],fun j=>by simp [World.frozen?,hb],rfl,rfl,⟨⟨_,_,?_,row_kept hd (fun j hj=>hk _ j _ _ _ _ hd hj),row_kept (row_zero hn) (fun j hj=>hk _ j _ _ _ _ (row_zero hn) hj)⟩,⟨h.lt.1,by simpa using h.lt.2⟩,fun h=>by cases h⟩,(Stay.set hb).trans (Stay.set hs1)⟩
 rw [hs]
 rfl
theorem wend0 (B b:Nat) (D:List Bs) (N:Bs) (w:World) (h:BSt B b D N false w):Calls Tryz.prog 125 #[.pointer (some ⟨b,0,none⟩)] w fun e w'=>e = .returned (.tuple #[])∧BSt B b D [] false w'∧Stay b B w w':=by
 obtain ⟨x,n,c,y,m,d,c0,c1,c2,fr,hn,hm,hB,hS⟩:=h.now0
 have HB:=hid hB
 have HS:=hid hS
 have f1:=fr 1
 have f2:=fr 2
 clear hB hS fr h hn hm c0
 go_enter Tryz.func125,Tryz.ntmps125
 go_wp2
 go_end0
 exact ⟨rfl,HB.out,HS.out⟩
theorem info_parts {P:Program} {t:TypeId} {z:Option Value} {s b:Nat} (h:(P.info? t).map (fun i=>(i.zero,i.size,i.bytes)) = some (z,s,b)):∃ i0,P.info? t = some i0∧i0.zero = z∧i0.size = s∧i0.bytes = b:=by
 cases hi:P.info? t with
 | none=>rw [hi] at h;cases h
 | some i=>rw [hi] at h;simp at h;exact ⟨i,rfl,h.1,h.2.1,h.2.2⟩
theorem info_parts9:∃ i0,Tryz.prog.info? 9 = some i0∧i0.zero = some (.string ⟨#[]⟩)∧i0.size = 1∧i0.bytes = 16:=
 info_parts (show (Tryz.prog.info? 9).map (fun i=>(i.zero,i.size,i.bytes)) = some (some (.string ⟨#[]⟩),1,16) by kernel_rfl)
theorem info_parts5:∃ i0,Tryz.prog.info? 5 = some i0∧i0.zero = some (.int .u8 0)∧i0.size = 1∧i0.bytes = 1:=
 info_parts (show (Tryz.prog.info? 5).map (fun i=>(i.zero,i.size,i.bytes)) = some (some (.int .u8 0),1,1) by kernel_rfl)
theorem wend1 (B b:Nat) (D:List Bs) (N:Bs) (hDl:D.length≤1000000) (w:World) (h:BSt B b D N true w):Calls Tryz.prog 125 #[.pointer (some ⟨b,0,none⟩)] w fun e w'=>e = .returned (.tuple #[])∧BSt B b (D ++ [N]) [] false w'∧Stay b B w w':=by
 obtain ⟨i0,hi,hz0,hz1,hz2⟩:=info_parts9
 obtain ⟨vd,vn,hb,hd,hn⟩:=h.ex
 have hop:=h.op rfl
 have hlt:=h.lt
 obtain ⟨x,c,rfl⟩:=ownsRow_is hd
 obtain ⟨y,d,rfl⟩:=ownsRow_is hn
 obtain ⟨g,rfl⟩:∃ g,y = some ⟨g,0,none⟩:=by
  rcases hn.2 with ⟨hv,hz⟩ | ⟨g,_,_,hv,_⟩
  ·exact absurd (List.length_eq_zero_iff.1 hz) hop
  ·cases hv;exact ⟨g,rfl⟩
 have hcv:(convert 110 9 (.slice (some ⟨g,0,none⟩) N.length d)).run Tryz.prog w.drew = .ok (.string (tx N)) w.drew:=by
  refine run_convert_bytes_back w.drew 110 9 5 ⟨g,0,none⟩ d N Tryz.underlying110 Tryz.underlying5 Tryz.underlying9 (fun j hj=>?_)
  have h1:=hn.cellAt j (by omega)
  have h2:(Lib.byteCells N)[j]? = some (.int .u8 (N[j].toNat:Int)):=by
   unfold Lib.byteCells
   rw [List.getElem?_map,List.getElem?_eq_getElem hj]
   rfl
  have h3:w.cell? ⟨g,j,none⟩ = some (.int .u8 (N[j].toNat:Int)):=h1.trans h2
  have h4:(⟨g,0,none⟩:Addr).add j = ⟨g,j,none⟩:=by by_cases e:j = 0 <;> simp [Addr.add,e]
  rw [h4]
  exact h3
 have c0:w.cell? ⟨b,0,none⟩ = some (.slice x D.length c):=by simp [World.cell?,hb]
 have c1:w.cell? ⟨b,1,none⟩ = some (.slice (some ⟨g,0,none⟩) N.length d):=by simp [World.cell?,hb]
 have c2:w.cell? ⟨b,2,none⟩ = some (.bool true):=by simp [World.cell?,hb]
 have f0:w.frozen? ⟨b,0,none⟩ = false:=by simp [World.frozen?,hb]
 have hbl:b < w.heap.size:=(Array.getElem?_eq_some_iff.1 hb).1
 have HA:Hid (∀ v' w',w'.ownsRow B 9 1 v' (D.length + 1) (strs D ++ [.string (tx N)])→(w.drew.alloc (.cells #[.string (tx N)] 9)).grownBy w' (Value.slice x D.length c).ownBlock→(v'.ownBlock = (Value.slice x D.length c).ownBlock∨v'.ownBlock = some (w.drew.alloc (.cells #[.string (tx N)] 9)).heap.size)→
   w'.heap[b]? = some (.cells #[.slice x D.length c,.slice (some ⟨g,0,none⟩) N.length d,.bool true] 165 (0,0))∧BSt B b (D ++ [N]) N true (w'.setCell ⟨b,0,none⟩ v')∧Stay b B w (w'.setCell ⟨b,0,none⟩ v')):=hid (fun v' w' ho hg _=>by
  have hvl:∀ k,(Value.slice x D.length c).ownBlock = some k→B≤k∧∃ cur,w.heap[k]? = some (.cells cur 9 (0,0)):=fun k hk=>by
   refine ⟨(hd.lt k hk).1,?_⟩
   rcases hd.2 with ⟨hv,_⟩ | ⟨g',cap,cur,hv,_,hg',_⟩
   ·rw [hv] at hk;cases hk
   ·rw [hv] at hk;cases hk;exact ⟨cur,hg'⟩
  have hold:∀ k,k < w.heap.size→(Value.slice x D.length c).ownBlock≠some k→w'.heap[k]? = w.heap[k]?:=fun k hk hne=>by
   rw [hg.block k (by simp;omega) (fun e=>hne e.symm)]
   exact heap_alloc_old _ _ (by simpa using hk)
  have hbb:w'.heap[b]? = some (.cells #[.slice x D.length c,.slice (some ⟨g,0,none⟩) N.length d,.bool true] 165 (0,0)):=(hold b hbl (fun e=>by have:=(hvl b e).1;omega)).trans hb
  have hng:(Value.slice (some ⟨g,0,none⟩) N.length d).ownBlock = some g:=rfl
  obtain ⟨hgB,hgl⟩:=hn.lt g hng
  have hgg:w'.heap[g]? = w.heap[g]?:=hold g hgl (fun e=>by
   obtain ⟨_,cur,h1⟩:=hvl g e
   rcases hn.2 with ⟨hv,_⟩ | ⟨g',cap,cur',hv,_,hg',_⟩
   ·cases hv
   ·cases hv;rw [h1] at hg';cases hg')
  have hs:=set_block (o:=0) hbb v'
  have hsz:w.heap.size≤w'.heap.size:=by have:=hg.size;simp at this;omega
  refine ⟨hbb,⟨⟨v',.slice (some ⟨g,0,none⟩) N.length d,?_,?_,?_⟩,⟨hlt.1,by simp;omega⟩,fun _=>hop⟩,?_⟩
  ·rw [hs];rfl
  ·have h1:(D ++ [N]).length = D.length + 1:=by simp
   have h2:strs (D ++ [N]) = strs D ++ [.string (tx N)]:=by simp [strs]
   rw [h1,h2]
   exact row_kept ho (fun j hj=>set_other (by have:=(ho.lt j hj).1;omega))
  ·refine row_kept hn (fun j hj=>?_)
   rw [hng] at hj
   cases hj
   rw [set_other (by omega)]
   exact hgg
  ·refine Stay.trans ⟨hg.os,hg.tape,hg.output,hsz,fun j hj _=>hold j (by omega) (fun e=>by have:=(hvl j e).1;omega),fun j o ho2 hc2=>?_⟩ (Stay.set hbb)
   rw [hold j (Array.getElem?_eq_some_iff.1 ho2).1 (fun e=>by obtain ⟨_,cur,h1⟩:=hvl j e;rw [h1] at ho2;cases ho2;cases hc2)]
   exact ho2)
 have HH:=hid h
 have HCV:=hid hcv
 have HD:=hid hd
 have HBS:=hid hlt
 clear hb hd hn hop hlt h
 obtain ⟨T,hT⟩:∃ T,T = tx N:=⟨_,rfl⟩
 rw [←hT] at hcv HA
 clear hT HCV
 go_enter Tryz.func125,Tryz.ntmps125
 go_upto_region 1 with (fail)
 go_region_law (refine step_append_own rfl (.tmp 10) (.tmp 16) 23 rfl B 9 i0 (.string ⟨#[]⟩) 1 16 Tryz.underlying23 hi hz0 hz1 hz2 rfl (by decide) _ _ _ rfl (HD.out.drew.alloc _) ⟨w.heap.size,0,none⟩ 1 1 [.string T] rfl rfl (cell_one_new _ _ _) (by simp [Value.oneCell']) (by unfold maxLen;omega) (by omega) (by have:=HBS.out;simp;omega) ?_;intro v' w' hown' hgrow' hat';obtain ⟨hb',hS'⟩:=HA.out v' w' hown' hgrow' hat';have HS':=hid hS';have c0':w'.cell? ⟨b,0,none⟩ = some (.slice x D.length c):=(by simp [World.cell?,hb']);have f0':w'.frozen? ⟨b,0,none⟩ = false:=(by simp [World.frozen?,hb']);obtain ⟨x',c',rfl⟩:=ownsRow_is hown';clear hb' hS' hown' hgrow' hat')
 all_goals
  clear c0 c1 c2 f0 hcv c0' f0'
  generalize w'.setCell ⟨b,0,none⟩ (Value.slice x' (D.length + 1) c') = W3 at HS' ⊢
  obtain ⟨x3,n3,c3,y3,m3,d3,e0,e1,e2,fr,_,_,hB3,hS3⟩:=HS'.out.1.now0
  have HB3:=hid hB3
  have HS3:=hid (HS'.out.2.trans hS3)
  have f1:=fr 1
  have f2:=fr 2
  clear hB3 hS3 fr
  go_wp2
  go_end0
  exact ⟨rfl,HB3.out,HS3.out⟩
end Go.Proofs.YtpcbamcelpcigaaGreat
