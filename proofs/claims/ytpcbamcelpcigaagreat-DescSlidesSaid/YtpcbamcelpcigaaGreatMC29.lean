/- Own texts, merged. -/
import Derived.WalkKit
import Derived.Deep.Slices
import Derived.Deep.Cut
import Derived.Deep.CutBlock
import Derived.Deep.LoopGhost
import Derived.Deep.Onto
import Derived.Sort.BigQuietIn
import Derived.Sort.QuietThIn
import Derived.Test.YtpcbamcelpcigaaGreatMC01
import Derived.Test.YtpcbamcelpcigaaGreatMC02
import Derived.Test.YtpcbamcelpcigaaGreatMC26
import Derived.Test.YtpcbamcelpcigaaGreatMC27
import Derived.Test.YtpcbamcelpcigaaGreatMC28
import Derived.Test.YtpcbamcelpcigaaGreatMC00
set_option maxRecDepth 100000
set_option maxHeartbeats 32000000
open Go.Lib (hid)
namespace Go.Proofs.YtpcbamcelpcigaaGreat
open Go.RowKit Go.Shelf Go.ChangeShapes Go.WideShapes Go.Deep
theorem FL.len (F:FL):F.a.toList.length = 16:=rfl
def fflat (L:List FL):List Value:=L.flatMap (fun F=>F.a.toList)
theorem fflat_snoc (L:List FL) (F:FL):fflat (L ++ [F]) = fflat L ++ F.a.toList:=by simp [fflat]
theorem fflat_get {L : List FL} {i : Nat} {F : FL} (h : L[i]? = some F) {j : Nat} (hj : j < 16) : (fflat L)[i * 16 + j]? = F.a[j]? := by
  induction L generalizing i with
  | nil => simp at h
  | cons a r ih =>
    have e : fflat (a :: r) = a.a.toList ++ fflat r := rfl
    have hl := FL.len a
    rw [e]
    cases i with
    | zero =>
      obtain rfl : a = F := by simpa using h
      rw [List.getElem?_append_left (by omega), Array.getElem?_toList]
      congr 1
      omega
    | succ i =>
      rw [List.getElem?_append_right (by omega), hl, show (i + 1) * 16 + j - 16 = i * 16 + j by omega]
      exact ih (by simpa using h)
theorem FL.idx {F:FL} {j:Nat} {u:Value} (h:F.a[j]? = some u):j < 16:=by
 have:=(Array.getElem?_eq_some_iff.1 h).1
 exact this
theorem frow_of_own {W:World} {base:Nat} {v:Value} {Ls:List FL} (h:W.ownsRow base 42 16 v Ls.length (fflat Ls)):∃ x cap q,v = .slice x Ls.length cap∧Ls.length≤cap∧FRow W x q 0 Ls∧(Ls≠[]→base≤q):=by
 have hc:=fun g (hg:v.ownBlock = some g)=>h.cells hg
 rcases h.2 with ⟨hv,h0⟩ | ⟨g,cap,cur,hv,hb,hg,hnc,_⟩
 ·obtain rfl:=List.length_eq_zero_iff.1 h0
  exact ⟨none,0,0,hv,Nat.le_refl _,fun e=>absurd rfl e,fun e=>absurd rfl e⟩
 ·subst hv
  refine ⟨_,cap,g,rfl,hnc,fun _=>⟨rfl,(Array.getElem?_eq_some_iff.1 hg).1,fun i hi j u hu=>?_⟩,fun _=>hb⟩
  have:=hc g rfl (i * 16 + j) u ((fflat_get (List.getElem?_eq_getElem hi) (FL.idx hu)).trans hu)
  rw [addr_add] at this
  rw [Nat.zero_add]
  exact this
structure FsA (w:World) (x:Option Addr) (c:Nat) (fs:List Fld):Prop where
 cap:fs.length≤c
 max:c≤9223372036854775807
 row:∃ (Ls:List FL) (q o:Nat),Ls.length = fs.length∧FRow w x q o Ls∧∀ i (h:i < Ls.length),∃ xo co xl cl,Ls[i] = (fldA fs i).fl xo co xl cl∧FA w (fldA fs i) xo co xl cl
section
variable {H:Type} {enc:TypeId × Value→H} {w:World} {base:Nat} {spare:Nat→Bool} {held:Bool}
theorem cellsN {a:Addr} {cs:List Value} {k n:Nat} (h:w.cells? base (a.add k) n = some cs):∀ j u,cs[j]? = some u→w.cell? (a.add (k + j)) = some u:=fun j u hu=>by
 obtain ⟨_,hl,hc⟩:=World.cells?_some h
 have hj:j < n:=by rw [←hl];exact (List.getElem?_eq_some_iff.1 hu).1
 have h0:=hc j hj
 rw [add_add] at h0
 rw [h0]
 exact hu
theorem fields_of_trod {fuel:Nat} {v:Value} {d:DataW H} {pl:List MemPlace} (h:DataW.trod enc Tryz.prog w base spare held fuel 22 [v] = some (d,pl)) :
  ∃ x c fs,v = .slice x fs.length c∧FsA w x c fs:=by
 have hc:Tryz.prog.cellsOf 42 = 16:=by kernel_rfl
 rcases open_slice Tryz.underlying22 h with ⟨hcs,hx3⟩ | ⟨a,len,cap,m,nn,D,Pl,hcs,_,hl,hm,hmm,hx3,hx⟩
 ·cases hcs
  exact ⟨none,0,[],rfl,Nat.le_refl _,by omega,[],0,0,rfl,fun e=>absurd rfl e,fun i hi=>absurd hi (by simp)⟩
 ·cases hcs
  cases hx3
  rw [hc] at hx
  have hlm:len≤m:=by rw [hmm];split <;> omega
  have one:∀ i,i < len→∃ y:Fld × FL,(∃ xo co xl cl,y.2 = y.1.fl xo co xl cl∧FA w y.1 xo co xl cl)∧∀ j u,y.2.a[j]? = some u→w.cell? (a.add (i * 16 + j)) = some u:=fun i hi=>by
   obtain ⟨cs',g1,g2⟩:=hx i (by omega)
   obtain ⟨f,xo,co,xl,cl,rfl,hA⟩:=field_of_trod g2
   exact ⟨(f,f.fl xo co xl cl),⟨xo,co,xl,cl,rfl,hA⟩,fun j u hu=>cellsN g1 j u (by rw [←hu,Array.getElem?_toList])⟩
  haveI:Inhabited (Fld × FL):=⟨⟨fld0,fld0.fl none 0 none 0⟩⟩
  obtain ⟨F,hF⟩:=choose_lt one
  have hlen:((List.range len).map (fun i=>(F i).1)).length = len:=by simp
  refine ⟨some a,cap,(List.range len).map (fun i=>(F i).1),by rw [hlen],by rw [hlen];exact hl,by unfold maxLen at hm;omega,(List.range len).map (fun i=>(F i).2),a.block,a.off,by simp,fun hne=>?_,fun i hi=>?_⟩
  ·have hp:0 < len:=by
    rcases Nat.eq_zero_or_pos len with e | e
    ·subst e;exact absurd rfl hne
    ·exact e
   have e0:=(hF 0 hp).2 0 _ rfl
   have hlt:=cell_lt e0
   rw [add_block] at hlt
   obtain ⟨b,off,spot⟩:=a
   have hs:=World.cell?_spot e0
   have hsp:spot = none:=by simpa [Addr.add] using hs
   subst hsp
   refine ⟨rfl,hlt,fun i hi j u hu=>?_⟩
   have hi':i < len:=by simpa using hi
   simp only [List.getElem_map,List.getElem_range] at hu
   have:=(hF i hi').2 j u hu
   rw [add_plain] at this
   rw [show off + i * 16 + j = off + (i * 16 + j) by omega]
   exact this
  ·have hi':i < len:=by simpa using hi
   obtain ⟨⟨xo,co,xl,cl,e,hA⟩,_⟩:=hF i hi'
   have hfi:fldA ((List.range len).map (fun i=>(F i).1)) i = (F i).1:=by
    unfold fldA
    rw [List.getD_eq_getElem?_getD,List.getElem?_eq_getElem (by simpa using hi')]
    simp
   refine ⟨xo,co,xl,cl,?_,?_⟩
   ·rw [hfi]
    simpa using e
   ·rw [hfi];exact hA
end
structure DA (w:World) (d:Des) (x1:Option Addr) (c1:Nat) (x2:Option Addr) (c2:Nat):Prop where
 fs:FsA w x1 c1 d.fs
 rl:TxA w x2 c2 d.rl
theorem desc_of_arg {H : Type} {enc : TypeId × Value → H} {w : World} {r : Reach} {b0 base : Nat} {spare : Nat → Bool} {held : Bool} {v : Value} {dd : DataW H} {p : List MemPlace} (hv : Value.okWide Tryz.prog w r b0 25 v) (h : DataW.Trod enc Tryz.prog w base spare held 25 v dd p) :
    ∃ (d : Des) (x1 : Option Addr) (c1 : Nat) (x2 : Option Addr) (c2 : Nat), v = .agg (desA (tx d.t) x1 d.fs.length c1 x2 d.rl.length c2 d.rows) ∧ DA w d x1 c1 x2 c2 := by
  obtain ⟨cs, rfl, _⟩ := okWide_struct Tryz.underlying25 hv
  obtain ⟨fuel, hf⟩ := h
  obtain ⟨xs, n, _, _, hl, hn, hg⟩ := DataW.trod_struct Tryz.underlying25 hf
  have hc : Tryz.prog.cellsOf 25 = 4 := by kernel_rfl
  rw [hc] at hl
  obtain ⟨L, hL⟩ : ∃ L, (Value.agg cs).cells.toList = L := ⟨_, rfl⟩
  rw [hL] at hl hg hf
  match L, hl, hL with
  | [v0, v1, v2, v3], _, hL =>
    have h0 := hg 0 _ rfl
    have h1 := hg 1 _ rfl
    have h2 := hg 2 _ rfl
    have h3 := hg 3 _ rfl
    simp only [List.size_toArray, List.length_cons, List.length_nil] at hn
    match xs, hn with
    | [y0, y1, y2, y3], _ =>
      simp only [List.getElem?_cons_zero, List.getElem?_cons_succ] at h0 h1 h2 h3
      obtain ⟨t, e0, _, _⟩ := DataW.trod_string Tryz.underlying9 h0
      obtain ⟨dd1, pl1⟩ := y1
      obtain ⟨x1, c1, fs, e1, hA⟩ := fields_of_trod h1
      obtain ⟨x2, c2, rl, e2, hT⟩ := strs_of_trod h2
      obtain ⟨rows, e3, _, _⟩ := DataW.trod_int Tryz.underlying3 h3
      cases e0; cases e1; cases e2; cases e3
      refine ⟨⟨t.data.toList, fs, rl, rows⟩, x1, c1, x2, c2, ?_, hA, hT⟩
      unfold desA
      congr 1
      have : cs.toList = [.string t, .slice x1 fs.length c1, .slice x2 rl.length c2, .int .i64 rows] := by simpa [Value.cells] using hL
      exact Array.toList_inj.1 (by rw [this, txE_of])
end Go.Proofs.YtpcbamcelpcigaaGreat
namespace Go.Proofs.YtpcbamcelpcigaaGreat
open Go.RowKit Go.Shelf
structure FwL (wa:World) (B:Nat) (fs:List Fld) (Ls:List FL) (v:Value) (W:World):Prop where
 row:W.ownsRow B 42 16 v fs.length (fflat Ls)
 len:Ls.length = fs.length
 fm:∀ i (_:i < Ls.length),∃ yo yc xl cl,Ls[i] = (fldA fs i).fl yo yc xl cl∧W.ownsRow B 9 1 (.slice yo (fldA fs i).op.length yc) (fldA fs i).op.length (strs (fldA fs i).op)∧IntV wa (.slice xl (fldA fs i).d.l.length cl) (fldA fs i).d.l
theorem own_ne {W : World} {b1 b2 n m s : Nat} {u v : Value} {xs ys : List Value} (h1 : W.ownsRow b1 9 1 u n xs) (h2 : W.ownsRow b2 42 s v m ys) : u.ownBlock = none ∨ u.ownBlock ≠ v.ownBlock := by
  cases e : u.ownBlock with
  | none => exact .inl rfl
  | some j =>
    right
    intro hv
    obtain ⟨c1, k1, _⟩ := row_blk h1 e
    obtain ⟨c2, k2, _⟩ := row_blk h2 hv.symm
    rw [k1] at k2
    have := Option.some.inj k2
    simp only [Obj.cells.injEq] at this
    exact absurd this.2.1 (by decide)
theorem FwL.nil (wa:World) (B:Nat) (W:World):FwL wa B [] [] (.slice none 0 0) W:=⟨World.ownsRow_nil _ _ _ _,rfl,fun i h=>absurd h (by simp)⟩
theorem FwL.kept {wa W W':World} {B:Nat} {fs:List Fld} {Ls:List FL} {v:Value} (h:FwL wa B fs Ls v W) (hk:∀ j,B≤j→j < W.heap.size→W'.heap[j]? = W.heap[j]?):FwL wa B fs Ls v W':=
 ⟨row_kept h.row (fun j hj=>hk j (h.row.lt j hj).1 (h.row.lt j hj).2),h.len,fun i hi=>by
  obtain ⟨yo,yc,xl,cl,e,hr,hI⟩:=h.fm i hi
  exact ⟨yo,yc,xl,cl,e,row_kept hr (fun j hj=>hk j (hr.lt j hj).1 (hr.lt j hj).2),hI⟩⟩
theorem FwL.below {wa W W':World} {B:Nat} {fs:List Fld} {Ls:List FL} {v:Value} (h:FwL wa B fs Ls v W) (hb:Below W.heap.size W W'):FwL wa B fs Ls v W':=h.kept (fun j _ hj=>hb.block j hj)
theorem fldA_left {fs:List Fld} {f:Fld} {i:Nat} (h:i < fs.length):fldA (fs ++ [f]) i = fldA fs i:=by
 unfold fldA
 rw [List.getD_eq_getElem?_getD,List.getD_eq_getElem?_getD,List.getElem?_append_left h]
theorem fldA_last (fs:List Fld) (f:Fld):fldA (fs ++ [f]) fs.length = f:=by
 unfold fldA
 rw [List.getD_eq_getElem?_getD,List.getElem?_append_right (Nat.le_refl _)]
 simp
theorem FwL.push {wa W W3 w4:World} {B:Nat} {fs:List Fld} {f:Fld} {Ls:List FL} {G:FL} {v v4:Value} {o:Obj} {yo:Option Addr} {yc:Nat} {xl:Option Addr} {cl:Nat} (h:FwL wa B fs Ls v W) (hW:Below W.heap.size W W3)
  (hG:G = f.fl yo yc xl cl) (hr:W3.ownsRow B 9 1 (.slice yo f.op.length yc) f.op.length (strs f.op)) (hI:IntV wa (.slice xl f.d.l.length cl) f.d.l)
  (ho:w4.ownsRow B 42 16 v4 (fs.length + 1) (fflat Ls ++ G.a.toList)) (hg:(W3.alloc o).grownBy w4 v.ownBlock):FwL wa B (fs ++ [f]) (Ls ++ [G]) v4 w4:=by
 have h3:=h.below hW
 have hv3:(W3.alloc o).ownsRow B 42 16 v fs.length (fflat Ls):=h3.row.alloc o
 have keep:∀ {u:Value} {n:Nat} {xs:List Value},W3.ownsRow B 9 1 u n xs→w4.ownsRow B 9 1 u n xs:=fun hu=>(hu.alloc o).kept hg (own_ne (hu.alloc o) hv3)
 refine ⟨by rw [List.length_append,List.length_singleton,fflat_snoc];exact ho,by rw [List.length_append,List.length_append,h.len];rfl,fun i hi=>?_⟩
 rcases Nat.lt_or_ge i Ls.length with z | z
 ·obtain ⟨yo',yc',xl',cl',e,hr',hI'⟩:=h3.fm i z
  have hf:=fldA_left (f:=f) (show i < fs.length by rw [←h.len];exact z)
  refine ⟨yo',yc',xl',cl',by rw [hf,List.getElem_append_left z];exact e,by rw [hf];exact keep hr',by rw [hf];exact hI'⟩
 ·obtain rfl:i = fs.length:=by rw [List.length_append,List.length_singleton] at hi;have:=h.len;omega
  have hf:=fldA_last fs f
  refine ⟨yo,yc,xl,cl,by rw [hf,List.getElem_append_right z];simp only [h.len,Nat.sub_self,List.getElem_singleton];exact hG,by rw [hf];exact keep hr,by rw [hf];exact hI⟩
structure FewM (wa:World) (B:Nat) (d:Des) (Ls:List FL) (y1:Option Addr) (k1:Nat) (y2:Option Addr) (k2:Nat) (W:World):Prop where
 fs:FwL wa B d.fs Ls (.slice y1 d.fs.length k1) W
 rl:W.ownsRow B 9 1 (.slice y2 d.rl.length k2) d.rl.length (strs d.rl)
theorem FewM.kept {wa W W':World} {B:Nat} {d:Des} {Ls:List FL} {y1:Option Addr} {k1:Nat} {y2:Option Addr} {k2:Nat} (h:FewM wa B d Ls y1 k1 y2 k2 W) (hk:∀ j,B≤j→j < W.heap.size→W'.heap[j]? = W.heap[j]?):FewM wa B d Ls y1 k1 y2 k2 W':=
 ⟨h.fs.kept hk,row_kept h.rl (fun j hj=>hk j (h.rl.lt j hj).1 (h.rl.lt j hj).2)⟩
theorem FewM.dm {wa W:World} {B:Nat} {d:Des} {Ls:List FL} {y1:Option Addr} {k1:Nat} {y2:Option Addr} {k2:Nat} (h:FewM wa B d Ls y1 k1 y2 k2 W) (hb:Below wa.heap.size wa W) (hd:DOk d) (hr:d.rl.length≤1000):∃ q,DM W d Ls y1 q 0 k1 y2 k2:=by
 have hrow:=h.fs.row
 rw [←h.fs.len] at hrow
 obtain ⟨x,cap,q,e,hc,hq,_⟩:=frow_of_own hrow
 cases e
 refine ⟨q,h.fs.len,hc,hq,fun i hi=>?_,TxV.of_row h.rl (by omega)⟩
 obtain ⟨yo,yc,xl,cl,e,hr,hI⟩:=h.fs.fm i hi
 exact ⟨yo,yc,xl,cl,e,TxV.of_row hr (by have:=(hd.fs i (by rw [←h.fs.len];exact hi)).op;omega),hI.below hb⟩
end Go.Proofs.YtpcbamcelpcigaaGreat
namespace Go.Proofs.YtpcbamcelpcigaaGreat
open Go.RowKit Go.Shelf
attribute [local go_sem] run_store_float
def fewL (fs:List Fld) (j:Nat):List Fld:=(fs.take j).map fewF
theorem fewL_len {fs:List Fld} {j:Nat} (h:j≤fs.length):(fewL fs j).length = j:=by unfold fewL;rw [List.length_map,List.length_take];omega
theorem fewL_next {fs:List Fld} {j:Nat} (h:j < fs.length):fewL fs (j + 1) = fewL fs j ++ [fewF (fldA fs j)]:=by
 unfold fewL fldA
 rw [List.take_add_one,List.map_append,List.getElem?_eq_getElem h,List.getD_eq_getElem?_getD,List.getElem?_eq_getElem h]
 rfl
def fewR (l:List Bs) (j:Nat):List Bs:=(l.take j).map (·.take 300)
theorem fewR_len {l:List Bs} {j:Nat} (h:j≤l.length):(fewR l j).length = j:=by unfold fewR;rw [List.length_map,List.length_take];omega
theorem fewR_next {l:List Bs} {j:Nat} (h:j < l.length):fewR l (j + 1) = fewR l j ++ [(l.getD j []).take 300]:=by
 unfold fewR
 rw [List.take_add_one,List.map_append,List.getElem?_eq_getElem h,List.getD_eq_getElem?_getD,List.getElem?_eq_getElem h]
 rfl
def put4 (W:World) (b:Nat) (v0 v1 v2 v3:Value):World:=(((W.setCell ⟨b,0,none⟩ v0).setCell ⟨b,1,none⟩ v1).setCell ⟨b,2,none⟩ v2).setCell ⟨b,3,none⟩ v3
theorem put4_blk {W:World} {b t:Nat} {u0 u1 u2 u3:Value} (h:W.heap[b]? = some (.cells #[u0,u1,u2,u3] t (0,0))) (v0 v1 v2 v3:Value):(put4 W b v0 v1 v2 v3).heap[b]? = some (.cells #[v0,v1,v2,v3] t (0,0)):=by
 have h0:(W.setCell ⟨b,0,none⟩ v0).heap[b]? = some (.cells #[v0,u1,u2,u3] t (0,0)):=set_block h _
 have h1:((W.setCell ⟨b,0,none⟩ v0).setCell ⟨b,1,none⟩ v1).heap[b]? = some (.cells #[v0,v1,u2,u3] t (0,0)):=set_block h0 _
 have h2:(((W.setCell ⟨b,0,none⟩ v0).setCell ⟨b,1,none⟩ v1).setCell ⟨b,2,none⟩ v2).heap[b]? = some (.cells #[v0,v1,v2,u3] t (0,0)):=set_block h1 _
 exact set_block h2 _
theorem put4_other {W:World} {b j:Nat} {v0 v1 v2 v3:Value} (h:j≠b):(put4 W b v0 v1 v2 v3).heap[j]? = W.heap[j]?:=by
 unfold put4
 rw [set_other h,set_other h,set_other h,set_other h]
theorem put4_below {w W:World} {b:Nat} (h:Below w.heap.size w W) (hb:w.heap.size≤b) (v0 v1 v2 v3:Value):Below w.heap.size w (put4 W b v0 v1 v2 v3):=
 (((h.setCell (p:=⟨b,0,none⟩) hb _).setCell (p:=⟨b,1,none⟩) hb _).setCell (p:=⟨b,2,none⟩) hb _).setCell (p:=⟨b,3,none⟩) hb _
def fewD (d:Des):Des:=⟨d.t.take 400,fewL d.fs 12,fewR d.rl 18,d.rows⟩
theorem fewD_ok {d:Des} (h:∀ i,i < d.fs.length→(fldA d.fs i).d.f < 18446744073709551616):DOk (fewD d):=by
 refine ⟨by simp only [fewD,List.length_take];omega,fun i hi=>?_,fun j hj=>?_⟩
 ·have hi2:i < d.fs.length∧i < 12:=by simp only [fewD,fewL,List.length_map,List.length_take] at hi;omega
  have e:fldA (fewD d).fs i = fewF (fldA d.fs i):=by
   unfold fldA fewD fewL
   rw [List.getD_eq_getElem?_getD,List.getElem?_map,List.getElem?_take_of_lt hi2.2,List.getElem?_eq_getElem hi2.1,List.getD_eq_getElem?_getD,List.getElem?_eq_getElem hi2.1]
   rfl
  rw [e]
  exact fewF_ok (h i hi2.1)
 ·have hm:(fewD d).rl.getD j [] ∈ (fewD d).rl:=by
   rw [List.getD_eq_getElem?_getD,List.getElem?_eq_getElem hj]
   exact List.getElem_mem hj
  obtain ⟨a,_,e⟩:=List.mem_map.1 (show (fewD d).rl.getD j [] ∈ (d.rl.take 18).map (·.take 300) from hm)
  rw [←e,List.length_take]
  omega
theorem fl_new (W:World) (G:FL) (T:TypeId):∀ j u,G.a.toList[j]? = some u→(W.alloc (.cells G.a T)).cell? ((⟨W.heap.size,0,none⟩:Addr).add j) = some u:=fun j u hu=>by
 have h:=heap_alloc_new W (.cells G.a T)
 rw [addr_add]
 simp only [World.cell?,h]
 rw [←hu,Array.getElem?_toList]
 rfl
theorem info_fieldD:∃ i0,Tryz.prog.info? 42 = some i0∧i0.zero = some FL0.v∧i0.size = 16∧i0.bytes = 200:=
 info_parts (show (Tryz.prog.info? 42).map (fun i=>(i.zero,i.size,i.bytes)) = some (some FL0.v,16,200) by kernel_rfl)
theorem own_lt {W:World} {b e z n:Nat} {v:Value} {xs:List Value} (h:W.ownsRow b e z v n xs):∀ j,v.ownBlock = some j→b≤j:=fun j hj=>(h.lt j hj).1
theorem lfew (d:Des) (x1:Option Addr) (c1:Nat) (x2:Option Addr) (c2:Nat) (wa w:World) (hA:DA wa d x1 c1 x2 c2) (hwa:Below wa.heap.size wa w) :
  Calls Tryz.prog 6 #[.agg (desA (tx d.t) x1 d.fs.length c1 x2 d.rl.length c2 d.rows)] w fun e w'=>∃ Ls y1 k1 y2 k2,e = .returned (.agg (desA (tx (fewD d).t) y1 (fewD d).fs.length k1 y2 (fewD d).rl.length k2 d.rows))∧FewM wa w.heap.size (fewD d) Ls y1 k1 y2 k2 w'∧Below w.heap.size w w':=by
 obtain ⟨q0,m0,n0,p0,e0⟩:=cut_facts d.t 400 400 rfl
 have HX0:=hid e0
 obtain ⟨L0,q,o,hl0,hrow,hfa⟩:=hA.fs.row
 have HLF:Hid (∀ i (h:i < L0.length),∀ W,Below w.heap.size w W→Calls Tryz.prog 11 #[(L0[i]).v] W fun e w'=>∃ (G:FL) (yo:Option Addr) (yc:Nat) (xl:Option Addr) (cl:Nat),e = .returned G.v∧G = (fewF (fldA d.fs i)).fl yo yc xl cl∧w'.ownsRow W.heap.size 9 1 (.slice yo (fewF (fldA d.fs i)).op.length yc) (fewF (fldA d.fs i)).op.length (strs (fewF (fldA d.fs i)).op)∧IntV wa (.slice xl (fewF (fldA d.fs i)).d.l.length cl) (fewF (fldA d.fs i)).d.l∧Below W.heap.size W w'):=hid (fun i hi W hW=>by
  obtain ⟨xo,co,xl,cl,e,hF⟩:=hfa i hi
  rw [e]
  have hF2:=hF.below (hwa.trans (below_le hW hwa.size))
  exact (field_few _ xo co xl cl W hF2).mono fun e w' ⟨G,yo,yc,base,hG,he,hb,hr,hB⟩=>⟨G,yo,yc,xl,cl,he,hG,World.ownsRow.mono hr hb,hF.l.take 300,hB⟩)
 have HRW:Hid (FRow w x1 q o L0∧L0.length = d.fs.length∧d.fs.length≤c1):=hid ⟨hrow.below hwa,hl0,hA.fs.cap⟩
 have HRL:=hid (hA.rl.below hwa)
 have hmx:d.fs.length≤9223372036854775807:=Nat.le_trans hA.fs.cap hA.fs.max
 have hmr:d.rl.length≤9223372036854775807:=Nat.le_trans hA.rl.cap hA.rl.max
 have HMX:=hid (And.intro hmx hmr)
 obtain ⟨iF,hi0,hz0,hz1,hz2⟩:=info_fieldD
 have HNF:=hid (And.intro hi0 (And.intro hz0 (And.intro hz1 hz2)))
 obtain ⟨i9,hi9,hy0,hy1,hy2⟩:=info_parts9
 have HN9:=hid (And.intro hi9 (And.intro hy0 (And.intro hy1 hy2)))
 unfold FL0 FL.v FL.a at HNF
 clear e0 hl0 hrow hfa hA hi0 hz0 hz1 hz2 hi9 hy0 hy1 hy2
 obtain ⟨N,hN⟩:∃ N,N = d.fs.length:=⟨_,rfl⟩
 obtain ⟨M,hM⟩:∃ M,M = d.rl.length:=⟨_,rfl⟩
 rw [←hN] at HRW HMX hmx ⊢
 rw [←hM] at HMX hmr ⊢
 have HNN:=hid hN
 have HMM:=hid hM
 obtain ⟨rows,hrows⟩:∃ rows,rows = d.rows:=⟨_,rfl⟩
 obtain ⟨T,hT⟩:∃ T,T = tx d.t:=⟨_,rfl⟩
 rw [←hT] at m0 n0 p0 HX0 ⊢
 rw [←hrows]
 clear hN hM hrows hT hmx hmr hwa
 unfold desA
 obtain ⟨B1,hB1⟩:∃ B1,B1 = (w.alloc (.cells #[.string T,.slice x1 N c1,.slice x2 M c2,.int .i64 rows] 25)).alloc (.cells #[.string ⟨#[]⟩,.slice none 0 0,.slice none 0 0,.int .i64 0] 25):=⟨_,rfl⟩
 have HBL:Hid (Below w.heap.size w B1):=hid (by rw [hB1];exact ((Below.refl w.heap.size w).alloc (Nat.le_refl _) _).alloc (by simp) _)
 have HD1:Hid (B1.heap[w.heap.size]? = some (.cells #[.string T,.slice x1 N c1,.slice x2 M c2,.int .i64 rows] 25 (0,0))):=hid (by rw [hB1];exact (heap_alloc_old _ _ (by simp)).trans (heap_alloc_new _ _))
 have HD2:Hid (B1.heap[w.heap.size + 1]? = some (.cells #[.string ⟨#[]⟩,.slice none 0 0,.slice none 0 0,.int .i64 0] 25 (0,0))):=hid (by rw [hB1];exact heap_at (heap_alloc_new _ _) (by simp))
 have HSZ:Hid (B1.heap.size = w.heap.size + 2):=hid (by rw [hB1];simp)
 go_enter Tryz.func6,Tryz.ntmps6
 go_upto_region 1 with (fail)
 rw [←hB1]
 clear hB1
 have c0:B1.cell? ⟨w.heap.size,0,none⟩ = some (.string T):=by have h:=HD1.out;simp [World.cell?,h]
 have f0:B1.frozen? ⟨w.heap.size,0,none⟩ = false:=by have h:=HD1.out;simp [World.frozen?,h]
 have hlt:w.heap.size < B1.heap.size:=by have:=HSZ.out;omega
 go_upto_block 0 with (fail)
 have HE1:Hid ((B1.setCell ⟨w.heap.size,0,none⟩ (.string (T.extract 0 q0))).heap[w.heap.size]? = some (.cells #[.string (T.extract 0 q0),.slice x1 N c1,.slice x2 M c2,.int .i64 rows] 25 (0,0))):=hid (by rw [set_block HD1.out _];rfl)
 have HE2:Hid ((B1.setCell ⟨w.heap.size,0,none⟩ (.string (T.extract 0 q0))).heap[w.heap.size + 1]? = some (.cells #[.string ⟨#[]⟩,.slice none 0 0,.slice none 0 0,.int .i64 0] 25 (0,0))):=hid ((set_other (by omega)).trans HD2.out)
 have HEB:Hid (Below w.heap.size w (B1.setCell ⟨w.heap.size,0,none⟩ (.string (T.extract 0 q0)))):=hid (HBL.out.setCell (Nat.le_refl _) _)
 have HEZ:Hid (w.heap.size + 2 = (B1.setCell ⟨w.heap.size,0,none⟩ (.string (T.extract 0 q0))).heap.size):=hid (by rw [World.size_setCell,HSZ.out])
 generalize B1.setCell ⟨w.heap.size,0,none⟩ (.string (T.extract 0 q0)) = We at HE1 HE2 HEB HEZ ⊢
 clear c0 f0 hlt HBL HD1 HD2 HSZ m0 n0 p0
 go_cut [3] (fun s wx=>(∃ y c,s = .slice y (min N 12) c)∧Hid (∃ Ks,FwL wa We.heap.size (fewL d.fs 12) Ks s wx∧Below We.heap.size We wx))
 case first=>
  go_wp2_with fail
  go_loopg [3,4] 13 (fun g s ii wr=>∃ i:Nat,i + g = 13∧i≤12∧ii = .int .i64 i∧i≤N∧(∃ y c,s = .slice y i c)∧Hid (∃ Ks,FwL wa We.heap.size (fewL d.fs i) Ks s wr∧Below We.heap.size We wr))
  case atStart=>exact ⟨0,rfl,by omega,rfl,Nat.zero_le _,⟨none,0,rfl⟩,hid ⟨[],FwL.nil _ _ _,Below.refl _ _⟩⟩
  case round=>
   obtain ⟨i,hig,hi12,rfl,hiN,⟨y,c,rfl⟩,HJ⟩:=hrel
   obtain ⟨Ks,hF,hB⟩:=HJ.out
   have HF:=hid hF
   have HB:=hid hB
   have dd:=(hB.block _ (Array.getElem?_eq_some_iff.1 HE1.out).1).trans HE1.out
   have hlt:=(Array.getElem?_eq_some_iff.1 dd).1
   have d1:wr.cell? ⟨w.heap.size,1,none⟩ = some (.slice x1 N c1):=by simp [World.cell?,dd]
   clear HJ hF hB dd
   have hmx:=HMX.out.1
   by_cases hin:i < N
   ·by_cases h12:i < 12
    ·have k0:(0:Int)≤(i:Int):=by omega
     have k1:(i:Int) < (N:Int):=by omega
     have k2:(i:Int) < 12:=by omega
     have hkl:i < L0.length:=by have:=HRW.out.2.1;omega
     obtain ⟨hx1,hqs,hcell⟩:=HRW.out.1 (by intro e;rw [e] at hkl;cases hkl)
     subst hx1
     have HBW:Hid (Below w.heap.size w wr):=hid (HEB.out.trans (below_le HB.out HEB.out.size))
     have hcw:∀ j u,(L0[i]).a[j]? = some u→wr.cell? ⟨q,o + i * 16 + j,none⟩ = some u:=fun j u hu=>(HBW.out.cell (p:=⟨q,o + i * 16 + j,none⟩) hqs).trans (hcell i hkl j u hu)
     have hqz:q < wr.heap.size:=Nat.lt_of_lt_of_le hqs HBW.out.size
     have hNc:N≤c1:=HRW.out.2.2
     have HLI:=hid (HLF.out i hkl wr HBW.out)
     obtain ⟨F,hFe⟩:∃ F,F = L0[i]:=⟨_,rfl⟩
     rw [←hFe] at hcw HLI
     have e0:=hcw 0 (.int .i64 F.k) rfl
     have e1:=hcw 1 (.string F.nm) rfl
     have e2:=hcw 2 (.string F.lb) rfl
     have e3:=hcw 3 (.slice F.xo F.no F.co) rfl
     have e4:=hcw 4 (.int .i64 F.mn) rfl
     have e5:=hcw 5 (.int .i64 F.mx) rfl
     have e6:=hcw 6 (.float .f64 F.lo) rfl
     have e7:=hcw 7 (.float .f64 F.hi) rfl
     have e8:=hcw 8 (.float .f64 F.st) rfl
     have e9:=hcw 9 (.string F.ds) rfl
     have e10:=hcw 10 (.int .i64 F.dn) rfl
     have e11:=hcw 11 (.bool F.db) rfl
     have e12:=hcw 12 (.slice F.xl F.nl F.cl) rfl
     have e13:=hcw 13 (.float .f64 F.df) rfl
     have e14:=hcw 14 (.string F.sh) rfl
     have e15:=hcw 15 (.string F.ck) rfl
     rw [Nat.add_zero] at e0
     unfold FL.v FL.a at HLI
     have HIL:Hid (i < d.fs.length):=hid (by rw [←HNN.out];exact hin)
     have HLE:Hid (i≤d.fs.length):=hid (by rw [←HNN.out];exact hiN)
     clear hFe hqs hcell hcw hkl
     go_wp2_with (first | (go_at_call 11;fail))
     refine HLI.out.mono ?_
     rintro e w3 ⟨G,yo,yc,xl,cl,rfl,hG,hr,hI,hb⟩
     have HB3:=hid hb
     have HG:=hid (And.intro hG (And.intro hr hI))
     have HO3:Hid (w3.ownsRow We.heap.size 42 16 (.slice y i c) i (fflat Ks)):=hid (by
      have h:=(HF.out.below hb).row
      rw [fewL_len HLE.out] at h
      exact h)
     clear hb hG hr hI hqz hlt d1 e0 e1 e2 e3 e4 e5 e6 e7 e8 e9 e10 e11 e12 e13 e14 e15 HLI
     go_wp2_with (first | (at_builtin;go_loud (refine wpList_append_own _ rfl _ _ 22 rfl We.heap.size 42 iF (.agg #[.int .i64 0,.string ⟨#[]⟩,.string ⟨#[]⟩,.slice none 0 0,.int .i64 0,.int .i64 0,.float .f64 0,.float .f64 0,.float .f64 0,.string ⟨#[]⟩,.int .i64 0,.bool false,.slice none 0 0,.float .f64 0,.string ⟨#[]⟩,.string ⟨#[]⟩]) 16 200 Tryz.underlying22 HNF.out.1 HNF.out.2.1 HNF.out.2.2.1 HNF.out.2.2.2 rfl (by decide) _ _ _ rfl (HO3.out.alloc _) ⟨w3.heap.size,0,none⟩ 1 1 G.a.toList rfl rfl (fl_new w3 G _) (by simp [FL.a,Value.oneCell']) (by unfold maxLen;omega) (by omega) (by have:=HB3.out.size;have:=HB.out.size;simp;omega) ?_)))
     intro v4 w4 ho4 hg4 _
     obtain ⟨y4,c4,rfl⟩:=ownsRow_is ho4
     have HR4:Hid (∃ Ks,FwL wa We.heap.size (fewL d.fs (i + 1)) Ks (.slice y4 (i + 1) c4) w4∧Below We.heap.size We w4):=hid (by
      refine ⟨Ks ++ [G],?_,?_⟩
      ·rw [fewL_next HIL.out]
       exact HF.out.push HB3.out HG.out.1 (World.ownsRow.mono HG.out.2.1 HB.out.size) HG.out.2.2 (by rw [fewL_len HLE.out];exact ho4) hg4
      ·exact ((HB.out.trans (below_le HB3.out HB.out.size)).alloc (Nat.le_trans HB.out.size HB3.out.size) _).grown hg4 (by have:=HB.out.size;have:=HB3.out.size;simp;omega) (fun j hj=>own_lt HO3.out j hj))
     clear ho4 hg4 HO3 HG HF HB HB3
     go_wp2
     go_roundg (gk - 1)
     case measure=>omega
     case rel=>exact ⟨i + 1,by omega,by omega,by go_num,by omega,⟨y4,c4,rfl⟩,HR4⟩
    ·have k1:(i:Int) < (N:Int):=by omega
     have k2:¬ (i:Int) < 12:=by omega
     have h12:min N 12 = i:=by omega
     have H12:=hid h12
     clear h12
     go_wp2
     go_meet
     refine ⟨⟨y,c,by rw [H12.out]⟩,hid ⟨Ks,?_,HB.out⟩⟩
     have e:i = 12:=by omega
     have h:=HF.out
     rw [show fewL d.fs i = fewL d.fs 12 by rw [e]] at h
     exact h
   ·have k1:¬ (i:Int) < (N:Int):=by omega
    have H12:Hid (min N 12 = i):=hid (by omega)
    have HLE:Hid (i = d.fs.length∧i≤12):=hid (by rw [←HNN.out];omega)
    go_wp2
    go_meet
    refine ⟨⟨y,c,by rw [H12.out]⟩,hid ⟨Ks,?_,HB.out⟩⟩
    have h:=HF.out
    rw [show fewL d.fs i = fewL d.fs 12 by unfold fewL;rw [List.take_of_length_le (by have:=HLE.out;omega),List.take_of_length_le (by have:=HLE.out;omega)]] at h
    exact h
 case rest=>
  obtain ⟨⟨y,c,rfl⟩,HJ⟩:=hcut
  obtain ⟨Ks,hF,hB⟩:=HJ.out
  have hew:w.heap.size + 1 < We.heap.size:=by have:=HEZ.out;omega
  have hE1:=(hB.block _ (show w.heap.size < We.heap.size by omega)).trans HE1.out
  have hE2:=(hB.block _ hew).trans HE2.out
  have hwb:w.heap.size + 1 < wc.heap.size:=by have:=hB.size;omega
  have d1:wc.cell? ⟨w.heap.size,1,none⟩ = some (.slice x1 N c1):=by simp [World.cell?,hE1]
  have f1:wc.frozen? ⟨w.heap.size,1,none⟩ = false:=by simp [World.frozen?,hE1]
  have HF2:Hid (FwL wa We.heap.size (fewL d.fs 12) Ks (.slice y (min N 12) c) (wc.setCell ⟨w.heap.size,1,none⟩ (.slice y (min N 12) c))):=hid (hF.kept (fun j hj _=>set_other (by omega)))
  have HG1:Hid ((wc.setCell ⟨w.heap.size,1,none⟩ (.slice y (min N 12) c)).heap[w.heap.size]? = some (.cells #[.string (T.extract 0 q0),.slice y (min N 12) c,.slice x2 M c2,.int .i64 rows] 25 (0,0))):=hid (by rw [set_block hE1 _];rfl)
  have HG2:Hid ((wc.setCell ⟨w.heap.size,1,none⟩ (.slice y (min N 12) c)).heap[w.heap.size + 1]? = some (.cells #[.string ⟨#[]⟩,.slice none 0 0,.slice none 0 0,.int .i64 0] 25 (0,0))):=hid ((set_other (by omega)).trans hE2)
  have HGB:Hid (Below w.heap.size w (wc.setCell ⟨w.heap.size,1,none⟩ (.slice y (min N 12) c))):=hid ((HEB.out.trans (below_le hB HEB.out.size)).setCell (Nat.le_refl _) _)
  have HGZ:Hid (We.heap.size≤(wc.setCell ⟨w.heap.size,1,none⟩ (.slice y (min N 12) c)).heap.size):=hid (by rw [World.size_setCell];exact hB.size)
  obtain ⟨P,hP⟩:∃ P,P = min N 12:=⟨_,rfl⟩
  have HPP:=hid hP
  rw [←hP] at HF2 HG1 HG2 HGB HGZ ⊢
  have hlt:w.heap.size < wc.heap.size:=by omega
  clear HJ hF hB hE1 hE2 hP hwb HE1 HE2 HEB
  go_upto_block 2 with (fail)
  generalize wc.setCell ⟨w.heap.size,1,none⟩ (.slice y P c) = W2 at HF2 HG1 HG2 HGB HGZ ⊢
  clear d1 f1 hlt
  go_cut [5] (fun s wx=>(∃ y2 k,s = .slice y2 (min M 18) k)∧Hid (OpI W2 (fewR d.rl 18) s wx))
  case first=>
   go_wp2_with fail
   go_loopg [5,6] 19 (fun g s ii wr=>∃ j:Nat,j + g = 19∧j≤18∧ii = .int .i64 j∧j≤M∧(∃ y c,s = .slice y j c)∧Hid (OpI W2 (fewR d.rl j) s wr))
   case atStart=>exact ⟨0,rfl,by omega,rfl,Nat.zero_le _,⟨none,0,rfl⟩,hid ⟨World.ownsRow_nil _ _ _ _,Below.refl _ _⟩⟩
   case round=>
    obtain ⟨j,hjg,hj18,rfl,hjM,⟨y,c,rfl⟩,HR⟩:=hrel
    have dd:=(HR.out.bel.block _ (Array.getElem?_eq_some_iff.1 HG1.out).1).trans HG1.out
    have hlt:=(Array.getElem?_eq_some_iff.1 dd).1
    have d2:wr.cell? ⟨w.heap.size,2,none⟩ = some (.slice x2 M c2):=by simp [World.cell?,dd]
    clear dd
    have hmx:=HMX.out.2
    by_cases hjm:j < M
    ·by_cases h18:j < 18
     ·have HIL:Hid (j < d.rl.length):=hid (by rw [←HMM.out];exact hjm)
      have HLE:Hid (j≤d.rl.length):=hid (by rw [←HMM.out];exact hjM)
      obtain ⟨g,o,hx2,hg2,hget⟩:=HRL.out.cells (by intro e;have:=HIL.out;rw [e] at this;simp at this)
      subst hx2
      obtain ⟨q,m1,n1,p1,e1⟩:=cut_facts (d.rl.getD j []) 300 300 rfl
      have HX:=hid e1
      have HTT:Hid (∀ W',Below W2.heap.size W2 W'→W'.cell? ⟨g,o + j,none⟩ = some (.string (tx (d.rl.getD j [])))):=hid (fun W' hb=>(hb.cell (p:=⟨g,o + j,none⟩) (Nat.lt_of_lt_of_le hg2 HGB.out.size)).trans ((HGB.out.cell (p:=⟨g,o + j,none⟩) hg2).trans (hget j HIL.out)))
      have HSC:Hid (∀ W',Below W2.heap.size W2 W'→W'.cell? ⟨w.heap.size,2,none⟩ = some (.slice (some ⟨g,o,none⟩) M c2)):=hid (fun W' hb=>by
       have h:=(hb.block _ (Array.getElem?_eq_some_iff.1 HG1.out).1).trans HG1.out
       simp [World.cell?,h])
      have hMc:M≤c2:=by have:=HRL.out.cap;have:=HMM.out;omega
      obtain ⟨X,hX⟩:∃ X,X = (d.rl.getD j []).take 300:=⟨_,rfl⟩
      have HNX:Hid (fewR d.rl (j + 1) = fewR d.rl j ++ [X]):=hid (by rw [hX];exact fewR_next HIL.out)
      rw [←hX] at HX
      generalize tx (d.rl.getD j []) = T1 at m1 n1 p1 HX HTT
      have k1:(0:Int)≤(j:Int):=by omega
      have k2:(j:Int) < (M:Int):=by omega
      have k3:(j:Int) < 18:=by omega
      have hj2:j≤18:=hj18
      have HNF:=HN9
      clear hX hget hg2 e1
      go_upto_region 12 with (fail)
      have HRW:Hid (wr.ownsRow W2.heap.size 9 1 (.slice y j c) j (strs (fewR d.rl j))):=hid (by have h:=HR.out.row;rw [fewR_len HLE.out] at h;exact h)
      have HS0:Hid (wr.drew.cell? ⟨w.heap.size,2,none⟩ = some (.slice (some ⟨g,o,none⟩) M c2)∧wr.drew.cell? ⟨g,o + j,none⟩ = some (.string T1)):=hid ⟨HSC.out _ HR.out.bel.drew,HTT.out _ HR.out.bel.drew⟩
      refine wp_region_S (fun w'=>w'.cell? ⟨w.heap.size,2,none⟩ = some (.slice (some ⟨g,o,none⟩) M c2)∧w'.cell? ⟨g,o + j,none⟩ = some (.string T1)) [] (by as_aux_lemma=>kernel_rfl) ?_
      change wpAnyS _ _ _ _ _ _ _ _ _ (World.drew _)
      refine tkS (i:=0) ?_
      try simp only [Act.put,zz1,zz2,zz3,zz4,zz6]
      refine tkS (i:=1) ?_
      try simp only [Act.put,zz1,zz2,zz3,zz4,zz5,zz6]
      refine ldS (i:=2) HS0.out ?_
      try simp only [Act.put,zz1,zz2,zz3,zz4,zz5,zz6]
      refine tkS (i:=3) ?_
      try simp only [Act.put,zz1,zz2,zz3,zz4,zz5,zz6]
      refine tkS (i:=4) ?_
      try simp only [Act.put,zz1,zz2,zz3,zz4,zz5,zz6]
      refine ldS (i:=5) HS0.out ?_
      try simp only [Act.put,zz1,zz2,zz3,zz4,zz5,zz6]
      refine tkS (i:=6) ?_
      try simp only [Act.put,zz1,zz2,zz3,zz4,zz5,zz6]
      refine ldS (i:=7) HS0.out ?_
      try simp only [Act.put,zz1,zz2,zz3,zz4,zz5,zz6]
      refine tkS (i:=8) ?_
      try simp only [Act.put,zz1,zz2,zz3,zz4,zz5,zz6]
      refine tkS (i:=9) ?_
      try simp only [Act.put,zz1,zz2,zz3,zz4,zz5,zz6]
      refine ldS (i:=10) HS0.out ?_
      try simp only [Act.put,zz1,zz2,zz3,zz4,zz5,zz6]
      refine tkS (i:=11) ?_
      try simp only [Act.put,zz1,zz2,zz3,zz4,zz5,zz6]
      refine tkS (i:=12) ?_
      try simp only [Act.put,zz1,zz2,zz3,zz4,zz5,zz6]
      refine tkS (i:=13) ?_
      try simp only [Act.put,zz1,zz2,zz3,zz4,zz5,zz6]
      refine anyS_step (i:=14) rfl (by as_aux_lemma=>kernel_rfl) (fun K hK=>?_)
      go_simp
      refine hK _ _ ⟨HSC.out _ (HR.out.bel.drew.alloc (by have:=HR.out.bel.size;simp;omega) _),HTT.out _ (HR.out.bel.drew.alloc (by have:=HR.out.bel.size;simp;omega) _)⟩ ?_
      clear hK K
      refine anyS_step (i:=15) rfl (by as_aux_lemma=>kernel_rfl) (fun K hK=>?_)
      refine step_append_own rfl _ _ 23 rfl W2.heap.size 9 i9 (.string ⟨#[]⟩) 1 16 Tryz.underlying23 HNF.out.1 HNF.out.2.1 HNF.out.2.2.1 HNF.out.2.2.2 rfl (by decide) _ _ _ rfl (HRW.out.alloc _).drew ⟨wr.heap.size,0,none⟩ 1 1 [.string (T1.extract 0 q)] rfl rfl (cell_one_new wr (.string (T1.extract 0 q)) 9) (by simp [Value.oneCell']) (by unfold maxLen;omega) (by omega) (by have:=HR.out.bel.size;simp;omega) ?_
      intro v4 w4 ho4 hg4 _
      obtain ⟨y4,c4,rfl⟩:=ownsRow_is ho4
      have HR4:Hid (OpI W2 (fewR d.rl (j + 1)) (.slice y4 (j + 1) c4) w4):=hid (by
       rw [HNX.out]
       refine HR.out.app ?_ hg4
       rw [fewR_len HLE.out,←HX.out]
       exact ho4)
      clear ho4 hg4
      refine hK _ _ ⟨HSC.out _ HR4.out.bel,HTT.out _ HR4.out.bel⟩ ?_
      clear hK K
      try simp only [Act.put,zz1,zz4]
      refine tkS (i:=16) ?_
      refine anyS_done (by as_aux_lemma=>kernel_rfl) ?_
      go_wp2
      go_roundg (gk - 1)
      case measure=>omega
      case rel=>exact ⟨j + 1,by omega,by omega,by go_num,by omega,⟨y4,c4,rfl⟩,HR4⟩
     ·have k1:(j:Int) < (M:Int):=by omega
      have k2:¬ (j:Int) < 18:=by omega
      have H12:Hid (min M 18 = j∧j = 18):=hid (by omega)
      go_wp2
      go_meet
      refine ⟨⟨y,c,by rw [H12.out.1]⟩,?_⟩
      have h:=HR.out
      rw [show fewR d.rl j = fewR d.rl 18 by rw [H12.out.2]] at h
      exact hid h
    ·have k1:¬ (j:Int) < (M:Int):=by omega
     have H12:Hid (min M 18 = j):=hid (by omega)
     have HLE:Hid (j = d.rl.length∧j≤18):=hid (by rw [←HMM.out];omega)
     go_wp2
     go_meet
     refine ⟨⟨y,c,by rw [H12.out]⟩,?_⟩
     have h:=HR.out
     rw [show fewR d.rl j = fewR d.rl 18 by unfold fewR;rw [List.take_of_length_le (by have:=HLE.out;omega),List.take_of_length_le (by have:=HLE.out;omega)]] at h
     exact hid h
  case rest=>
   obtain ⟨⟨y2,k2,rfl⟩,HO⟩:=hcut
   have hb:=HO.out.bel
   have hw2:w.heap.size + 1 < W2.heap.size:=by have:=HGZ.out;omega
   have hE1:=(hb.block _ (show w.heap.size < W2.heap.size by omega)).trans HG1.out
   have hE2:=(hb.block _ hw2).trans HG2.out
   have c0:wc.cell? ⟨w.heap.size,0,none⟩ = some (.string (T.extract 0 q0)):=by simp [World.cell?,hE1]
   have c1':wc.cell? ⟨w.heap.size,1,none⟩ = some (.slice y P c):=by simp [World.cell?,hE1]
   have c2':wc.cell? ⟨w.heap.size,2,none⟩ = some (.slice x2 M c2):=by simp [World.cell?,hE1]
   have c3:wc.cell? ⟨w.heap.size,3,none⟩ = some (.int .i64 rows):=by simp [World.cell?,hE1]
   have f2:wc.frozen? ⟨w.heap.size,2,none⟩ = false:=by simp [World.frozen?,hE1]
   have d0:wc.cell? ⟨w.heap.size + 1,0,none⟩ = some (.string ⟨#[]⟩):=by simp [World.cell?,hE2]
   have d1:wc.cell? ⟨w.heap.size + 1,1,none⟩ = some (.slice none 0 0):=by simp [World.cell?,hE2]
   have d2:wc.cell? ⟨w.heap.size + 1,2,none⟩ = some (.slice none 0 0):=by simp [World.cell?,hE2]
   have d3:wc.cell? ⟨w.heap.size + 1,3,none⟩ = some (.int .i64 0):=by simp [World.cell?,hE2]
   have g0:wc.frozen? ⟨w.heap.size + 1,0,none⟩ = false:=by simp [World.frozen?,hE2]
   have g1:wc.frozen? ⟨w.heap.size + 1,1,none⟩ = false:=by simp [World.frozen?,hE2]
   have g2:wc.frozen? ⟨w.heap.size + 1,2,none⟩ = false:=by simp [World.frozen?,hE2]
   have g3:wc.frozen? ⟨w.heap.size + 1,3,none⟩ = false:=by simp [World.frozen?,hE2]
   have hl1:w.heap.size < wc.heap.size:=by have:=hb.size;omega
   have hl2:w.heap.size + 1 < wc.heap.size:=by have:=hb.size;omega
   have HEE2:Hid ((wc.setCell ⟨w.heap.size,2,none⟩ (.slice y2 (min M 18) k2)).heap[w.heap.size + 1]? = some (.cells #[.string ⟨#[]⟩,.slice none 0 0,.slice none 0 0,.int .i64 0] 25 (0,0))):=hid ((set_other (by omega)).trans hE2)
   have HWB:Hid (Below w.heap.size w wc):=hid (HGB.out.trans (below_le hb HGB.out.size))
   have HFW:=hid (HF2.out.below hb)
   obtain ⟨Q,hQ⟩:∃ Q,Q = min M 18:=⟨_,rfl⟩
   have HQQ:=hid hQ
   rw [←hQ] at HEE2 ⊢
   clear hE1 hE2 hb hw2 hQ
   go_wp2
   have hp:=put4_blk HEE2.out (.string (T.extract 0 q0)) (.slice y P c) (.slice y2 Q k2) (.int .i64 rows)
   have hk:∀ j,w.heap.size + 2≤j→(put4 (wc.setCell ⟨w.heap.size,2,none⟩ (.slice y2 Q k2)) (w.heap.size + 1) (.string (T.extract 0 q0)) (.slice y P c) (.slice y2 Q k2) (.int .i64 rows)).heap[j]? = wc.heap[j]?:=fun j hj=>(put4_other (by omega)).trans (set_other (by omega))
   have hb9:=put4_below (HWB.out.setCell (p:=⟨w.heap.size,2,none⟩) (Nat.le_refl _) (.slice y2 Q k2)) (show w.heap.size≤w.heap.size + 1 by omega) (.string (T.extract 0 q0)) (.slice y P c) (.slice y2 Q k2) (.int .i64 rows)
   unfold put4 at hp hk hb9
   generalize (World.setCell _ ⟨w.heap.size + 1,3,none⟩ _) = W9 at hp hk hb9 ⊢
   refine bodyPost_ret (results_cell rfl _ _ (w.heap.size + 1) 25 _ _ _ rfl hp Tryz.underlying25 rfl (by kernel_rfl)) rfl ?_
   have hlf:(fewD d).fs.length = P:=by rw [HPP.out];simp only [fewD,fewL,List.length_map,List.length_take];rw [←HNN.out];omega
   have hlr:(fewD d).rl.length = Q:=by rw [HQQ.out];simp only [fewD,fewR,List.length_map,List.length_take];rw [←HMM.out];omega
   refine ⟨Ks,y,c,y2,k2,?_,⟨?_,?_⟩,hb9⟩
   ·rw [hlf,hlr]
    unfold fewD
    dsimp only
    rw [HX0.out]
   ·rw [hlf]
    have h:=HFW.out.kept (W':=W9) (fun j hj _=>hk j (by have:=HEZ.out;omega))
    exact ⟨World.ownsRow.mono h.row (by omega),h.len,fun i hi=>by
     obtain ⟨yo,yc,xl,cl,e,hr,hI⟩:=h.fm i hi
     exact ⟨yo,yc,xl,cl,e,World.ownsRow.mono hr (by omega),hI⟩⟩
   ·have hr:=HO.out.row
    have h9:=row_kept (w':=W9) hr (fun j hj=>hk j (by have:=(hr.lt j hj).1;have:=HGZ.out;have:=HEZ.out;omega))
    have h10:=World.ownsRow.mono h9 (show w.heap.size≤W2.heap.size by have:=HGZ.out;omega)
    have e:(fewR d.rl 18).length = Q:=hlr
    rw [e,HQQ.out.symm] at h10
    rw [hlr]
    exact h10
end Go.Proofs.YtpcbamcelpcigaaGreat
namespace Go.Proofs.YtpcbamcelpcigaaGreat
open Go Go.RowKit
variable {F:Fence} {n:Nat} {P:Program} {ops:Array Oper} {md:Region.Mode} {C:World→Prop}
def noDefer (o:Oper):Bool:=match o.op with
 | .defer _=>false
 | _=>true
theorem noDefer_spec {o:Oper} (h:noDefer o = true):∀ c,o.op≠.defer c:=fun c e=>by
 unfold noDefer at h
 rw [e] at h
 cases h
theorem quiet_op {o : Oper} {a : Act} {K : Act → Prop} {K' : Act → World → Prop} {Q' : Exit → Act → World → Prop} {w : World} (hnd : noDefer o = true) (hw : C w) (h : ∀ a w', C w' → K a → K' a w')
    (ha : o.askedIn F P a C) (hh : o.quietIn F n P a C K) : o.wpIn F n P a w K' Q' := by
  obtain ⟨v, h1, h2⟩ := hh
  have h3 := h1 w hw
  unfold Oper.quietAtIn at h3
  unfold Oper.wpIn
  refine ⟨ha w hw, ?_⟩
  rw [Oper.semAt_plain F _ _ (noDefer_spec hnd)]
  generalize (execOp a.eval o).run P w = r at *
  cases r with
  | halt x w' => simp only [Oper.quietUponIn] at h3
  | ok x w' =>
    cases x <;> simp only [Oper.quietUponIn] at h3 <;> simp only [Oper.uponIn]
    case value u => rw [h3.1, h3.2]; exact h _ _ hw h2
    case skip => rw [h3.1, ← h3.2]; exact h _ _ hw h2
    case enter f args =>
      rw [h3.1]
      exact ⟨h3.2.1, h3.2.2.mono fun e w'' q => by rw [q.1]; exact h _ _ q.2 h2⟩
theorem quiet_any {Q : Act → Prop} {Q' : Exit → Act → World → Prop} (hnd : ∀ (i : Nat) o, ops[i]? = some o → noDefer o = true) (hQ : ∀ a w, C w → Q a → Q' .normal a w) : ∀ (fuel : Nat) (listed : Array Bool) (a : Act) (w : World), C w →
    wpAnyQIn F n P md ops C Q fuel listed a → wpAnyIn F n P md ops Q' fuel listed a w
  | 0, _, _, _, hw, h => ⟨h.1, hQ _ _ hw h.2⟩
  | fuel + 1, _, _, _, hw, h => ⟨fun h0 => hQ _ _ hw (h.1 h0), fun i hi => by
    have hh := h.2 i hi
    unfold qOpIn at hh
    unfold wpOpIn
    split
    · rename_i ho
      simp only [ho] at hh
      exact quiet_any hnd hQ fuel _ _ _ hw hh
    · rename_i o ho
      simp only [ho] at hh
      split
      · rename_i hq
        simp only [hq, if_true] at hh
        exact quiet_op (hnd i o ho) hw (fun a' w' hw' => quiet_any hnd hQ fuel _ a' w' hw') hh.1 hh.2
      · rename_i hq
        simp only [hq] at hh
        exact ⟨hh.1 _ hw, quiet_any hnd hQ fuel _ _ _ hw hh.2⟩⟩
theorem region_quiet {id:Nat} {Q:Exit→Act→World→Prop} {a:Act} {w:World} {l:List Oper} (hnd:l.all noDefer = true) (hm:P.follows .mixedOrders = true) (hB:Region.lexB .any l.toArray = true)
  (h:wpQuietIn F n P l.toArray (fun w'=>∃ m,w' = w.drewN m) (fun a'=>∀ w',(∃ m,w' = w.drewN m)→Q .normal a' w') l a):(Code.region id l.toArray true).wpIn F n P Q a w:=by
 simp only [Region.lexB,Bool.and_eq_true] at hB
 refine wpIn_region_any hm (quiet_any (C:=fun w'=>∃ m,w' = w.drewN m) (Q:=fun a'=>∀ w',(∃ m,w' = w.drewN m)→Q .normal a' w') (fun i o ho=>?_) (fun _ w' hw' h=>h w' hw') _ _ _ _ ⟨1,rfl⟩ ?_)
 ·exact List.all_eq_true.1 hnd o (by have:=Array.mem_of_getElem? ho;simpa using this)
 ·have:=wpAnyQIn_lex (F:=F) (n:=n) (P:=P) (ops:=l.toArray) (C:=fun w'=>∃ m,w' = w.drewN m) (md:=.any) hB.1 l 0 (Array.replicate l.toArray.size false) a (by simp) (by simpa using hB.2) h
  simpa using this
end Go.Proofs.YtpcbamcelpcigaaGreat
