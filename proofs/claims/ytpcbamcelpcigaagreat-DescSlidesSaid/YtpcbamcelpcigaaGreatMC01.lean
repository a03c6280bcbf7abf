/- Own texts, merged. -/
import Derived.WalkKit
import Derived.Deep.QuietTactic
import Derived.BigQuiet
import Derived.Lib.Hide
import Derived.WalkSmall
import Derived.Laws.Rows
import Derived.Outline
import Derived.Deep.CutBlock
import Derived.Deep.RegionHeld3
import Derived.Deep.Cut
import Derived.Deep.CutRange
import Derived.Deep.DeepCutAuto
import Derived.WalkSpells
import Derived.Maps.AppendAt
import Derived.Test.YtpcbamcelpcigaaGreatShelf
import Derived.RangeFuncNested
import Derived.RangeFuncBound
import Derived.RangeFuncCalls
import Derived.RangeFuncLeaves
import Derived.RangeFuncBox
import Derived.RangeFuncFrom
import Derived.Shelf.Abstract
import Derived.Shelf.RegionOpen
import Derived.OwnWalkIn
import Derived.TacticsInMore
import Derived.LoopNIn
import Derived.LoopIn
import Derived.Great.BuildSlice
import Derived.Stop.RegionWithIn
import Derived.Sort.CutIn
import Derived.Test.YtpcbamcelpcigaaGreatMC00
set_option maxRecDepth 100000
set_option maxHeartbeats 32000000
open Go.Lib (hid)
namespace Go.Proofs.YtpcbamcelpcigaaGreat
open Go.RowKit
theorem ret_int {k:IntKind} {a b:Int} (h:a = b):Ending.returned (.int k a) = .returned (.int k b):=by rw [h]
theorem ret_bool {a b:Bool} (h:a = b):Ending.returned (.bool a) = .returned (.bool b):=by rw [h]
theorem ret_str {a b:ByteArray} (h:a = b):Ending.returned (.string a) = .returned (.string b):=by rw [h]
theorem below_le {m n:Nat} {w w':World} (h:Below n w w') (hm:m≤n):Below m w w':=⟨h.os,h.tape,h.output,h.size,fun j hj=>h.block j (by omega)⟩
theorem beq_bytes (a b:ByteArray):(a.toList == b.toList) = decide (a = b):=by
 rw [Bool.eq_iff_iff,ByteArray.toList_eq,ByteArray.toList_eq]
 obtain ⟨⟨x⟩⟩:=a
 obtain ⟨⟨y⟩⟩:=b
 simp
theorem set_block {w:World} {b o:Nat} {cur:Array Value} {T:TypeId} {r:Nat × Nat} (h:w.heap[b]? = some (.cells cur T r)) (v:Value):(w.setCell ⟨b,o,none⟩ v).heap[b]? = some (.cells (cur.setIfInBounds o v) T r):=by
 obtain ⟨hlt,hk⟩:=Array.getElem?_eq_some_iff.1 h
 show (w.heap.modify b _)[b]? = _
 rw [Array.getElem?_eq_getElem (by rw [Array.size_modify];exact hlt),Array.getElem_modify_self,hk]
 rfl
theorem set_other {w:World} {b j:Nat} {o:Nat} {v:Value} (h:j≠b):(w.setCell ⟨b,o,none⟩ v).heap[j]? = w.heap[j]?:=Below.heap_setCell _ _ _ _ h
theorem results_cell_tmp {P:Program} {fn:Func} {p q:Tmp} {ty:TypeId} (h:fn.results = #[.cell p ty,.tmp q]) (tmps:Array Value) (w:World) (g:Nat) (t:TypeId) (cs:Array Value) (fr:Nat × Nat) (d:TypeDesc)
  (hp:tmps.getD p undef = .pointer (some ⟨g,0,none⟩)) (hg:w.heap[g]? = some (.cells cs t fr))
  (hu:P.underlying ty = some d) (hd:(match d with | .struct _ | .array _ _=>true | _=>false) = true) (hi:(P.info? ty).map (·.size) = some cs.size) :
  (results fn tmps).run P w = .ok (.tuple #[.agg cs,tmps.getD q undef]) w:=by
 have hp':tmps[p]?.getD undef = .pointer (some ⟨g,0,none⟩):=by simpa using hp
 simp [results,h,hp',asAddr,run_loadVar_row w g t ty cs fr d hg hu hd hi]
theorem results_cell {P:Program} {fn:Func} {p:Tmp} {ty:TypeId} (h:fn.results = #[.cell p ty]) (tmps:Array Value) (w:World) (g:Nat) (t:TypeId) (cs:Array Value) (fr:Nat × Nat) (d:TypeDesc)
  (hp:tmps.getD p undef = .pointer (some ⟨g,0,none⟩)) (hg:w.heap[g]? = some (.cells cs t fr))
  (hu:P.underlying ty = some d) (hd:(match d with | .struct _ | .array _ _=>true | _=>false) = true) (hi:(P.info? ty).map (·.size) = some cs.size) :
  (results fn tmps).run P w = .ok (.agg cs) w:=by
 have hp':tmps[p]?.getD undef = .pointer (some ⟨g,0,none⟩):=by simpa using hp
 simp [results,h,hp',asAddr,run_loadVar_row w g t ty cs fr d hg hu hd hi]
structure But (l:List Nat) (w w':World):Prop where
 os:w'.os = w.os
 tape:w'.tape = w.tape
 output:w'.output = w.output
 size:w.heap.size≤w'.heap.size
 block:∀ j,j < w.heap.size→j ∉ l→w'.heap[j]? = w.heap[j]?
theorem But.refl (l:List Nat) (w:World):But l w w:=⟨rfl,rfl,rfl,Nat.le_refl _,fun _ _ _=>rfl⟩
theorem But.trans {l:List Nat} {a b c:World} (h:But l a b) (k:But l b c):But l a c:=
 ⟨k.os.trans h.os,k.tape.trans h.tape,k.output.trans h.output,Nat.le_trans h.size k.size,fun j hj hl=>(k.block j (by have:=h.size;omega) hl).trans (h.block j hj hl)⟩
theorem But.of {l:List Nat} {w w':World} (h:Below w.heap.size w w'):But l w w':=⟨h.os,h.tape,h.output,h.size,fun j hj _=>h.block j hj⟩
theorem But.set {l:List Nat} {w w':World} (h:But l w w') (a:Addr) (v:Value) (ha:a.block ∈ l):But l w (w'.setCell a v):=
 ⟨h.os,h.tape,h.output,by simpa using h.size,fun j hj hl=>(Below.heap_setCell _ _ _ _ (fun e=>hl (by rw [e];exact ha))).trans (h.block j hj hl)⟩
theorem But.alloc {l:List Nat} {w w':World} (h:But l w w') (o:Obj):But l w (w'.alloc o):=h.trans (But.of ((Below.refl _ _).alloc (Nat.le_refl _) o))
theorem But.drew {l:List Nat} {w w':World} (h:But l w w'):But l w w'.drew:=h.trans (But.of (Below.refl _ _).drew)
theorem But.below {l:List Nat} {w w' w2:World} (h:But l w w') (k:Below w'.heap.size w' w2):But l w w2:=h.trans (But.of k)
theorem But.grown {l:List Nat} {w w' w2:World} {row:Option Nat} (h:But l w w') (hg:w'.grownBy w2 row) (hr:∀ j,row = some j→j ∈ l):But l w w2:=
 ⟨hg.os.trans h.os,hg.tape.trans h.tape,hg.output.trans h.output,Nat.le_trans h.size hg.size,fun j hj hl=>(hg.block j (by have:=h.size;omega) (fun e=>hl (hr j e.symm))).trans (h.block j hj hl)⟩
theorem But.sub {l l':List Nat} {w w':World} (h:But l w w') (hs:∀ j,j ∈ l→j < w.heap.size→j ∈ l'):But l' w w':=⟨h.os,h.tape,h.output,h.size,fun j hj hl=>h.block j hj (fun q=>hl (hs j q hj))⟩
theorem But.heap {l:List Nat} {w w':World} (h:But l w w') {j:Nat} {o:Obj} (hj:w.heap[j]? = some o) (hl:j ∉ l):w'.heap[j]? = some o:=by
 rw [h.block j ((Array.getElem?_eq_some_iff.1 hj).1) hl];exact hj
def Box (w:World) (b:Nat) (t:TypeId) (v:Value):Prop:=w.heap[b]? = some (.cells #[v] t (0,0))
theorem Box.cell {w:World} {b:Nat} {t:TypeId} {v:Value} (h:Box w b t v):w.cell? ⟨b,0,none⟩ = some v:=by unfold Box at h;simp [World.cell?,h]
theorem Box.frozen {w:World} {b:Nat} {t:TypeId} {v:Value} (h:Box w b t v):w.frozen? ⟨b,0,none⟩ = false:=by unfold Box at h;simp [World.frozen?,h]
theorem Box.lt {w:World} {b:Nat} {t:TypeId} {v:Value} (h:Box w b t v):b < w.heap.size:=(Array.getElem?_eq_some_iff.1 h).1
theorem Box.kept {w w':World} {b n:Nat} {t:TypeId} {v:Value} (h:Box w b t v) (hb:b < n) (hB:Below n w w'):Box w' b t v:=(hB.block b hb).trans h
theorem Box.set {w:World} {b:Nat} {t:TypeId} {v:Value} (h:Box w b t v) (v':Value):Box (w.setCell ⟨b,0,none⟩ v') b t v':=set_block h v'
end Go.Proofs.YtpcbamcelpcigaaGreat
namespace Go.Proofs.YtpcbamcelpcigaaGreat
open Go.RowKit Go.Shelf
abbrev Bs:=List UInt8
def tx (l:Bs):ByteArray:=⟨l.toArray⟩
structure Shp where
 m:Nat
 lo:Nat
 hi:Nat
 r:Int
deriving DecidableEq
def shp (c:Nat):Shp:=
 if c < 128 then ⟨1,0,0,c⟩ else if c < 194 then ⟨0,0,0,0⟩ else if c < 224 then ⟨2,128,191,(c % 32:Nat)⟩ else if c = 224 then ⟨3,160,191,0⟩
 else if c = 237 then ⟨3,128,159,13⟩ else if c < 240 then ⟨3,128,191,(c % 16:Nat)⟩ else if c = 240 then ⟨4,144,191,0⟩ else if c < 244 then ⟨4,128,191,(c % 8:Nat)⟩
 else if c = 244 then ⟨4,128,143,4⟩ else ⟨0,0,0,0⟩
def Shp.cells (s:Shp):Array Value:=#[.int .i64 s.m,.int .u8 s.lo,.int .u8 s.hi,.int .i32 s.r]
def Shp.v (s:Shp):Value:=.agg s.cells
def ShpAt (w:World) (b:Nat) (s:Shp):Prop:=w.heap[b]? = some (.cells s.cells 235 (0,0))
theorem ShpAt.get {w:World} {b:Nat} {s:Shp} (h:ShpAt w b s):w.cell? ⟨b,0,none⟩ = some (.int .i64 s.m)∧w.cell? ⟨b,1,none⟩ = some (.int .u8 s.lo)∧w.cell? ⟨b,2,none⟩ = some (.int .u8 s.hi)∧w.cell? ⟨b,3,none⟩ = some (.int .i32 s.r):=by
 unfold ShpAt Shp.cells at h
 refine ⟨?_,?_,?_,?_⟩ <;> simp [World.cell?,h]
theorem wsix (r:Int) (at_:Nat) (hat:at_≤32) (w:World):Calls Tryz.prog 187 #[.int .i32 r,.int .u64 at_] w fun e w'=>e = .returned (.int .u8 (128 + (r / 2 ^ at_) % 64))∧w = w':=by
 have e:min at_ 32 = at_:=by omega
 go_enter Tryz.func187,Tryz.ntmps187
 go_wp2
 go_ret
 exact ⟨rfl,rfl⟩
theorem wshape (c:Nat) (hc:c < 256) (w:World):Calls Tryz.prog 203 #[.int .u8 c] w fun e w'=>e = .returned (shp c).v∧Below w.heap.size w w':=by
 have HE:Hid (∀ s:Shp,s.v = .agg s.cells):=hid (fun _=>rfl)
 have z0:(0:Int)≤(c:Int):=by omega
 have z1:(c:Int) < 256:=by omega
 by_cases h1:c < 128
 ·have HS:=hid (show shp c = ⟨1,0,0,c⟩ by unfold shp;simp [h1])
  go_enter Tryz.func203,Tryz.ntmps203
  go_wp2
  refine bodyPost_ret (results_cell rfl _ _ w.heap.size 235 _ (0,0) _ rfl (heap_alloc_new _ _) Tryz.underlying235 rfl (by kernel_rfl)) rfl ?_
  exact ⟨by rw [HS.out,HE.out];rfl,(Below.refl _ _).alloc (Nat.le_refl _) _⟩
 ·skip
  by_cases h2:c < 194
  ·have HS:=hid (show shp c = ⟨0,0,0,0⟩ by unfold shp;simp [h1,h2])
   go_enter Tryz.func203,Tryz.ntmps203
   go_wp2
   refine bodyPost_ret (results_cell rfl _ _ w.heap.size 235 _ (0,0) _ rfl (heap_alloc_new _ _) Tryz.underlying235 rfl (by kernel_rfl)) rfl ?_
   exact ⟨by rw [HS.out,HE.out];rfl,(Below.refl _ _).alloc (Nat.le_refl _) _⟩
  ·skip
   by_cases h3:c < 224
   ·have HS:=hid (show shp c = ⟨2,128,191,(c % 32:Nat)⟩ by unfold shp;simp [h1,h2,h3])
    go_enter Tryz.func203,Tryz.ntmps203
    go_wp2
    refine bodyPost_ret (results_cell rfl _ _ w.heap.size 235 _ (0,0) _ rfl (heap_alloc_new _ _) Tryz.underlying235 rfl (by kernel_rfl)) rfl ?_
    exact ⟨by rw [HS.out,HE.out];rfl,(Below.refl _ _).alloc (Nat.le_refl _) _⟩
   ·skip
    by_cases h4:c = 224
    ·subst h4
     have HS:=hid (show shp 224 = ⟨3,160,191,0⟩ by decide)
     go_enter Tryz.func203,Tryz.ntmps203
     go_wp2
     refine bodyPost_ret (results_cell rfl _ _ w.heap.size 235 _ (0,0) _ rfl (heap_alloc_new _ _) Tryz.underlying235 rfl (by kernel_rfl)) rfl ?_
     exact ⟨by rw [HS.out,HE.out];rfl,(Below.refl _ _).alloc (Nat.le_refl _) _⟩
    ·have b4:((c:Int) == 224) = false:=by rw [beq_eq_false_iff_ne];omega
     by_cases h5:c = 237
     ·subst h5
      have HS:=hid (show shp 237 = ⟨3,128,159,13⟩ by decide)
      go_enter Tryz.func203,Tryz.ntmps203
      go_wp2
      refine bodyPost_ret (results_cell rfl _ _ w.heap.size 235 _ (0,0) _ rfl (heap_alloc_new _ _) Tryz.underlying235 rfl (by kernel_rfl)) rfl ?_
      exact ⟨by rw [HS.out,HE.out];rfl,(Below.refl _ _).alloc (Nat.le_refl _) _⟩
     ·have b5:((c:Int) == 237) = false:=by rw [beq_eq_false_iff_ne];omega
      by_cases h6:c < 240
      ·have HS:=hid (show shp c = ⟨3,128,191,(c % 16:Nat)⟩ by unfold shp;simp [h1,h2,h3,h4,h5,h6])
       go_enter Tryz.func203,Tryz.ntmps203
       go_wp2
       refine bodyPost_ret (results_cell rfl _ _ w.heap.size 235 _ (0,0) _ rfl (heap_alloc_new _ _) Tryz.underlying235 rfl (by kernel_rfl)) rfl ?_
       exact ⟨by rw [HS.out,HE.out];rfl,(Below.refl _ _).alloc (Nat.le_refl _) _⟩
      ·skip
       by_cases h7:c = 240
       ·subst h7
        have HS:=hid (show shp 240 = ⟨4,144,191,0⟩ by decide)
        go_enter Tryz.func203,Tryz.ntmps203
        go_wp2
        refine bodyPost_ret (results_cell rfl _ _ w.heap.size 235 _ (0,0) _ rfl (heap_alloc_new _ _) Tryz.underlying235 rfl (by kernel_rfl)) rfl ?_
        exact ⟨by rw [HS.out,HE.out];rfl,(Below.refl _ _).alloc (Nat.le_refl _) _⟩
       ·have b7:((c:Int) == 240) = false:=by rw [beq_eq_false_iff_ne];omega
        by_cases h8:c < 244
        ·have HS:=hid (show shp c = ⟨4,128,191,(c % 8:Nat)⟩ by unfold shp;simp [h1,h2,h3,h4,h5,h6,h7,h8])
         go_enter Tryz.func203,Tryz.ntmps203
         go_wp2
         refine bodyPost_ret (results_cell rfl _ _ w.heap.size 235 _ (0,0) _ rfl (heap_alloc_new _ _) Tryz.underlying235 rfl (by kernel_rfl)) rfl ?_
         exact ⟨by rw [HS.out,HE.out];rfl,(Below.refl _ _).alloc (Nat.le_refl _) _⟩
        ·skip
         by_cases h9:c = 244
         ·subst h9
          have HS:=hid (show shp 244 = ⟨4,128,143,4⟩ by decide)
          go_enter Tryz.func203,Tryz.ntmps203
          go_wp2
          refine bodyPost_ret (results_cell rfl _ _ w.heap.size 235 _ (0,0) _ rfl (heap_alloc_new _ _) Tryz.underlying235 rfl (by kernel_rfl)) rfl ?_
          exact ⟨by rw [HS.out,HE.out];rfl,(Below.refl _ _).alloc (Nat.le_refl _) _⟩
         ·have b9:((c:Int) == 244) = false:=by rw [beq_eq_false_iff_ne];omega
          have HS:=hid (show shp c = ⟨0,0,0,0⟩ by unfold shp;simp [h1,h2,h3,h4,h5,h6,h7,h8,h9])
          go_enter Tryz.func203,Tryz.ntmps203
          go_wp2
          refine bodyPost_ret (results_cell rfl _ _ w.heap.size 235 _ (0,0) _ rfl (heap_alloc_new _ _) Tryz.underlying235 rfl (by kernel_rfl)) rfl ?_
          exact ⟨by rw [HS.out,HE.out];rfl,(Below.refl _ _).alloc (Nat.le_refl _) _⟩
def tl:Nat→Nat→Nat→Bs→Int→Option (Option Int)
 | 0,_,_,_,r=>some (some r)
 | _ + 1,_,_,[],_=>none
 | k + 1,lo,hi,c :: t,r=>if c.toNat < lo∨hi < c.toNat then some none else tl k 128 191 t (r * 64 + (c.toNat % 64:Nat))
def nxtT (m:Nat):Option (Option Int)→Int × Nat × Bool
 | none=>(0,0,true)
 | some none=>(65533,1,false)
 | some (some r)=>(r,m,false)
def nxt:Bs→Int × Nat × Bool
 | []=>(0,0,true)
 | c :: t=>if (shp c.toNat).m = 0 then (65533,1,false) else nxtT (shp c.toNat).m (tl ((shp c.toNat).m - 1) (shp c.toNat).lo (shp c.toNat).hi t (shp c.toNat).r)
def BytesAt (w:World) (b off:Nat) (l:Bs):Prop:=∀ j,j < l.length→w.cell? ⟨b,off + j,none⟩ = some (.int .u8 (l.getD j 0).toNat)
theorem BytesAt.kept {w w':World} {b off n:Nat} {l:Bs} (h:BytesAt w b off l) (hb:b < n) (hB:Below n w w'):BytesAt w' b off l:=fun j hj=>(hB.cell (p:=⟨b,off + j,none⟩) hb).trans (h j hj)
theorem BytesAt.drop {w:World} {b off:Nat} {l:Bs} (h:BytesAt w b off l) (k:Nat):BytesAt w b (off + k) (l.drop k):=fun j hj=>by
 have:=h (k + j) (by simp at hj;omega)
 rw [Nat.add_assoc,this]
 simp [List.getD_eq_getElem?_getD,List.getElem?_drop]
theorem shp_small (c:Nat) (h:c < 256):(shp c).m≤4∧(shp c).lo < 256∧(shp c).hi < 256∧0≤(shp c).r∧((shp c).m = 1∧(shp c).r < 128∨(shp c).r < 32):=by
 have hall:∀ c:Fin 256,(shp c.1).m≤4∧(shp c.1).lo < 256∧(shp c.1).hi < 256∧0≤(shp c.1).r∧((shp c.1).m = 1∧(shp c.1).r < 128∨(shp c.1).r < 32):=by decide +kernel
 exact hall ⟨c,h⟩
def NextEnd (R:Int × Nat × Bool) (w:World) (e:Ending) (w':World):Prop:=e = .returned (.tuple #[.int .i32 R.1,.int .i64 R.2.1,.bool R.2.2])∧Below w.heap.size w w'
def NS (w:World) (b off p:Nat) (l:Bs) (s:Shp) (W:World):Prop:=ShpAt W p s∧BytesAt W b off l∧Below w.heap.size w W
theorem NS.drew {w:World} {b off p:Nat} {l:Bs} {s:Shp} {W:World} (h:NS w b off p l s W) (_hb:b < w.heap.size):NS w b off p l s W.drew:=⟨h.1,h.2.1,h.2.2.drew⟩
theorem wnext (b off cap:Nat) (l:Bs) (hl:l.length≤cap) (hl2:l.length≤4611686018427387904) (hl0:l≠[]) (w:World) (hb:b < w.heap.size) (h:BytesAt w b off l) :
  Calls Tryz.prog 197 #[.slice (some ⟨b,off,none⟩) l.length cap] w (NextEnd (nxt l) w):=by
 obtain ⟨c,t,rfl⟩:=List.exists_cons_of_ne_nil hl0
 have HC:=hid h
 have c0:w.cell? ⟨b,off,none⟩ = some (.int .u8 c.toNat):=h 0 (by simp)
 have hcc:c.toNat < 256:=c.toNat_lt
 obtain ⟨R,hR⟩:∃ R,R = nxt (c :: t):=⟨_,rfl⟩
 have HR:=hid hR
 rw [←hR]
 clear hR h
 have HSH:=hid (fun W=>wshape c.toNat hcc W)
 have HSM:=hid (shp_small c.toNat hcc)
 have HRR:=hid (show nxt (c :: t) = if (shp c.toNat).m = 0 then (65533,1,false) else nxtT (shp c.toNat).m (tl ((shp c.toNat).m - 1) (shp c.toNat).lo (shp c.toNat).hi t (shp c.toNat).r) from rfl)
 have HRQ:=hid (HR.out.trans HRR.out)
 clear HR HRR
 obtain ⟨s,hs⟩:∃ s,s = shp c.toNat:=⟨_,rfl⟩
 rw [←hs] at HSH HSM HRQ
 clear hs
 obtain ⟨n,hn⟩:∃ n,n = (c :: t).length:=⟨_,rfl⟩
 have hn1:0 < n:=by rw [hn];simp
 have HN:=hid hn
 rw [←hn] at hl hl2 ⊢
 clear hn hl0
 obtain ⟨C,hC⟩:∃ C,C = c.toNat:=⟨_,rfl⟩
 rw [←hC] at c0 HSH hcc
 clear hC
 obtain ⟨m,lo,hi,r⟩:=s
 unfold Shp.v Shp.cells at HSH
 simp only [] at HSH HSM HRQ
 have k0:(0:Int) < (n:Int):=by omega
 have k1:((n:Int) == 0) = false:=by rw [beq_eq_false_iff_ne];omega
 go_enter Tryz.func197,Tryz.ntmps197
 go_wp2_with (first | (go_at_call 203;fail))
 go_at_call 203
 refine (HSH.out _).mono ?_
 rintro e w1 ⟨rfl,hb1⟩
 have H2:Hid (ShpAt (w1.alloc (.cells #[.int .i64 m,.int .u8 lo,.int .u8 hi,.int .i32 r] 235)) w1.heap.size ⟨m,lo,hi,r⟩∧BytesAt (w1.alloc (.cells #[.int .i64 m,.int .u8 lo,.int .u8 hi,.int .i32 r] 235)) b off (c :: t)∧Below w.heap.size w (w1.alloc (.cells #[.int .i64 m,.int .u8 lo,.int .u8 hi,.int .i32 r] 235))):=by
  have hbb:=hb1.alloc hb1.size (.cells #[.int .i64 m,.int .u8 lo,.int .u8 hi,.int .i32 r] 235)
  exact hid ⟨heap_alloc_new _ _,HC.out.kept hb hbb,hbb⟩
 clear hb1 HSH c0
 go_upto_region 4 with (fail)
 generalize w1.alloc (.cells #[.int .i64 m,.int .u8 lo,.int .u8 hi,.int .i32 r] 235) = w2 at H2 ⊢
 obtain ⟨p,hp⟩:∃ p,p = w1.heap.size:=⟨_,rfl⟩
 rw [←hp] at H2 ⊢
 clear hp
 obtain ⟨c0,c1,c2,c3⟩:=H2.out.1.get
 simp only [] at c0 c1 c2 c3
 by_cases hm:m = 0
 ·subst hm
  have HV:Hid (R = (65533,1,false)):=hid HRQ.out
  clear HRQ
  go_wp2
  go_ret3
  rw [HV.out]
  exact ⟨rfl,H2.out.2.2⟩
 ·have HV:Hid (R = nxtT m (tl (m - 1) lo hi t r)):=hid (by have:=HRQ.out;rwa [if_neg hm] at this)
  clear HRQ
  have hm4:=HSM.out.1
  have mb:((m:Int) == 0) = false:=by rw [beq_eq_false_iff_ne];omega
  go_wp2
  go_loopw [2,6] (fun vr vi wr=>∃ (i:Nat) (q:Int),vi = .int .i64 i∧vr = .int .i32 q∧1≤i∧i≤m∧i≤n∧0≤q∧(i = 1→m≠1→q < 32)∧(i = 2→q < 2048)∧(i = 3→q < 131072)∧(i = 4→q < 8388608)∧Hid (nxtT m (tl (m - i) (if i = 1 then lo else 128) (if i = 1 then hi else 191) ((c :: t).drop i) q) = R∧NS w b off p (c :: t) ⟨m,lo,hi,r⟩ wr)) (fun _ vi _=>4 - (intOf vi).toNat)
  case atStart=>exact ⟨1,r,rfl,rfl,by omega,by omega,by omega,HSM.out.2.2.2.1,fun _ h=>(by have:=HSM.out.2.2.2.2;omega),by omega,by omega,by omega,hid ⟨HV.out.symm,H2.out⟩⟩
  case round=>
   clear HV H2
   obtain ⟨i,q,rfl,rfl,h1i,him,hin,h0q,hq1,hq2,hq3,hq4,HTW⟩:=hrel
   have HT:=hid HTW.out.1
   have HW:=hid HTW.out.2
   clear HTW c0 c1 c2 c3
   obtain ⟨c0,c1,c2,c3⟩:=HW.out.1.get
   simp only [] at c0 c1 c2 c3
   by_cases hi':i < m
   ·by_cases hin2:i < n
    ·have hit:i < (c :: t).length:=by have:=HN.out;omega
     have hdr:(c :: t).drop i = ((c :: t).getD i 0) :: (c :: t).drop (i + 1):=by
      rw [List.drop_eq_getElem_cons hit,List.getD_eq_getElem?_getD,List.getElem?_eq_getElem hit];rfl
     have cx:=HW.out.2.1 i hit
     have ht:=HT.out
     rw [hdr,show m - i = (m - i - 1) + 1 by omega] at ht
     obtain ⟨x,hxx⟩:∃ x,x = (c :: t).getD i 0:=⟨_,rfl⟩
     rw [←hxx] at cx ht
     have hX:x.toNat < 256:=x.toNat_lt
     unfold tl at ht
     obtain ⟨X,hXX⟩:∃ X,X = x.toNat:=⟨_,rfl⟩
     rw [←hXX] at cx ht hX
     clear hXX hxx hdr hit HT
     have HT:=hid ht
     clear ht
     have j0:(0:Int)≤(i:Int):=by omega
     have j1:(i:Int) < (n:Int):=by omega
     have hq8:q < 131072:=by
      have h4:i = 1∨i = 2∨i = 3:=by omega
      rcases h4 with h | h | h
      ·have:=hq1 h (by omega);omega
      ·have:=hq2 h;omega
      ·exact hq3 h
     by_cases h1:i = 1
     ·have b1:((i:Int) == 1) = true:=by rw [beq_iff_eq];omega
      simp only [if_pos h1] at HT
      have HWD:Hid (NS w b off p (c :: t) ⟨m,lo,hi,r⟩ wr.drew):=hid (HW.out.drew hb)
      have cx2:wr.drew.cell? ⟨b,off + 1,none⟩ = some (.int .u8 X):=by have:=cx;rw [h1] at this;exact this
      go_upto_region 14 with (fail)
      go_region
      all_goals
       by_cases hx:X < lo∨hi < X
       ·have HV:Hid (R = (65533,1,false)):=hid (by have:=HT.out;rw [if_pos hx] at this;exact this.symm)
        clear HT
        by_cases hx1:X < lo
        ·go_wp2
         go_ret3
         rw [HV.out]
         exact ⟨rfl,HWD.out.2.2⟩
        ·have hx2:hi < X:=by omega
         go_wp2
         go_ret3
         rw [HV.out]
         exact ⟨rfl,HWD.out.2.2⟩
       ·have HV:Hid (nxtT m (tl (m - (i + 1)) 128 191 ((c :: t).drop (i + 1)) (q * 64 + (X % 64:Nat))) = R):=hid (by have:=HT.out;rw [if_neg hx] at this;rw [show m - (i + 1) = m - i - 1 by omega];exact this)
        have hx1:¬ X < lo:=by omega
        have hx2:¬ hi < X:=by omega
        clear HT hx
        go_wp2
        go_roundw
        case rel=>exact ⟨i + 1,q * 64 + (X % 64:Nat),by go_num,by go_num,by omega,by omega,by omega,by omega,by omega,by omega,by omega,by omega,hid ⟨(by rw [if_neg (show ¬ i + 1 = 1 by omega),if_neg (show ¬ i + 1 = 1 by omega)];exact HV.out),HWD.out⟩⟩
        case measure=>simp [intOf];omega
     ·have b1:((i:Int) == 1) = false:=by rw [beq_eq_false_iff_ne];omega
      simp only [if_neg h1] at HT
      by_cases hx:X < 128∨191 < X
      ·have HV:Hid (R = (65533,1,false)):=hid (by have:=HT.out;rw [if_pos hx] at this;exact this.symm)
       clear HT
       by_cases hx1:X < 128
       ·go_wp2
        go_ret3
        rw [HV.out]
        exact ⟨rfl,HW.out.2.2⟩
       ·have hx2:191 < X:=by omega
        go_wp2
        go_ret3
        rw [HV.out]
        exact ⟨rfl,HW.out.2.2⟩
      ·have HV:Hid (nxtT m (tl (m - (i + 1)) 128 191 ((c :: t).drop (i + 1)) (q * 64 + (X % 64:Nat))) = R):=hid (by have:=HT.out;rw [if_neg hx] at this;rw [show m - (i + 1) = m - i - 1 by omega];exact this)
       have hx1:¬ X < 128:=by omega
       have hx2:¬ 191 < X:=by omega
       clear HT hx
       go_wp2
       go_roundw
       case rel=>exact ⟨i + 1,q * 64 + (X % 64:Nat),by go_num,by go_num,by omega,by omega,by omega,by omega,by omega,by omega,by omega,by omega,hid ⟨(by rw [if_neg (show ¬ i + 1 = 1 by omega),if_neg (show ¬ i + 1 = 1 by omega)];exact HV.out),HW.out⟩⟩
       case measure=>simp [intOf];omega
    ·have hni:i = n:=by omega
     have hdr:(c :: t).drop i = []:=List.drop_eq_nil_of_le (by have:=HN.out;omega)
     have HV:Hid (R = (0,0,true)):=hid (by
      have:=HT.out
      rw [hdr,show m - i = (m - i - 1) + 1 by omega] at this
      exact this.symm)
     clear HT hdr
     go_wp2
     go_ret3
     rw [HV.out]
     exact ⟨rfl,HW.out.2.2⟩
   ·obtain rfl:i = m:=by omega
    have HV:Hid (R = (q,i,false)):=hid (by
     have:=HT.out
     rw [Nat.sub_self] at this
     exact this.symm)
    clear HT
    go_upto_region 18 with (fail)
    go_region
    all_goals
     go_wp2
     go_ret3
     rw [HV.out]
     exact ⟨rfl,HW.out.2.2.drew⟩
def stp (b:Bs):Int × Nat:=if (nxt b).2.2 = true then (65533,1) else ((nxt b).1,(nxt b).2.1)
theorem wstep (b off cap:Nat) (l:Bs) (hl:l.length≤cap) (hl2:l.length≤4611686018427387904) (hl0:l≠[]) (w:World) (hb:b < w.heap.size) (h:BytesAt w b off l) :
  Calls Tryz.prog 184 #[.slice (some ⟨b,off,none⟩) l.length cap] w fun e w'=>e = .returned (.tuple #[.int .i32 (stp l).1,.int .i64 (stp l).2])∧Below w.heap.size w w':=by
 have HN:=hid (wnext b off cap l hl hl2 hl0 w hb h)
 unfold NextEnd at HN
 have HS:=hid (show stp l = if (nxt l).2.2 = true then (65533,1) else ((nxt l).1,(nxt l).2.1) from rfl)
 obtain ⟨⟨r,n,m⟩,hR⟩:∃ R,R = nxt l:=⟨_,rfl⟩
 rw [←hR] at HN HS
 obtain ⟨S,hSS⟩:∃ S,S = stp l:=⟨_,rfl⟩
 rw [←hSS] at HS ⊢
 clear hR hSS h
 simp only [] at HN HS
 go_enter Tryz.func184,Tryz.ntmps184
 go_wp2_with (first | (go_at_call 197;fail))
 go_at_call 197
 refine HN.out.mono ?_
 rintro e w1 ⟨rfl,hb1⟩
 cases m
 ·have HV:Hid (S = (r,n)):=hid (by simpa using HS.out)
  clear HS
  go_wp2
  go_ret2
  rw [HV.out]
  exact ⟨rfl,hb1⟩
 ·have HV:Hid (S = (65533,1)):=hid (by simpa using HS.out)
  clear HS
  go_wp2
  go_ret2
  rw [HV.out]
  exact ⟨rfl,hb1⟩
def isR (r:Int):Bool:=decide (0≤r∧r≤1114111∧(r < 55296∨57343 < r))
def ctl (r:Int):Bool:=decide (0≤r∧r≤31∨127≤r∧r≤159)
theorem wisR (r:Int) (w:World):Calls Tryz.prog 186 #[.int .i32 r] w fun e w'=>e = .returned (.bool (isR r))∧w = w':=by
 by_cases h1:0≤r
 ·by_cases h2:r≤1114111
  ·by_cases h3:r < 55296
   ·have HV:=hid (show isR r = true by unfold isR;rw [decide_eq_true_iff];omega)
    go_enter Tryz.func186,Tryz.ntmps186
    go_wp2
    go_ret
    exact ⟨ret_bool HV.out.symm,rfl⟩
   ·have HV:=hid (show isR r = decide (57343 < r) by unfold isR;rw [decide_eq_decide];omega)
    go_enter Tryz.func186,Tryz.ntmps186
    go_wp2
    go_ret
    exact ⟨ret_bool HV.out.symm,rfl⟩
  ·have HV:=hid (show isR r = false by unfold isR;rw [decide_eq_false_iff_not];omega)
   go_enter Tryz.func186,Tryz.ntmps186
   go_wp2
   go_ret
   exact ⟨ret_bool HV.out.symm,rfl⟩
 ·have HV:=hid (show isR r = false by unfold isR;rw [decide_eq_false_iff_not];omega)
  go_enter Tryz.func186,Tryz.ntmps186
  go_wp2
  go_ret
  exact ⟨ret_bool HV.out.symm,rfl⟩
theorem wis (r:Int) (w:World):Calls Tryz.prog 198 #[.int .i32 r] w fun e w'=>e = .returned (.bool (isR r))∧w = w':=by
 by_cases h1:0≤r
 ·by_cases h2:r≤1114111
  ·by_cases h3:r < 55296
   ·have HV:=hid (show isR r = true by unfold isR;rw [decide_eq_true_iff];omega)
    go_enter Tryz.func198,Tryz.ntmps198
    go_wp2
    go_ret
    exact ⟨ret_bool HV.out.symm,rfl⟩
   ·have HV:=hid (show isR r = decide (57343 < r) by unfold isR;rw [decide_eq_decide];omega)
    go_enter Tryz.func198,Tryz.ntmps198
    go_wp2
    go_ret
    exact ⟨ret_bool HV.out.symm,rfl⟩
  ·have HV:=hid (show isR r = false by unfold isR;rw [decide_eq_false_iff_not];omega)
   go_enter Tryz.func198,Tryz.ntmps198
   go_wp2
   go_ret
   exact ⟨ret_bool HV.out.symm,rfl⟩
 ·have HV:=hid (show isR r = false by unfold isR;rw [decide_eq_false_iff_not];omega)
  go_enter Tryz.func198,Tryz.ntmps198
  go_wp2
  go_ret
  exact ⟨ret_bool HV.out.symm,rfl⟩
theorem wctl (r:Int) (w:World):Calls Tryz.prog 123 #[.int .i32 r] w fun e w'=>e = .returned (.bool (ctl r))∧w = w':=by
 by_cases h1:0≤r
 ·by_cases h2:r≤31
  ·have HV:=hid (show ctl r = true by unfold ctl;rw [decide_eq_true_iff];omega)
   go_enter Tryz.func123,Tryz.ntmps123
   go_wp2
   go_ret
   exact ⟨ret_bool HV.out.symm,rfl⟩
  ·by_cases h3:127≤r
   ·have HV:=hid (show ctl r = decide (r≤159) by unfold ctl;rw [decide_eq_decide];omega)
    go_enter Tryz.func123,Tryz.ntmps123
    go_wp2
    go_ret
    exact ⟨ret_bool HV.out.symm,rfl⟩
   ·have HV:=hid (show ctl r = false by unfold ctl;rw [decide_eq_false_iff_not];omega)
    go_enter Tryz.func123,Tryz.ntmps123
    go_wp2
    go_ret
    exact ⟨ret_bool HV.out.symm,rfl⟩
 ·have HV:=hid (show ctl r = false by unfold ctl;rw [decide_eq_false_iff_not];omega)
  have h3:¬ 127≤r:=by omega
  go_enter Tryz.func123,Tryz.ntmps123
  go_wp2
  go_ret
  exact ⟨ret_bool HV.out.symm,rfl⟩
def by8 (x:Int):UInt8:=UInt8.ofNat x.toNat
def rb0 (r:Int):Bs:=if r < 128 then [by8 r] else if r < 2048 then [by8 (192 + r / 64),by8 (128 + r % 64)] else if r < 65536 then [by8 (224 + r / 4096),by8 (128 + r / 64 % 64),by8 (128 + r % 64)]
 else [by8 (240 + r / 262144),by8 (128 + r / 4096 % 64),by8 (128 + r / 64 % 64),by8 (128 + r % 64)]
def rb (r:Int):Bs:=rb0 (if isR r = true then r else 65533)
theorem wsix0 (r:Int) (w:World):Calls Tryz.prog 187 #[.int .i32 r,.int .u64 0] w fun e w'=>e = .returned (.int .u8 (128 + r % 64))∧w = w':=by
 have:=wsix r 0 (by omega) w
 simpa using this
theorem wsix6 (r:Int) (w:World):Calls Tryz.prog 187 #[.int .i32 r,.int .u64 6] w fun e w'=>e = .returned (.int .u8 (128 + r / 64 % 64))∧w = w':=wsix r 6 (by omega) w
theorem wsix12 (r:Int) (w:World):Calls Tryz.prog 187 #[.int .i32 r,.int .u64 12] w fun e w'=>e = .returned (.int .u8 (128 + r / 4096 % 64))∧w = w':=wsix r 12 (by omega) w
theorem by8_v (x:Int) (h:0≤x) (h2:x < 256):Value.int .u8 x = .int .u8 (by8 x).toNat:=by
 unfold by8
 have:(UInt8.ofNat x.toNat).toNat = x.toNat:=by rw [UInt8.toNat_ofNat'];omega
 rw [this]
 congr 1
 omega
def BytesEnd (l:Bs) (w:World) (e:Ending) (w':World):Prop:=∃ g,e = .returned (.slice (some ⟨g,0,none⟩) l.length l.length)∧w'.heap[g]? = some (.cells (Lib.byteCells l).toArray 5 (0,0))∧w.heap.size≤g∧Below w.heap.size w w'
theorem wbytes (r:Int) (w:World):Calls Tryz.prog 167 #[.int .i32 r] w (BytesEnd (rb r) w):=by
 have HI:=hid (wisR r)
 have HR:=hid (show rb r = rb0 (if isR r = true then r else 65533) from rfl)
 obtain ⟨I,hI⟩:∃ I,I = isR r:=⟨_,rfl⟩
 have HQ:=hid (show I = true→0≤r∧r≤1114111 from fun h=>by rw [hI] at h;unfold isR at h;rw [decide_eq_true_iff] at h;omega)
 obtain ⟨L,hL⟩:∃ L,L = rb r:=⟨_,rfl⟩
 rw [←hI] at HI HR
 rw [←hL] at HR ⊢
 clear hI hL
 cases I
 ·have HV:Hid (L = [239,191,189]):=hid (HR.out.trans (by rw [if_neg (by decide)];decide))
  go_enter Tryz.func167,Tryz.ntmps167
  go_wp2_with (first | (go_at_call 186;(with_reducible refine (HI.out _).mono ?_);rintro e w' ⟨rfl,rfl⟩) | (go_at_call 187;(first | (with_reducible refine (wsix0 65533 _).mono ?_) | (with_reducible refine (wsix6 65533 _).mono ?_));rintro e w' ⟨rfl,rfl⟩))
  go_ret
  rw [HV.out]
  exact ⟨w.heap.size,rfl,heap_alloc_new _ _,Nat.le_refl _,(Below.refl _ _).alloc (Nat.le_refl _) _⟩
 ·obtain ⟨h0,hm⟩:=HQ.out rfl
  have hr:=HR.out
  rw [if_pos rfl] at hr
  clear HR HQ
  by_cases h1:r < 128
  ·have HV:Hid (L = [by8 r]):=hid (hr.trans (by unfold rb0;rw [if_pos h1]))
   have HE:Hid ((Lib.byteCells [by8 r]).toArray = #[.int .u8 (r)]):=hid (by
    simp only [Lib.byteCells,List.map]
    rw [←by8_v (r) (by omega) (by omega)])
   clear hr
   go_enter Tryz.func167,Tryz.ntmps167
   go_wp2_with (first | (go_at_call 186;(with_reducible refine (HI.out _).mono ?_);rintro e w' ⟨rfl,rfl⟩) | (go_at_call 187;(first | (with_reducible refine (wsix0 r _).mono ?_) | (with_reducible refine (wsix6 r _).mono ?_) | (with_reducible refine (wsix12 r _).mono ?_));rintro e w' ⟨rfl,rfl⟩))
   go_ret
   rw [HV.out]
   exact ⟨w.heap.size,rfl,(by rw [HE.out];exact heap_alloc_new _ _),Nat.le_refl _,(Below.refl _ _).alloc (Nat.le_refl _) _⟩
  ·skip
   by_cases h2:r < 2048
   ·have HV:Hid (L = [by8 (192 + r / 64),by8 (128 + r % 64)]):=hid (hr.trans (by unfold rb0;rw [if_neg h1,if_pos h2]))
    have HE:Hid ((Lib.byteCells [by8 (192 + r / 64),by8 (128 + r % 64)]).toArray = #[.int .u8 (192 + r / 64),.int .u8 (128 + r % 64)]):=hid (by
     simp only [Lib.byteCells,List.map]
     rw [←by8_v (192 + r / 64) (by omega) (by omega)]
     rw [←by8_v (128 + r % 64) (by omega) (by omega)])
    clear hr
    go_enter Tryz.func167,Tryz.ntmps167
    go_wp2_with (first | (go_at_call 186;(with_reducible refine (HI.out _).mono ?_);rintro e w' ⟨rfl,rfl⟩) | (go_at_call 187;(first | (with_reducible refine (wsix0 r _).mono ?_) | (with_reducible refine (wsix6 r _).mono ?_) | (with_reducible refine (wsix12 r _).mono ?_));rintro e w' ⟨rfl,rfl⟩))
    go_ret
    rw [HV.out]
    exact ⟨w.heap.size,rfl,(by rw [HE.out];exact heap_alloc_new _ _),Nat.le_refl _,(Below.refl _ _).alloc (Nat.le_refl _) _⟩
   ·skip
    by_cases h3:r < 65536
    ·have HV:Hid (L = [by8 (224 + r / 4096),by8 (128 + r / 64 % 64),by8 (128 + r % 64)]):=hid (hr.trans (by unfold rb0;rw [if_neg h1,if_neg h2,if_pos h3]))
     have HE:Hid ((Lib.byteCells [by8 (224 + r / 4096),by8 (128 + r / 64 % 64),by8 (128 + r % 64)]).toArray = #[.int .u8 (224 + r / 4096),.int .u8 (128 + r / 64 % 64),.int .u8 (128 + r % 64)]):=hid (by
      simp only [Lib.byteCells,List.map]
      rw [←by8_v (224 + r / 4096) (by omega) (by omega)]
      rw [←by8_v (128 + r / 64 % 64) (by omega) (by omega)]
      rw [←by8_v (128 + r % 64) (by omega) (by omega)])
     clear hr
     go_enter Tryz.func167,Tryz.ntmps167
     go_wp2_with (first | (go_at_call 186;(with_reducible refine (HI.out _).mono ?_);rintro e w' ⟨rfl,rfl⟩) | (go_at_call 187;(first | (with_reducible refine (wsix0 r _).mono ?_) | (with_reducible refine (wsix6 r _).mono ?_) | (with_reducible refine (wsix12 r _).mono ?_));rintro e w' ⟨rfl,rfl⟩))
     go_ret
     rw [HV.out]
     exact ⟨w.heap.size,rfl,(by rw [HE.out];exact heap_alloc_new _ _),Nat.le_refl _,(Below.refl _ _).alloc (Nat.le_refl _) _⟩
    ·have HV:Hid (L = [by8 (240 + r / 262144),by8 (128 + r / 4096 % 64),by8 (128 + r / 64 % 64),by8 (128 + r % 64)]):=hid (hr.trans (by unfold rb0;rw [if_neg h1,if_neg h2,if_neg h3]))
     have HE:Hid ((Lib.byteCells [by8 (240 + r / 262144),by8 (128 + r / 4096 % 64),by8 (128 + r / 64 % 64),by8 (128 + r % 64)]).toArray = #[.int .u8 (240 + r / 262144),.int .u8 (128 + r / 4096 % 64),.int .u8 (128 + r / 64 % 64),.int .u8 (128 + r % 64)]):=hid (by
      simp only [Lib.byteCells,List.map]
      rw [←by8_v (240 + r / 262144) (by omega) (by omega)]
      rw [←by8_v (128 + r / 4096 % 64) (by omega) (by omega)]
      rw [←by8_v (128 + r / 64 % 64) (by omega) (by omega)]
      rw [←by8_v (128 + r % 64) (by omega) (by omega)])
     clear hr
     go_enter Tryz.func167,Tryz.ntmps167
     go_wp2_with (first | (go_at_call 186;(with_reducible refine (HI.out _).mono ?_);rintro e w' ⟨rfl,rfl⟩) | (go_at_call 187;(first | (with_reducible refine (wsix0 r _).mono ?_) | (with_reducible refine (wsix6 r _).mono ?_) | (with_reducible refine (wsix12 r _).mono ?_));rintro e w' ⟨rfl,rfl⟩))
     go_ret
     rw [HV.out]
     exact ⟨w.heap.size,rfl,(by rw [HE.out];exact heap_alloc_new _ _),Nat.le_refl _,(Below.refl _ _).alloc (Nat.le_refl _) _⟩
def marksL:List Int:=[768,879,1155,1161,1425,1469,1471,1471,1473,1474,1476,1477,1479,1479,1552,1562,1611,1631,1648,1648,1750,1756,1759,1764,1767,1768,1770,1773,3633,3633,3636,3642,3655,3662,6832,6911,7616,7679,8203,8207,8288,8292,8400,8432,12330,12333,12441,12442,65024,65039,65056,65071,65279,65279,917760,917999]
def widesL:List Int:=[4352,4447,8986,8987,9001,9002,9193,9196,9200,9200,9203,9203,9725,9726,9748,9749,9800,9811,9855,9855,9875,9875,9889,9889,9898,9899,9917,9918,9924,9925,9934,9934,9940,9940,9962,9962,9970,9971,9973,9973,9978,9978,9981,9981,9989,9989,9994,9995,10024,10024,10060,10060,10062,10062,10067,10069,10071,10071,10133,10135,10160,10160,10175,10175,11035,11036,11088,11088,11093,11093,11904,12350,12353,19903,19968,42191,43360,43391,44032,55203,63744,64255,65040,65049,65072,65135,65281,65376,65504,65510,127744,128591,128640,128767,129280,129535,129648,129791,131072,196605,196608,262141]
def i32s (l:List Int):Array Value:=(l.map (Value.int .i32)).toArray
def I32At (w:World) (b:Nat) (l:List Int):Prop:=w.heap[b]? = some (.cells (i32s l) 21 (0,0))
theorem I32At.lt {w:World} {b:Nat} {l:List Int} (h:I32At w b l):b < w.heap.size:=(Array.getElem?_eq_some_iff.1 h).1
theorem I32At.kept {w w':World} {b n:Nat} {l:List Int} (h:I32At w b l) (hb:b < n) (hB:Below n w w'):I32At w' b l:=(hB.block b hb).trans h
theorem I32At.get {w:World} {b:Nat} {l:List Int} (h:I32At w b l) (j:Nat) (hj:j < l.length):w.cell? ⟨b,j,none⟩ = some (.int .i32 (l.getD j 0)):=by
 unfold I32At i32s at h
 have:((l.map (Value.int .i32)).toArray)[j]? = some (.int .i32 (l.getD j 0)):=by
  rw [List.getElem?_toArray,List.getElem?_map,List.getElem?_eq_getElem hj,List.getD_eq_getElem?_getD,List.getElem?_eq_getElem hj];rfl
 simpa [World.cell?,h] using this
theorem wmarks (w:World):Calls Tryz.prog 208 #[] w fun e w'=>e = .returned (.slice (some ⟨w.heap.size,0,none⟩) 56 56)∧w' = w.alloc (.cells (i32s marksL) 21):=by
 go_enter Tryz.func208,Tryz.ntmps208
 go_wp2_with (with_reducible refine wpList_buildFlat rfl 111 21 56 _ rfl .i32 marksL Tryz.underlying111 (by kernel_rfl) (by kernel_rfl) (by kernel_rfl) (by decide) (by decide) (by kernel_rfl) ?_)
 go_ret
 exact ⟨rfl,rfl⟩
theorem wwides (w:World):Calls Tryz.prog 206 #[] w fun e w'=>e = .returned (.slice (some ⟨w.heap.size,0,none⟩) 102 102)∧w' = w.alloc (.cells (i32s widesL) 21):=by
 go_enter Tryz.func206,Tryz.ntmps206
 go_wp2_with (with_reducible refine wpList_buildFlat rfl 111 21 102 _ rfl .i32 widesL Tryz.underlying111 (by kernel_rfl) (by kernel_rfl) (by kernel_rfl) (by decide) (by decide) (by kernel_rfl) ?_)
 go_ret
 exact ⟨rfl,rfl⟩
theorem wpairs (x:Option Addr) (n c:Nat) (w:World):Calls Tryz.prog 205 #[.slice x n c] w fun e w'=>e = .returned (.func (.func 209) #[] #[.pointer (some ⟨w.heap.size,0,none⟩)])∧w' = w.alloc (.cells #[.slice x n c] 111):=by
 go_enter Tryz.func205,Tryz.ntmps205
 go_wp2
 go_ret
 exact ⟨rfl,rfl⟩
def SeqAt (l:List Int) (w:World) (e:Ending) (w':World):Prop:=∃ p q,e = .returned (.func (.func 209) #[] #[.pointer (some ⟨p,0,none⟩)])∧w'.heap[p]? = some (.cells #[.slice (some ⟨q,0,none⟩) l.length l.length] 111 (0,0))∧I32At w' q l∧w.heap.size≤p∧w.heap.size≤q∧Below w.heap.size w w'
theorem wMarks (w:World):Calls Tryz.prog 204 #[] w (SeqAt marksL w):=by
 go_enter Tryz.func204,Tryz.ntmps204
 go_wp2_with (first | (go_at_call 208;(with_reducible refine (wmarks _).mono ?_);rintro e w1 ⟨rfl,rfl⟩) | (go_at_call 205;fail))
 go_at_call 205
 refine (wpairs _ _ _ _).mono ?_
 rintro e w2 ⟨rfl,rfl⟩
 go_wp2
 go_ret
 exact ⟨w.heap.size + 1,w.heap.size,by simp,by rw [show marksL.length = 56 from rfl];simpa using heap_alloc_new (w.alloc (.cells (i32s marksL) 21)) (.cells #[.slice (some ⟨w.heap.size,0,none⟩) 56 56] 111),(heap_alloc_old _ _ (by simp)).trans (heap_alloc_new _ _),by omega,by omega,((Below.refl _ _).alloc (Nat.le_refl _) _).alloc (by simp) _⟩
theorem wWides (w:World):Calls Tryz.prog 201 #[] w (SeqAt widesL w):=by
 go_enter Tryz.func201,Tryz.ntmps201
 go_wp2_with (first | (go_at_call 206;(with_reducible refine (wwides _).mono ?_);rintro e w1 ⟨rfl,rfl⟩) | (go_at_call 205;fail))
 go_at_call 205
 refine (wpairs _ _ _ _).mono ?_
 rintro e w2 ⟨rfl,rfl⟩
 go_wp2
 go_ret
 exact ⟨w.heap.size + 1,w.heap.size,by simp,by rw [show widesL.length = 102 from rfl];simpa using heap_alloc_new (w.alloc (.cells (i32s widesL) 21)) (.cells #[.slice (some ⟨w.heap.size,0,none⟩) 102 102] 111),(heap_alloc_old _ _ (by simp)).trans (heap_alloc_new _ _),by omega,by omega,((Below.refl _ _).alloc (Nat.le_refl _) _).alloc (by simp) _⟩
end Go.Proofs.YtpcbamcelpcigaaGreat
namespace Go.Proofs.YtpcbamcelpcigaaGreat
open Go.RowKit Go.Shelf
attribute [local go_sem] Oper.semAt_some
structure KeepP (p q:Nat) (A B:World):Prop where
 size:A.heap.size≤B.heap.size
 bp:B.heap[p]? = A.heap[p]?
 bq:B.heap[q]? = A.heap[q]?
theorem KeepP.refl (p q:Nat) (A:World):KeepP p q A A:=⟨Nat.le_refl _,rfl,rfl⟩
theorem KeepP.trans {p q:Nat} {A B C:World} (h:KeepP p q A B) (k:KeepP p q B C):KeepP p q A C:=⟨Nat.le_trans h.size k.size,k.bp.trans h.bp,k.bq.trans h.bq⟩
theorem KeepP.drew {p q:Nat} {A B:World} (h:KeepP p q A B):KeepP p q A B.drew:=⟨h.size,h.bp,h.bq⟩
theorem keepP_b {p q:Nat} {w:World} (h1:p < w.heap.size) (h2:q < w.heap.size):∀ (W:World) (l:Nat) (o o':Obj),w.heap.size≤l→W.heap[l]? = some o→o.isCells = false→o.isWalk = false→KeepP p q W (W.putObj l o'):=fun W l o o' hl _ _ _=>
 ⟨by simp,World.putObj_heap_other (by omega),World.putObj_heap_other (by omega)⟩
theorem pairs_in (l p q:Nat) (L:List Int) (hL:L.length≤1000) (W:World) (hp:W.heap[p]? = some (.cells #[.slice (some ⟨q,0,none⟩) L.length L.length] 111 (0,0))) (hq:I32At W q L)
  (J Jx:List Nat→World→Prop) (hA:AbidesFrom W.heap.size J)
  (hY:∀ k W1,J (List.range k) W1→2 * k + 1 < L.length→YieldAt Fence.wide 4 Tryz.prog l #[.int .i32 (L.getD (2 * k) 0),.int .i32 (L.getD (2 * k + 1) 0)] W1 fun e W'=>
   (e = .returned (.bool true)∧J (List.range (k + 1)) W'∧KeepP p q W1 W')∨(e = .returned (.bool false)∧Jx (List.range (k + 1)) W'))
  (hJ0:J [] W) :
  CallsIn Fence.wide 5 Tryz.prog 209 #[.func (.yield l) #[] #[],.pointer (some ⟨p,0,none⟩)] W fun e W'=>(∃ v,e = .returned v)∧
   ((∃ xs,xs = List.range (L.length / 2)∧J xs W')∨(∃ pre,(∃ k,k≤L.length / 2∧0 < k∧pre = List.range k)∧Jx pre W')):=by
 have HY:=hid hY
 have HA:=hid hA
 have HP:=hid hp
 have HQ:=hid hq
 have HLE:=hid hL
 clear hY hA hp hq
 obtain ⟨n,hn⟩:∃ n,n = L.length:=⟨_,rfl⟩
 have HN:=hid hn
 rw [←hn] at HP hL ⊢
 clear hn
 refine callsIn_of_wp Tryz.func209 rfl trivial ?_ rfl
 simp only [Tryz.ntmps209,List.size_toArray,List.length_cons,List.length_nil,Nat.reduceAdd,Nat.reduceSub,Array.replicate_succ,Array.replicate_zero,List.push_toArray,List.append_toArray,List.nil_append,List.cons_append]
 gi_wp2
 gi_loopw [3] (fun i wy=>∃ k:Nat,2 * k≤n∧i = .int .i64 ((2 * k:Nat):Int)∧J (List.range k) wy∧Hid (KeepP p q W wy)) (fun i _=>n + 2 - (intOf i).toNat)
 case atStart=>exact ⟨0,by omega,rfl,hJ0,hid (KeepP.refl _ _ _)⟩
 case round=>
  obtain ⟨k,hk,rfl,hJ2,HK⟩:=hrel
  have cp:wr.cell? ⟨p,0,none⟩ = some (.slice (some ⟨q,0,none⟩) n n):=by
   have:=HK.out.bp.trans HP.out
   simp [World.cell?,this]
  have hI:I32At wr q L:=HK.out.bq.trans HQ.out
  by_cases hlt:2 * k + 1 < n
  ·have c0:=hI.get (2 * k) (by have:=HN.out;omega)
   have c1:=hI.get (2 * k + 1) (by have:=HN.out;omega)
   have hJd:J (List.range k) wr.drew:=HA.out _ wr wr.drew none hJ2 ⟨rfl,rfl,rfl,Nat.le_refl _,fun _ _ _=>rfl⟩ (fun r e=>by cases e)
   have hy:=HY.out k wr.drew hJd (by have:=HN.out;omega)
   obtain ⟨A,hAA⟩:∃ A,A = L.getD (2 * k) 0:=⟨_,rfl⟩
   obtain ⟨B,hBB⟩:∃ A,A = L.getD (2 * k + 1) 0:=⟨_,rfl⟩
   rw [←hAA] at c0
   rw [←hBB] at c1
   rw [←hAA,←hBB] at hy
   obtain ⟨fn,tmps,assign,body,hy,hR⟩:=hy
   have HRR:=hid (hR.mono (fun e W' (h:(e = .returned (.bool true)∧J (List.range (k + 1)) W'∧KeepP p q wr.drew W')∨(e = .returned (.bool false)∧Jx (List.range (k + 1)) W'))=>(show ∃ b,e = .returned (.bool b)∧(b = true→J (List.range (k + 1)) W'∧KeepP p q wr.drew W')∧(b = false→Jx (List.range (k + 1)) W') from by
    rcases h with ⟨h1,h2⟩ | ⟨h1,h2⟩
    ·exact ⟨true,h1,fun _=>h2,fun h=>by cases h⟩
    ·exact ⟨false,h1,fun h=>(by cases h),fun _=>h2⟩)))
   obtain ⟨i,hi⟩:∃ i,i = 2 * k:=⟨_,rfl⟩
   rw [←hi] at c0 c1 hlt ⊢
   have HII:=hid hi
   clear hi
   have i1:(0:Int)≤(i:Int):=by omega
   have i2:(i:Int) + 1 < (n:Int):=by omega
   have i3:(i:Int) < (n:Int):=by omega
   have i4:(0:Int)≤(i:Int) + 1:=by omega
   have i5:IntKind.i64.wrap ((i:Int) + 1) = (i:Int) + 1:=by rw [IntKind.wrap_i64];omega
   clear hR hI hAA hBB
   gi_upto_region 3 with (fail)
   gi_region_with (refine HRR.out.mono ?_;rintro e W3 ⟨bb,rfl,hJ3,hJx3⟩)
   all_goals
    cases bb
    ·gi_wp2
     refine bodyPost_ret (results_none rfl _ _ _) rfl ?_
     exact ⟨⟨_,rfl⟩,.inr ⟨_,⟨k + 1,by have:=HII.out;omega,by omega,rfl⟩,(by first | exact hJx3 rfl | exact hJx3 trivial)⟩⟩
    ·gi_wp2
     go_roundw
     case rel=>exact ⟨k + 1,by have:=HII.out;omega,by have:=HII.out;go_num,(by first | exact (hJ3 rfl).1 | exact (hJ3 trivial).1),hid ((HK.out.drew).trans (by first | exact (hJ3 rfl).2 | exact (hJ3 trivial).2))⟩
     case measure=>have:=HII.out;simp [intOf];omega
  ·have HE:=hid (show k = n / 2 by omega)
   obtain ⟨i,hi⟩:∃ i,i = 2 * k:=⟨_,rfl⟩
   rw [←hi]
   have i2:¬ (i:Int) + 1 < (n:Int):=by omega
   have i3:i≤n:=by omega
   clear hi hI
   gi_wp2
   go_end0
   exact ⟨⟨_,rfl⟩,.inl (by rw [←HE.out];exact hJ2)⟩
end Go.Proofs.YtpcbamcelpcigaaGreat
