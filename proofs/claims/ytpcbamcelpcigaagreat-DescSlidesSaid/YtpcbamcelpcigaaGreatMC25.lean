/- Own texts, merged. -/
import Derived.WalkKit
import Derived.Test.YtpcbamcelpcigaaGreatRows
import Derived.Deep.Slices
import Derived.SliceStrings
import Derived.ChangeSlices
import Derived.ChangeArms
import Derived.WideShapes
import Derived.RowKit
import Derived.OrdersHeld
import Derived.StillTail
import Derived.RegionTactic
import Derived.Test.YtpcbamcelpcigaaGreatMC24
import Derived.Test.YtpcbamcelpcigaaGreatMC00
set_option maxRecDepth 100000
set_option maxHeartbeats 32000000
open Go.Lib (hid)
namespace Go.Proofs.YtpcbamcelpcigaaGreat
open Go.RowKit Go.Shelf Go.ChangeShapes Go.WideShapes Go.Deep
theorem txE_of (s:ByteArray):tx s.data.toList = s:=by simp [tx]
structure TxA (w:World) (x:Option Addr) (c:Nat) (L:List Bs):Prop where
 cap:L.length≤c
 max:c≤9223372036854775807
 cells:L≠[]→∃ g o,x = some ⟨g,o,none⟩∧g < w.heap.size∧∀ i,i < L.length→w.cell? ⟨g,o + i,none⟩ = some (.string (tx (L.getD i [])))
section
variable {H:Type} {enc:TypeId × Value→H} {w:World} {base:Nat} {spare:Nat→Bool} {held:Bool}
theorem trod_floatE {t : TypeId} {fuel : Nat} {cs : List Value} {x : DataW H × List MemPlace} {k : FloatKind} {P : Program} (ht : P.underlying t = some (.float k)) (h : DataW.trod enc P w base spare held fuel t cs = some x) : ∃ n, cs = [.float k n] ∧ x = (.lit (.float k n), []) ∧ (Lit.float k n).wf = true := by
  cases fuel with
  | zero => simp [DataW.trod] at h
  | succ n =>
    unfold DataW.trod at h
    rw [ht] at h
    split at h <;> simp_all
theorem strs_of_trod {fuel:Nat} {cs:List Value} {x:DataW H × List MemPlace} (h:DataW.trod enc Tryz.prog w base spare held fuel 23 cs = some x):∃ a c L,cs = [.slice a L.length c]∧TxA w a c L:=by
 rcases open_strings Tryz.underlying23 Tryz.underlying9 (by kernel_rfl) h with ⟨hcs,_⟩ | ⟨a',len,cap',ss,hcs,_,hl,hm,hz,_,hcell,_⟩
 ·exact ⟨none,0,[],hcs,Nat.le_refl _,by omega,fun h=>absurd rfl h⟩
 ·have hls:len≤ss.length:=by rw [hz];split <;> omega
  have hlen:((ss.take len).map (·.data.toList)).length = len:=by rw [List.length_map,List.length_take];omega
  refine ⟨some a',cap',(ss.take len).map (·.data.toList),by rw [hlen];exact hcs,by rw [hlen];exact hl,by unfold maxLen at hm;omega,fun hp=>?_⟩
  have hp':0 < len:=by rw [←hlen];exact List.length_pos_iff.2 hp
  obtain ⟨b,off,spot⟩:=a'
  have h0:=hcell 0 (by omega)
  have hs:=World.cell?_spot h0
  have hsp:spot = none:=by simpa [Addr.add] using hs
  subst hsp
  refine ⟨b,off,rfl,World.block_lt_of_cell? w _ h0,fun i hi=>?_⟩
  rw [hlen] at hi
  have h1:=hcell i (by omega)
  rw [add_plain] at h1
  rw [h1,List.getD_eq_getElem?_getD,List.getD_eq_getElem?_getD,List.getElem?_map,List.getElem?_take_of_lt hi,List.getElem?_eq_getElem (by omega)]
  simp [txE_of]
theorem ints_of_trod {fuel:Nat} {cs:List Value} {x:DataW H × List MemPlace} (h:DataW.trod enc Tryz.prog w base spare held fuel 38 cs = some x):∃ a c L,cs = [.slice a L.length c]∧IntV w (.slice a L.length c) L∧c≤9223372036854775807:=by
 rcases open_ints Tryz.underlying38 Tryz.underlying3 (by kernel_rfl) h with ⟨hcs,_⟩ | ⟨a',len,cap',zs,hcs,_,hl,hm,hz,_,hcell,_⟩
 ·exact ⟨none,0,[],hcs,IntV.nil w,by omega⟩
 ·have hls:len≤zs.length:=by rw [hz];split <;> omega
  have hlen:(zs.take len).length = len:=by rw [List.length_take];omega
  refine ⟨some a',cap',zs.take len,by rw [hlen];exact hcs,⟨_,_,rfl,by rw [hlen];exact hl,fun hp=>?_⟩,by unfold maxLen at hm;omega⟩
  have hp':0 < len:=by rw [←hlen];exact List.length_pos_iff.2 hp
  obtain ⟨b,off,spot⟩:=a'
  have h0:=hcell 0 (by omega)
  have hs:=World.cell?_spot h0
  have hsp:spot = none:=by simpa [Addr.add] using hs
  subst hsp
  refine ⟨b,off,rfl,World.block_lt_of_cell? w _ h0,fun i hi=>?_⟩
  rw [hlen] at hi
  have h1:=hcell i (by omega)
  rw [add_plain] at h1
  rw [h1,List.getD_eq_getElem?_getD,List.getD_eq_getElem?_getD,List.getElem?_take_of_lt hi]
theorem value_of_trod {fuel : Nat} {cs : List Value} {x : DataW H × List MemPlace} (h : DataW.trod enc Tryz.prog w base spare held fuel 40 cs = some x) :
    ∃ (v : Vle) (a : Option Addr) (c : Nat), cs = [.string (tx v.s), .int .i64 v.n, .bool v.b, .slice a v.l.length c, .float .f64 v.f] ∧ IntV w (.slice a v.l.length c) v.l ∧ c ≤ 9223372036854775807 ∧ v.f < 18446744073709551616 := by
  obtain ⟨xs, n, _, _, hl, hn, hf⟩ := DataW.trod_struct Tryz.underlying40 h
  have hc : Tryz.prog.cellsOf 40 = 5 := by kernel_rfl
  rw [hc] at hl
  match cs, hl with
  | [v0, v1, v2, v3, v4], _ =>
    have h0 := hf 0 _ rfl
    have h1 := hf 1 _ rfl
    have h2 := hf 2 _ rfl
    have h3 := hf 3 _ rfl
    have h4 := hf 4 _ rfl
    simp only [List.size_toArray, List.length_cons, List.length_nil] at hn
    match xs, hn with
    | [x0, x1, x2, x3, x4], _ =>
      simp only [List.getElem?_cons_zero, List.getElem?_cons_succ] at h0 h1 h2 h3 h4
      obtain ⟨s, e0, _, _⟩ := DataW.trod_string Tryz.underlying9 h0
      obtain ⟨m, e1, _, _⟩ := DataW.trod_int Tryz.underlying3 h1
      obtain ⟨b, e2, _⟩ := DataW.trod_bool Tryz.underlying4 h2
      obtain ⟨a, c, L, e3, hI, hmx⟩ := ints_of_trod h3
      obtain ⟨fn, e4, _, hw⟩ := trod_floatE Tryz.underlying37 h4
      cases e0; cases e1; cases e2; cases e3; cases e4
      exact ⟨⟨s.data.toList, m, b, L, fn⟩, a, c, by simp only [txE_of], hI, hmx, by simpa [Lit.wf] using hw⟩
structure FA (w:World) (f:Fld) (xo:Option Addr) (co:Nat) (xl:Option Addr) (cl:Nat):Prop where
 op:TxA w xo co f.op
 l:IntV w (.slice xl f.d.l.length cl) f.d.l
 cl:cl≤9223372036854775807
 df:f.d.f < 18446744073709551616
theorem field_of_trod {fuel : Nat} {cs : List Value} {x : DataW H × List MemPlace} (h : DataW.trod enc Tryz.prog w base spare held fuel 42 cs = some x) :
    ∃ (f : Fld) (xo : Option Addr) (co : Nat) (xl : Option Addr) (cl : Nat), cs = (f.fl xo co xl cl).a.toList ∧ FA w f xo co xl cl := by
  obtain ⟨xs, n, _, _, hl, hn, hf⟩ := DataW.trod_struct Tryz.underlying42 h
  have hc : Tryz.prog.cellsOf 42 = 16 := by kernel_rfl
  rw [hc] at hl
  match cs, hl with
  | [v0, v1, v2, v3, v4, v5, v6, v7, v8, v9, v10, v11, v12, v13, v14, v15], _ =>
    have h0 := hf 0 _ rfl
    have h1 := hf 1 _ rfl
    have h2 := hf 2 _ rfl
    have h3 := hf 3 _ rfl
    have h4 := hf 4 _ rfl
    have h5 := hf 5 _ rfl
    have h6 := hf 6 _ rfl
    have h7 := hf 7 _ rfl
    have h8 := hf 8 _ rfl
    have h9 := hf 9 _ rfl
    have h10 := hf 10 _ rfl
    have h11 := hf 11 _ rfl
    simp only [List.size_toArray, List.length_cons, List.length_nil] at hn
    match xs, hn with
    | [x0, x1, x2, x3, x4, x5, x6, x7, x8, x9, x10, x11], _ =>
      simp only [List.getElem?_cons_zero, List.getElem?_cons_succ] at h0 h1 h2 h3 h4 h5 h6 h7 h8 h9 h10 h11
      obtain ⟨k, e0, _, _⟩ := DataW.trod_int Tryz.underlying36 h0
      obtain ⟨nm, e1, _, _⟩ := DataW.trod_string Tryz.underlying9 h1
      obtain ⟨lb, e2, _, _⟩ := DataW.trod_string Tryz.underlying9 h2
      obtain ⟨xo, co, op, e3, hop⟩ := strs_of_trod h3
      obtain ⟨mn, e4, _, _⟩ := DataW.trod_int Tryz.underlying3 h4
      obtain ⟨mx, e5, _, _⟩ := DataW.trod_int Tryz.underlying3 h5
      obtain ⟨lo, e6, _, _⟩ := trod_floatE Tryz.underlying37 h6
      obtain ⟨hi, e7, _, _⟩ := trod_floatE Tryz.underlying37 h7
      obtain ⟨st, e8, _, _⟩ := trod_floatE Tryz.underlying37 h8
      obtain ⟨d, xl, cl, e9, hI, hmx, hdf⟩ := value_of_trod h9
      obtain ⟨sh, e10, _, _⟩ := DataW.trod_string Tryz.underlying9 h10
      obtain ⟨ck, e11, _, _⟩ := DataW.trod_string Tryz.underlying9 h11
      cases e0; cases e1; cases e2; cases e3; cases e4; cases e5; cases e6; cases e7; cases e8; cases e9; cases e10; cases e11
      exact ⟨⟨k, nm.data.toList, lb.data.toList, op, mn, mx, lo, hi, st, d, sh.data.toList, ck.data.toList⟩, xo, co, xl, cl, by simp only [Fld.fl, FL.a, txE_of], hop, hI, hmx, hdf⟩
end
theorem field_of_arg {H:Type} {enc:TypeId × Value→H} {w:World} {r:Reach} {b0 base:Nat} {spare:Nat→Bool} {held:Bool} {v:Value} {d:DataW H} {p:List MemPlace} (hv:Value.okWide Tryz.prog w r b0 42 v) (h:DataW.Trod enc Tryz.prog w base spare held 42 v d p) :
  ∃ (f:Fld) (xo:Option Addr) (co:Nat) (xl:Option Addr) (cl:Nat),v = (f.fl xo co xl cl).v∧FA w f xo co xl cl:=by
 obtain ⟨cs,rfl,_⟩:=okWide_struct Tryz.underlying42 hv
 obtain ⟨fuel,hf⟩:=h
 obtain ⟨f,xo,co,xl,cl,e,hA⟩:=field_of_trod hf
 refine ⟨f,xo,co,xl,cl,?_,hA⟩
 have e':cs.toList = (f.fl xo co xl cl).a.toList:=by simpa [Value.cells] using e
 unfold FL.v
 congr 1
 exact Array.toList_inj.1 e'
theorem value_of_arg {H:Type} {enc:TypeId × Value→H} {w:World} {r:Reach} {b0 base:Nat} {spare:Nat→Bool} {held:Bool} {v:Value} {d:DataW H} {p:List MemPlace} (hv:Value.okWide Tryz.prog w r b0 40 v) (h:DataW.Trod enc Tryz.prog w base spare held 40 v d p) :
  ∃ (u:Vle) (a:Option Addr) (c:Nat),v = u.v a c∧IntV w (.slice a u.l.length c) u.l∧c≤9223372036854775807∧u.f < 18446744073709551616:=by
 obtain ⟨cs,rfl,_⟩:=okWide_struct Tryz.underlying40 hv
 obtain ⟨fuel,hf⟩:=h
 obtain ⟨u,a,c,e,h1,h2,h3⟩:=value_of_trod hf
 refine ⟨u,a,c,?_,h1,h2,h3⟩
 have e':cs.toList = [.string (tx u.s),.int .i64 u.n,.bool u.b,.slice a u.l.length c,.float .f64 u.f]:=by simpa [Value.cells] using e
 unfold Vle.v dvlV
 congr 1
 exact Array.toList_inj.1 (by rw [e'])
end Go.Proofs.YtpcbamcelpcigaaGreat
namespace Go.Proofs.YtpcbamcelpcigaaGreat
open Go
section
variable {P:Program} {ops:Array Oper} {Q:Exit→Act→World→Prop} {md:Region.Mode} {S:World→Prop} {st:List Nat}
def wpAnyS (P : Program) (md : Region.Mode) (ops : Array Oper) (Q : Exit → Act → World → Prop) (S : World → Prop) (st : List Nat) : Nat → Array Bool → Act → World → Prop
  | 0, x, a, w => Region.ready md ops x = [] ∧ Q .normal a w
  | fuel + 1, x, a, w => (Region.ready md ops x = [] → Q .normal a w) ∧
    ∀ i ∈ Region.ready md ops x, wpOp P ops Q i (fun a' w' => (i ∉ st → S w → S w') ∧ wpAnyS P md ops Q S st fuel (x.setIfInBounds i true) a' w') a w
theorem any_of_S:∀ (fuel:Nat) (x:Array Bool) (a:Act) (w:World),wpAnyS P md ops Q S st fuel x a w→wpAny P md ops Q fuel x a w
 | 0,_,_,_,h=>h
 | fuel + 1,_,_,_,h=>⟨h.1,fun i hi=>wpOp_mono (fun a' w' h'=>any_of_S fuel _ a' w' h'.2) (h.2 i hi)⟩
theorem anyS_first {T : World → Prop} {i : Nat} {oi : Oper} {v : Value} (hi : ops[i]? = some oi) (hsel : ∀ (j : Nat) (o : Oper) cs b, ops[j]? = some o → o.op ≠ .select cs b)
    (hQ : ∀ c a w, Q (.panic c) (a.put oi.dst v) w → Q (.panic c) a w)
    (hT : ∀ x, x.getD i true = false → ∀ j ∈ Region.ready md ops x, ∀ w w', T w → (j ∉ st → S w → S w') → T w') :
    ∀ (fuel : Nat) (x : Array Bool) (a : Act) (w : World),
      (∀ j oj, ops[j]? = some oj → j ≠ i → x.getD j true = false → (∀ e ∈ oj.after, Region.binds md e = true → e.on ≠ i) → oi.apart ops oj = true) →
      i ∈ Region.ready md ops x → YieldsIf P ops T oi v a → T w →
      wpAnyS P md ops Q S st fuel (x.setIfInBounds i true) (a.put oi.dst v) w → wpAnyS P md ops Q S st (fuel + 1) x a w
  | 0, x, a, w, _, hr, hy, hw, H => ⟨fun h => (by rw [h] at hr; cases hr), fun j hj => by
      by_cases hji : j = i
      · subst hji; exact hy.wpOp hi hw ⟨fun _ h => h, H⟩
      · have := ready_mono hj hji
        rw [H.1] at this
        cases this⟩
  | fuel + 1, x, a, w, hfree, hr, hy, hw, H => ⟨fun h => (by rw [h] at hr; cases hr), fun j hj => by
      by_cases hji : j = i
      · subst hji; exact hy.wpOp hi hw ⟨fun _ h => h, H⟩
      · have h1 := H.2 j (ready_mono hj hji)
        obtain ⟨hjun, oj, hoj, hall⟩ := mem_ready.1 hj
        have hnot : ∀ e ∈ oj.after, Region.binds md e = true → e.on ≠ i := fun e he hb heq => by
          have h1 := hall e he hb
          rw [heq, getD_both (mem_ready.1 hr).1] at h1
          cases h1
        refine wpOp_mono (fun a' w' h3 => ⟨h3.2.1, anyS_first hi hsel hQ hT fuel _ a' w' (fun k ok hk hki hun hno => hfree k ok hk hki ?_ hno) (ready_mono hr (Ne.symm hji)) h3.1 (hT x (mem_ready.1 hr).1 j hj w w' hw h3.2.1) ?_⟩)
          (wpOp_putIf hoj (hfree j oj hoj hji hjun hnot) (fun cs b => hsel i oi cs b hi) (fun cs b => hsel j oj cs b hoj) hQ hy h1)
        · by_cases hjk : j = k
          · subst hjk; exact hjun
          · rw [getD_set_ne true hjk] at hun; exact hun
        · rw [Array.setIfInBounds_comm _ _ hji]; exact h3.2.2⟩
def stWaitB (md:Region.Mode) (ops:Array Oper) (st:List Nat) (i:Nat):Bool:=st.all fun t=>Region.waitsFor md ops t i
theorem anyS_load {i:Nat} {oi:Oper} {v:Value} {fuel:Nat} {x:Array Bool} {a:Act} {w:World} (hi:ops[i]? = some oi) (hs:Region.noSelect ops = true) (hf:Region.free md ops x i = true)
  (hr:(Region.ready md ops x).contains i = true) (hw:stWaitB md ops st i = true) (hQ:∀ c a w,Q (.panic c) (a.put oi.dst v) w→Q (.panic c) a w) (hS:S w) (hy:YieldsIf P ops S oi v a)
  (h:wpAnyS P md ops Q S st fuel (x.setIfInBounds i true) (a.put oi.dst v) w):wpAnyS P md ops Q S st (fuel + 1) x a w:=
 anyS_first (T:=S) hi (Region.noSelect_spec hs) hQ (fun x hx j hj w w' hw1 hk=>hk (fun hjs=>by
  obtain ⟨_,oj,hoj,hall⟩:=mem_ready.1 hj
  obtain ⟨o',ho',e,he,hb,hon⟩:=Region.waitsFor_spec (List.all_eq_true.1 hw j hjs)
  have:o' = oj:=Option.some.inj (ho'.symm.trans hoj)
  subst this
  have h2:=hall e he hb
  rw [hon,getD_both hx] at h2
  cases h2) hw1) fuel x a w (Region.free_spec hi hf) (by simpa using hr) hy hS h
theorem anyS_take {i:Nat} {oi:Oper} {v:Value} {fuel:Nat} {x:Array Bool} {a:Act} {w:World} (hi:ops[i]? = some oi) (hs:Region.noSelect ops = true) (hf:Region.free md ops x i = true)
  (hr:(Region.ready md ops x).contains i = true) (hQ:∀ c a w,Q (.panic c) (a.put oi.dst v) w→Q (.panic c) a w) (hy:YieldsIf P ops (fun _=>True) oi v a)
  (h:wpAnyS P md ops Q S st fuel (x.setIfInBounds i true) (a.put oi.dst v) w):wpAnyS P md ops Q S st (fuel + 1) x a w:=
 anyS_first (T:=fun _=>True) hi (Region.noSelect_spec hs) hQ (fun _ _ _ _ _ _ _ _=>trivial) fuel x a w (Region.free_spec hi hf) (by simpa using hr) hy trivial h
theorem anyS_store {i:Nat} {oi:Oper} {fuel:Nat} {x:Array Bool} {a:Act} {w:World} (hi:ops[i]? = some oi) (hr:Region.ready md ops x = [i]) (hst:st.contains i = true)
  (h:∀ K':Act→World→Prop,(∀ a w,wpAnyS P md ops Q S st fuel (x.setIfInBounds i true) a w→K' a w)→if Region.wanted oi (yielded ops a.tmps) = true then Oper.wp P oi a w K' Q else K' (a.put oi.dst undef) w):wpAnyS P md ops Q S st (fuel + 1) x a w:=
 ⟨fun h0=>(by rw [hr] at h0;cases h0),fun j hj=>by
  rw [hr,List.mem_singleton] at hj
  subst hj
  exact wpOp_step hi (fun K' hK=>h K' (fun a w hw=>hK a w ⟨fun hn=>absurd (by simpa using hst) hn,hw⟩))⟩
theorem anyS_step {i:Nat} {oi:Oper} {fuel:Nat} {x:Array Bool} {a:Act} {w:World} (hi:ops[i]? = some oi) (hr:Region.ready md ops x = [i])
  (h:∀ K':Act→World→Prop,(∀ a w,S w→wpAnyS P md ops Q S st fuel (x.setIfInBounds i true) a w→K' a w)→if Region.wanted oi (yielded ops a.tmps) = true then Oper.wp P oi a w K' Q else K' (a.put oi.dst undef) w):wpAnyS P md ops Q S st (fuel + 1) x a w:=
 ⟨fun h0=>(by rw [hr] at h0;cases h0),fun j hj=>by
  rw [hr,List.mem_singleton] at hj
  subst hj
  exact wpOp_step hi (fun K' hK=>h K' (fun a w hs hw=>hK a w ⟨fun _ _=>hs,hw⟩))⟩
theorem anyS_done {fuel:Nat} {x:Array Bool} {a:Act} {w:World} (hr:Region.ready md ops x = []) (h:Q .normal a w):wpAnyS P md ops Q S st fuel x a w:=by
 cases fuel with
 | zero=>exact ⟨hr,h⟩
 | succ f=>exact ⟨fun _=>h,fun i hi=>(by rw [hr] at hi;cases hi)⟩
theorem wp_region_S {id:Nat} {a:Act} {w:World} {l:List Oper} (S:World→Prop) (st:List Nat) (hm:P.follows .mixedOrders = true)
  (h:wpAnyS P .any l.toArray Q S st l.length (Array.replicate l.length false) a w.drew):(Code.region id l.toArray true).wp P Q a w:=
 wp_region_any hm (by simpa using any_of_S _ _ _ _ h)
end
section
variable {P : Program} {ops : Array Oper} {Q : Exit → Act → World → Prop} {md : Region.Mode} {S : World → Prop} {st : List Nat} {i : Nat} {oi : Oper} {v : Value} {fuel : Nat} {x : Array Bool} {a : Act} {w : World}
theorem tkS (h : wpAnyS P md ops Q S st fuel (x.setIfInBounds i true) (a.put oi.dst v) w) (hi : ops[i]? = some oi := by exact rfl) (hs : Region.noSelect ops = true := by kernel_rfl) (hf : Region.free md ops x i = true := by kernel_rfl)
  (hr : (Region.ready md ops x).contains i = true := by kernel_rfl) (hQ : ∀ c a w, Q (.panic c) (a.put oi.dst v) w → Q (.panic c) a w := by exact fun _ _ _ h => h) (hy : YieldsIf P ops (fun _ => True) oi v a := by exact Or.inl ⟨by rfl, by intro w _; go_simp; try (with_reducible rfl)⟩) : wpAnyS P md ops Q S st (fuel + 1) x a w := anyS_take hi hs hf hr hQ hy h
theorem ldS (hS : S w) (h : wpAnyS P md ops Q S st fuel (x.setIfInBounds i true) (a.put oi.dst v) w) (hi : ops[i]? = some oi := by exact rfl) (hs : Region.noSelect ops = true := by kernel_rfl) (hf : Region.free md ops x i = true := by kernel_rfl)
  (hr : (Region.ready md ops x).contains i = true := by kernel_rfl) (hw : stWaitB md ops st i = true := by kernel_rfl) (hQ : ∀ c a w, Q (.panic c) (a.put oi.dst v) w → Q (.panic c) a w := by exact fun _ _ _ h => h) (hy : YieldsIf P ops S oi v a := by exact Or.inl ⟨by rfl, by intro w hSw; (try dsimp only at hSw); go_simp; try (with_reducible rfl)⟩) : wpAnyS P md ops Q S st (fuel + 1) x a w := anyS_load hi hs hf hr hw hQ hS hy h
end
end Go.Proofs.YtpcbamcelpcigaaGreat
namespace Go.Proofs.YtpcbamcelpcigaaGreat
open Go.RowKit Go.Shelf
def putF (W:World) (b:Nat) (F:FL):World:=((((((((((((((((W.setCell ⟨b,0,none⟩ (.int .i64 F.k)).setCell ⟨b,1,none⟩ (.string F.nm)).setCell ⟨b,2,none⟩ (.string F.lb)).setCell ⟨b,3,none⟩ (.slice F.xo F.no F.co)).setCell ⟨b,4,none⟩ (.int .i64 F.mn)).setCell ⟨b,5,none⟩ (.int .i64 F.mx)).setCell ⟨b,6,none⟩ (.float .f64 F.lo)).setCell ⟨b,7,none⟩ (.float .f64 F.hi)).setCell ⟨b,8,none⟩ (.float .f64 F.st)).setCell ⟨b,9,none⟩ (.string F.ds)).setCell ⟨b,10,none⟩ (.int .i64 F.dn)).setCell ⟨b,11,none⟩ (.bool F.db)).setCell ⟨b,12,none⟩ (.slice F.xl F.nl F.cl)).setCell ⟨b,13,none⟩ (.float .f64 F.df)).setCell ⟨b,14,none⟩ (.string F.sh)).setCell ⟨b,15,none⟩ (.string F.ck))
theorem set16 {W:World} {b t:Nat} {g0 g1 g2 g3 g4 g5 g6 g7 g8 g9 g10 g11 g12 g13 g14 g15 v0 v1 v2 v3 v4 v5 v6 v7 v8 v9 v10 v11 v12 v13 v14 v15:Value} (h0:W.heap[b]? = some (.cells #[g0,g1,g2,g3,g4,g5,g6,g7,g8,g9,g10,g11,g12,g13,g14,g15] t (0,0))) :
  ((((((((((((((((W.setCell ⟨b,0,none⟩ v0).setCell ⟨b,1,none⟩ v1).setCell ⟨b,2,none⟩ v2).setCell ⟨b,3,none⟩ v3).setCell ⟨b,4,none⟩ v4).setCell ⟨b,5,none⟩ v5).setCell ⟨b,6,none⟩ v6).setCell ⟨b,7,none⟩ v7).setCell ⟨b,8,none⟩ v8).setCell ⟨b,9,none⟩ v9).setCell ⟨b,10,none⟩ v10).setCell ⟨b,11,none⟩ v11).setCell ⟨b,12,none⟩ v12).setCell ⟨b,13,none⟩ v13).setCell ⟨b,14,none⟩ v14).setCell ⟨b,15,none⟩ v15).heap[b]? = some (.cells #[v0,v1,v2,v3,v4,v5,v6,v7,v8,v9,v10,v11,v12,v13,v14,v15] t (0,0)):=by
 have h1:(W.setCell ⟨b,0,none⟩ v0).heap[b]? = some (.cells #[v0,g1,g2,g3,g4,g5,g6,g7,g8,g9,g10,g11,g12,g13,g14,g15] t (0,0)):=set_block h0 _
 have h2:((W.setCell ⟨b,0,none⟩ v0).setCell ⟨b,1,none⟩ v1).heap[b]? = some (.cells #[v0,v1,g2,g3,g4,g5,g6,g7,g8,g9,g10,g11,g12,g13,g14,g15] t (0,0)):=set_block h1 _
 have h3:(((W.setCell ⟨b,0,none⟩ v0).setCell ⟨b,1,none⟩ v1).setCell ⟨b,2,none⟩ v2).heap[b]? = some (.cells #[v0,v1,v2,g3,g4,g5,g6,g7,g8,g9,g10,g11,g12,g13,g14,g15] t (0,0)):=set_block h2 _
 have h4:((((W.setCell ⟨b,0,none⟩ v0).setCell ⟨b,1,none⟩ v1).setCell ⟨b,2,none⟩ v2).setCell ⟨b,3,none⟩ v3).heap[b]? = some (.cells #[v0,v1,v2,v3,g4,g5,g6,g7,g8,g9,g10,g11,g12,g13,g14,g15] t (0,0)):=set_block h3 _
 have h5:(((((W.setCell ⟨b,0,none⟩ v0).setCell ⟨b,1,none⟩ v1).setCell ⟨b,2,none⟩ v2).setCell ⟨b,3,none⟩ v3).setCell ⟨b,4,none⟩ v4).heap[b]? = some (.cells #[v0,v1,v2,v3,v4,g5,g6,g7,g8,g9,g10,g11,g12,g13,g14,g15] t (0,0)):=set_block h4 _
 have h6:((((((W.setCell ⟨b,0,none⟩ v0).setCell ⟨b,1,none⟩ v1).setCell ⟨b,2,none⟩ v2).setCell ⟨b,3,none⟩ v3).setCell ⟨b,4,none⟩ v4).setCell ⟨b,5,none⟩ v5).heap[b]? = some (.cells #[v0,v1,v2,v3,v4,v5,g6,g7,g8,g9,g10,g11,g12,g13,g14,g15] t (0,0)):=set_block h5 _
 have h7:(((((((W.setCell ⟨b,0,none⟩ v0).setCell ⟨b,1,none⟩ v1).setCell ⟨b,2,none⟩ v2).setCell ⟨b,3,none⟩ v3).setCell ⟨b,4,none⟩ v4).setCell ⟨b,5,none⟩ v5).setCell ⟨b,6,none⟩ v6).heap[b]? = some (.cells #[v0,v1,v2,v3,v4,v5,v6,g7,g8,g9,g10,g11,g12,g13,g14,g15] t (0,0)):=set_block h6 _
 have h8:((((((((W.setCell ⟨b,0,none⟩ v0).setCell ⟨b,1,none⟩ v1).setCell ⟨b,2,none⟩ v2).setCell ⟨b,3,none⟩ v3).setCell ⟨b,4,none⟩ v4).setCell ⟨b,5,none⟩ v5).setCell ⟨b,6,none⟩ v6).setCell ⟨b,7,none⟩ v7).heap[b]? = some (.cells #[v0,v1,v2,v3,v4,v5,v6,v7,g8,g9,g10,g11,g12,g13,g14,g15] t (0,0)):=set_block h7 _
 have h9:(((((((((W.setCell ⟨b,0,none⟩ v0).setCell ⟨b,1,none⟩ v1).setCell ⟨b,2,none⟩ v2).setCell ⟨b,3,none⟩ v3).setCell ⟨b,4,none⟩ v4).setCell ⟨b,5,none⟩ v5).setCell ⟨b,6,none⟩ v6).setCell ⟨b,7,none⟩ v7).setCell ⟨b,8,none⟩ v8).heap[b]? = some (.cells #[v0,v1,v2,v3,v4,v5,v6,v7,v8,g9,g10,g11,g12,g13,g14,g15] t (0,0)):=set_block h8 _
 have h10:((((((((((W.setCell ⟨b,0,none⟩ v0).setCell ⟨b,1,none⟩ v1).setCell ⟨b,2,none⟩ v2).setCell ⟨b,3,none⟩ v3).setCell ⟨b,4,none⟩ v4).setCell ⟨b,5,none⟩ v5).setCell ⟨b,6,none⟩ v6).setCell ⟨b,7,none⟩ v7).setCell ⟨b,8,none⟩ v8).setCell ⟨b,9,none⟩ v9).heap[b]? = some (.cells #[v0,v1,v2,v3,v4,v5,v6,v7,v8,v9,g10,g11,g12,g13,g14,g15] t (0,0)):=set_block h9 _
 have h11:(((((((((((W.setCell ⟨b,0,none⟩ v0).setCell ⟨b,1,none⟩ v1).setCell ⟨b,2,none⟩ v2).setCell ⟨b,3,none⟩ v3).setCell ⟨b,4,none⟩ v4).setCell ⟨b,5,none⟩ v5).setCell ⟨b,6,none⟩ v6).setCell ⟨b,7,none⟩ v7).setCell ⟨b,8,none⟩ v8).setCell ⟨b,9,none⟩ v9).setCell ⟨b,10,none⟩ v10).heap[b]? = some (.cells #[v0,v1,v2,v3,v4,v5,v6,v7,v8,v9,v10,g11,g12,g13,g14,g15] t (0,0)):=set_block h10 _
 have h12:((((((((((((W.setCell ⟨b,0,none⟩ v0).setCell ⟨b,1,none⟩ v1).setCell ⟨b,2,none⟩ v2).setCell ⟨b,3,none⟩ v3).setCell ⟨b,4,none⟩ v4).setCell ⟨b,5,none⟩ v5).setCell ⟨b,6,none⟩ v6).setCell ⟨b,7,none⟩ v7).setCell ⟨b,8,none⟩ v8).setCell ⟨b,9,none⟩ v9).setCell ⟨b,10,none⟩ v10).setCell ⟨b,11,none⟩ v11).heap[b]? = some (.cells #[v0,v1,v2,v3,v4,v5,v6,v7,v8,v9,v10,v11,g12,g13,g14,g15] t (0,0)):=set_block h11 _
 have h13:(((((((((((((W.setCell ⟨b,0,none⟩ v0).setCell ⟨b,1,none⟩ v1).setCell ⟨b,2,none⟩ v2).setCell ⟨b,3,none⟩ v3).setCell ⟨b,4,none⟩ v4).setCell ⟨b,5,none⟩ v5).setCell ⟨b,6,none⟩ v6).setCell ⟨b,7,none⟩ v7).setCell ⟨b,8,none⟩ v8).setCell ⟨b,9,none⟩ v9).setCell ⟨b,10,none⟩ v10).setCell ⟨b,11,none⟩ v11).setCell ⟨b,12,none⟩ v12).heap[b]? = some (.cells #[v0,v1,v2,v3,v4,v5,v6,v7,v8,v9,v10,v11,v12,g13,g14,g15] t (0,0)):=set_block h12 _
 have h14:((((((((((((((W.setCell ⟨b,0,none⟩ v0).setCell ⟨b,1,none⟩ v1).setCell ⟨b,2,none⟩ v2).setCell ⟨b,3,none⟩ v3).setCell ⟨b,4,none⟩ v4).setCell ⟨b,5,none⟩ v5).setCell ⟨b,6,none⟩ v6).setCell ⟨b,7,none⟩ v7).setCell ⟨b,8,none⟩ v8).setCell ⟨b,9,none⟩ v9).setCell ⟨b,10,none⟩ v10).setCell ⟨b,11,none⟩ v11).setCell ⟨b,12,none⟩ v12).setCell ⟨b,13,none⟩ v13).heap[b]? = some (.cells #[v0,v1,v2,v3,v4,v5,v6,v7,v8,v9,v10,v11,v12,v13,g14,g15] t (0,0)):=set_block h13 _
 have h15:(((((((((((((((W.setCell ⟨b,0,none⟩ v0).setCell ⟨b,1,none⟩ v1).setCell ⟨b,2,none⟩ v2).setCell ⟨b,3,none⟩ v3).setCell ⟨b,4,none⟩ v4).setCell ⟨b,5,none⟩ v5).setCell ⟨b,6,none⟩ v6).setCell ⟨b,7,none⟩ v7).setCell ⟨b,8,none⟩ v8).setCell ⟨b,9,none⟩ v9).setCell ⟨b,10,none⟩ v10).setCell ⟨b,11,none⟩ v11).setCell ⟨b,12,none⟩ v12).setCell ⟨b,13,none⟩ v13).setCell ⟨b,14,none⟩ v14).heap[b]? = some (.cells #[v0,v1,v2,v3,v4,v5,v6,v7,v8,v9,v10,v11,v12,v13,v14,g15] t (0,0)):=set_block h14 _
 have h16:((((((((((((((((W.setCell ⟨b,0,none⟩ v0).setCell ⟨b,1,none⟩ v1).setCell ⟨b,2,none⟩ v2).setCell ⟨b,3,none⟩ v3).setCell ⟨b,4,none⟩ v4).setCell ⟨b,5,none⟩ v5).setCell ⟨b,6,none⟩ v6).setCell ⟨b,7,none⟩ v7).setCell ⟨b,8,none⟩ v8).setCell ⟨b,9,none⟩ v9).setCell ⟨b,10,none⟩ v10).setCell ⟨b,11,none⟩ v11).setCell ⟨b,12,none⟩ v12).setCell ⟨b,13,none⟩ v13).setCell ⟨b,14,none⟩ v14).setCell ⟨b,15,none⟩ v15).heap[b]? = some (.cells #[v0,v1,v2,v3,v4,v5,v6,v7,v8,v9,v10,v11,v12,v13,v14,v15] t (0,0)):=set_block h15 _
 exact h16
theorem putF_blk {W:World} {b:Nat} {G:FL} (h:FLB W b G) (F:FL):(putF W b F).heap[b]? = some (.cells F.a 42 (0,0)):=by
 unfold FLB FL.a at h
 unfold putF FL.a
 exact set16 h
theorem putF_below {w W:World} {b:Nat} (h:Below w.heap.size w W) (hb:w.heap.size≤b) (F:FL):Below w.heap.size w (putF W b F):=((((((((((((((((h.setCell (p:=⟨b,0,none⟩) hb _).setCell (p:=⟨b,1,none⟩) hb _).setCell (p:=⟨b,2,none⟩) hb _).setCell (p:=⟨b,3,none⟩) hb _).setCell (p:=⟨b,4,none⟩) hb _).setCell (p:=⟨b,5,none⟩) hb _).setCell (p:=⟨b,6,none⟩) hb _).setCell (p:=⟨b,7,none⟩) hb _).setCell (p:=⟨b,8,none⟩) hb _).setCell (p:=⟨b,9,none⟩) hb _).setCell (p:=⟨b,10,none⟩) hb _).setCell (p:=⟨b,11,none⟩) hb _).setCell (p:=⟨b,12,none⟩) hb _).setCell (p:=⟨b,13,none⟩) hb _).setCell (p:=⟨b,14,none⟩) hb _).setCell (p:=⟨b,15,none⟩) hb _)
theorem putF_other {W:World} {b j:Nat} (h:j≠b) (F:FL):(putF W b F).heap[j]? = W.heap[j]?:=by
 unfold putF
 iterate 16 rw [set_other h]
end Go.Proofs.YtpcbamcelpcigaaGreat
