/- Own texts, merged. -/
import Derived.WalkKit
import Derived.BigRegion
import Derived.Test.YtpcbamcelpcigaaGreatMC24
import Derived.Test.YtpcbamcelpcigaaGreatMC30
import Derived.Test.YtpcbamcelpcigaaGreatMC00
set_option maxRecDepth 100000
set_option maxHeartbeats 32000000
open Go.Lib (hid)
namespace Go.Proofs.YtpcbamcelpcigaaGreat
open Go.RowKit Go.Shelf
attribute [local go_sem] run_store_float
theorem takes_12 {op:Bs} {k:Nat} (h:takesT op = some k) (h0:op≠wnum) (h1:op≠wtext) (h2:op≠wname):(k = 1∧(op = wnot∨op = wneg∨op = wabs∨op = wlen))∨(k = 2∧op≠wnot∧op≠wneg∧op≠wabs∧op≠wlen):=by
 unfold takesT at h
 rw [if_neg (fun e=>by rcases e with e | e | e;exact h0 e;exact h1 e;exact h2 e)] at h
 by_cases q:op = wnot∨op = wneg∨op = wlen∨op = wabs
 ·rw [if_pos q] at h
  cases h
  rcases q with q | q | q | q
  ·exact .inl ⟨rfl,.inl q⟩
  ·exact .inl ⟨rfl,.inr (.inl q)⟩
  ·exact .inl ⟨rfl,.inr (.inr (.inr q))⟩
  ·exact .inl ⟨rfl,.inr (.inr (.inl q))⟩
 ·rw [if_neg q] at h
  split at h
  ·cases h
   exact .inr ⟨rfl,fun e=>q (.inl e),fun e=>q (.inr (.inl e)),fun e=>q (.inr (.inr (.inr e))),fun e=>q (.inr (.inr (.inl e)))⟩
  ·cases h
def takesR (op:Bs):Int:=match takesT op with | some k=>(k:Int) | none=>-1
def ofT (op:Bs) (l:List Nat):Nat:=if op = wnum then 1 else if op = wtext then 2 else madeT op l
theorem rtakes (op:Bs) (w:World):Calls Tryz.prog 112 #[.string (tx op)] w fun e w'=>e = .returned (.int .i64 (takesR op))∧w = w':=by
 unfold takesR
 rcases opcases op with ⟨ho,b0,b1,b2,b3,b4,b5,b6,b7,b8,b9,b10,b11,b12,b13,b14,b15,b16,b17,b18,b19⟩ | ⟨ho,b0,b1,b2,b3,b4,b5,b6,b7,b8,b9,b10,b11,b12,b13,b14,b15,b16,b17,b18,b19⟩ | ⟨ho,b0,b1,b2,b3,b4,b5,b6,b7,b8,b9,b10,b11,b12,b13,b14,b15,b16,b17,b18,b19⟩ | ⟨ho,b0,b1,b2,b3,b4,b5,b6,b7,b8,b9,b10,b11,b12,b13,b14,b15,b16,b17,b18,b19⟩ | ⟨ho,b0,b1,b2,b3,b4,b5,b6,b7,b8,b9,b10,b11,b12,b13,b14,b15,b16,b17,b18,b19⟩ | ⟨ho,b0,b1,b2,b3,b4,b5,b6,b7,b8,b9,b10,b11,b12,b13,b14,b15,b16,b17,b18,b19⟩ | ⟨ho,b0,b1,b2,b3,b4,b5,b6,b7,b8,b9,b10,b11,b12,b13,b14,b15,b16,b17,b18,b19⟩ | ⟨ho,b0,b1,b2,b3,b4,b5,b6,b7,b8,b9,b10,b11,b12,b13,b14,b15,b16,b17,b18,b19⟩ | ⟨ho,b0,b1,b2,b3,b4,b5,b6,b7,b8,b9,b10,b11,b12,b13,b14,b15,b16,b17,b18,b19⟩ | ⟨ho,b0,b1,b2,b3,b4,b5,b6,b7,b8,b9,b10,b11,b12,b13,b14,b15,b16,b17,b18,b19⟩ | ⟨ho,b0,b1,b2,b3,b4,b5,b6,b7,b8,b9,b10,b11,b12,b13,b14,b15,b16,b17,b18,b19⟩ | ⟨ho,b0,b1,b2,b3,b4,b5,b6,b7,b8,b9,b10,b11,b12,b13,b14,b15,b16,b17,b18,b19⟩ | ⟨ho,b0,b1,b2,b3,b4,b5,b6,b7,b8,b9,b10,b11,b12,b13,b14,b15,b16,b17,b18,b19⟩ | ⟨ho,b0,b1,b2,b3,b4,b5,b6,b7,b8,b9,b10,b11,b12,b13,b14,b15,b16,b17,b18,b19⟩ | ⟨ho,b0,b1,b2,b3,b4,b5,b6,b7,b8,b9,b10,b11,b12,b13,b14,b15,b16,b17,b18,b19⟩ | ⟨ho,b0,b1,b2,b3,b4,b5,b6,b7,b8,b9,b10,b11,b12,b13,b14,b15,b16,b17,b18,b19⟩ | ⟨ho,b0,b1,b2,b3,b4,b5,b6,b7,b8,b9,b10,b11,b12,b13,b14,b15,b16,b17,b18,b19⟩ | ⟨ho,b0,b1,b2,b3,b4,b5,b6,b7,b8,b9,b10,b11,b12,b13,b14,b15,b16,b17,b18,b19⟩ | ⟨ho,b0,b1,b2,b3,b4,b5,b6,b7,b8,b9,b10,b11,b12,b13,b14,b15,b16,b17,b18,b19⟩ | ⟨ho,b0,b1,b2,b3,b4,b5,b6,b7,b8,b9,b10,b11,b12,b13,b14,b15,b16,b17,b18,b19⟩ | ⟨ho,b0,b1,b2,b3,b4,b5,b6,b7,b8,b9,b10,b11,b12,b13,b14,b15,b16,b17,b18,b19⟩
 all_goals
  first
   | (have hT:takesT op = some 0:=(by subst ho;decide);rw [hT];clear ho hT)
   | (have hT:takesT op = some 1:=(by subst ho;decide);rw [hT];clear ho hT)
   | (have hT:takesT op = some 2:=(by subst ho;decide);rw [hT];clear ho hT)
   | (rw [takes_none ho];clear ho)
  generalize tx op = T at *
  go_enter Tryz.func112,Tryz.ntmps112
  go_wp2
  go_ret
  exact ⟨rfl,rfl⟩
theorem giv_range (k:Nat) (c:Bool) (h:giv k c≠0):giv k c = k:=by
 cases c
 ·exact absurd rfl h
 ·rfl
theorem made_range {op:Bs} {l:List Nat} (h:madeT op l≠0):madeT op l = 1∨madeT op l = 3:=by
 have key:∀ (c:Prop) [Decidable c] (x y:Nat),(x≠0→x = 1∨x = 3)→(y≠0→y = 1∨y = 3)→(if c then x else y)≠0→(if c then x else y) = 1∨(if c then x else y) = 3:=by
  intro c _ x y hx hy h
  split at h
  ·rename_i hc;rw [if_pos hc];exact hx h
  ·rename_i hc;rw [if_neg hc];exact hy h
 have g1:∀ c,giv 1 c≠0→giv 1 c = 1∨giv 1 c = 3:=fun c h=>.inl (giv_range 1 c h)
 have g3:∀ c,giv 3 c≠0→giv 3 c = 1∨giv 3 c = 3:=fun c h=>.inr (giv_range 3 c h)
 unfold madeT at h ⊢
 exact key _ _ _ (g1 _) (key _ _ _ (g1 _) (key _ _ _ (g3 _) (key _ _ _ (g3 _) (key _ _ _ (g3 _) (g3 _))))) h
theorem ty_range {L:List Bnd} {t:Tree} (h:(tyT L t).2 = 0):(tyT L t).1 = 1∨(tyT L t).1 = 2∨(tyT L t).1 = 3:=by
 obtain ⟨op,fn,s,c⟩:=t
 obtain ⟨h1,h2,h3⟩:=ty_ok h
 rw [tyT_good L op s fn c h2,if_neg (fun e=>e h1)] at h ⊢
 by_cases o0:op = wnum
 ·rw [if_pos o0];exact .inl rfl
 ·rw [if_neg o0] at h ⊢
  by_cases o1:op = wtext
  ·rw [if_pos o1];exact .inr (.inl rfl)
  ·rw [if_neg o1] at h ⊢
   by_cases o2:op = wname
   ·rw [if_pos o2] at h ⊢
    obtain ⟨v,hv⟩:=h3 o2
    rw [hv]
    rcases bound_t hv with e | e | e <;> simp only [e]
    ·exact .inl rfl
    ·exact .inr (.inl rfl)
    ·exact .inr (.inr rfl)
   ·rw [if_neg o2] at h ⊢
    by_cases m0:madeT op (c.map (fun t=>(tyT L t).1)) = 0
    ·rw [if_pos m0] at h;cases h
    ·rw [if_neg m0]
     rcases made_range m0 with e | e
     ·exact .inl e
     ·exact .inr (.inr e)
theorem ofCase0 (op:Bs) (v:Value) (w:World) (h:TyV w v []) (ho:op = wnum∨op = wtext):Calls Tryz.prog 114 #[.string (tx op),v] w fun e w'=>e = .returned (.int .i64 (ofT op []:Nat))∧w = w':=by
 obtain ⟨x,cap,rfl,_,hx,_⟩:=h
 show Calls Tryz.prog 114 #[.string (tx op),.slice x 0 cap] w _
 rcases ho with rfl | rfl
 ·have hM:ofT wnum [] = 1:=rfl
  rw [hM]
  have b0:=tx_same wnum
  unfold wnum at b0 ⊢
  generalize tx [110,117,109] = T at *
  go_enter Tryz.func114,Tryz.ntmps114
  go_wp2
  go_ret
  exact ⟨rfl,rfl⟩
 ·have hM:ofT wtext [] = 2:=by decide
  rw [hM]
  have b0:((tx wtext).toList == [110,117,109]) = false:=tx_ne (by decide)
  have b1:=tx_same wtext
  unfold wtext at b0 b1 ⊢
  generalize tx [116,101,120,116] = T at *
  go_enter Tryz.func114,Tryz.ntmps114
  go_wp2
  go_ret
  exact ⟨rfl,rfl⟩
theorem ofCase1 (op:Bs) (t0:Nat) (h0:t0 = 1∨t0 = 2∨t0 = 3) (hop:takesT op = some 1) (v:Value) (w:World) (h:TyV w v [t0]):Calls Tryz.prog 114 #[.string (tx op),v] w fun e w'=>e = .returned (.int .i64 (ofT op [t0]:Nat))∧w = w':=by
 obtain ⟨x,cap,rfl,hcap,hx,hc⟩:=h
 obtain ⟨a,rfl⟩:∃ a,x = some a:=by
  cases x with
  | none=>have:=hx rfl;cases this
  | some a=>exact ⟨a,rfl⟩
 have c0:=hc a rfl 0 t0 rfl
 rw [show a.add 0 = a from rfl] at c0
 show Calls Tryz.prog 114 #[.string (tx op),.slice (some a) 1 cap] w _
 clear hc hx
 obtain ⟨M,hM⟩:∃ M,M = ofT op [t0]:=⟨_,rfl⟩
 rw [←hM]
 rcases opcases op with ⟨ho,b0,b1,b2,b3,b4,b5,b6,b7,b8,b9,b10,b11,b12,b13,b14,b15,b16,b17,b18,b19⟩ | ⟨ho,b0,b1,b2,b3,b4,b5,b6,b7,b8,b9,b10,b11,b12,b13,b14,b15,b16,b17,b18,b19⟩ | ⟨ho,b0,b1,b2,b3,b4,b5,b6,b7,b8,b9,b10,b11,b12,b13,b14,b15,b16,b17,b18,b19⟩ | ⟨ho,b0,b1,b2,b3,b4,b5,b6,b7,b8,b9,b10,b11,b12,b13,b14,b15,b16,b17,b18,b19⟩ | ⟨ho,b0,b1,b2,b3,b4,b5,b6,b7,b8,b9,b10,b11,b12,b13,b14,b15,b16,b17,b18,b19⟩ | ⟨ho,b0,b1,b2,b3,b4,b5,b6,b7,b8,b9,b10,b11,b12,b13,b14,b15,b16,b17,b18,b19⟩ | ⟨ho,b0,b1,b2,b3,b4,b5,b6,b7,b8,b9,b10,b11,b12,b13,b14,b15,b16,b17,b18,b19⟩ | ⟨ho,b0,b1,b2,b3,b4,b5,b6,b7,b8,b9,b10,b11,b12,b13,b14,b15,b16,b17,b18,b19⟩ | ⟨ho,b0,b1,b2,b3,b4,b5,b6,b7,b8,b9,b10,b11,b12,b13,b14,b15,b16,b17,b18,b19⟩ | ⟨ho,b0,b1,b2,b3,b4,b5,b6,b7,b8,b9,b10,b11,b12,b13,b14,b15,b16,b17,b18,b19⟩ | ⟨ho,b0,b1,b2,b3,b4,b5,b6,b7,b8,b9,b10,b11,b12,b13,b14,b15,b16,b17,b18,b19⟩ | ⟨ho,b0,b1,b2,b3,b4,b5,b6,b7,b8,b9,b10,b11,b12,b13,b14,b15,b16,b17,b18,b19⟩ | ⟨ho,b0,b1,b2,b3,b4,b5,b6,b7,b8,b9,b10,b11,b12,b13,b14,b15,b16,b17,b18,b19⟩ | ⟨ho,b0,b1,b2,b3,b4,b5,b6,b7,b8,b9,b10,b11,b12,b13,b14,b15,b16,b17,b18,b19⟩ | ⟨ho,b0,b1,b2,b3,b4,b5,b6,b7,b8,b9,b10,b11,b12,b13,b14,b15,b16,b17,b18,b19⟩ | ⟨ho,b0,b1,b2,b3,b4,b5,b6,b7,b8,b9,b10,b11,b12,b13,b14,b15,b16,b17,b18,b19⟩ | ⟨ho,b0,b1,b2,b3,b4,b5,b6,b7,b8,b9,b10,b11,b12,b13,b14,b15,b16,b17,b18,b19⟩ | ⟨ho,b0,b1,b2,b3,b4,b5,b6,b7,b8,b9,b10,b11,b12,b13,b14,b15,b16,b17,b18,b19⟩ | ⟨ho,b0,b1,b2,b3,b4,b5,b6,b7,b8,b9,b10,b11,b12,b13,b14,b15,b16,b17,b18,b19⟩ | ⟨ho,b0,b1,b2,b3,b4,b5,b6,b7,b8,b9,b10,b11,b12,b13,b14,b15,b16,b17,b18,b19⟩ | ⟨ho,b0,b1,b2,b3,b4,b5,b6,b7,b8,b9,b10,b11,b12,b13,b14,b15,b16,b17,b18,b19⟩
 ·subst ho;exact absurd hop (by decide)
 ·subst ho;exact absurd hop (by decide)
 ·subst ho;exact absurd hop (by decide)
 ·clear hop
  rcases h0 with rfl | rfl | rfl
  all_goals
   first
    | (have hK:M = 0:=(by rw [hM];subst ho;decide);subst hK)
    | (have hK:M = 1:=(by rw [hM];subst ho;decide);subst hK)
    | (have hK:M = 3:=(by rw [hM];subst ho;decide);subst hK)
   clear ho hM
   generalize tx op = T at *
   go_enter Tryz.func114,Tryz.ntmps114
   go_wp2
   go_ret
   exact ⟨rfl,rfl⟩
 ·clear hop
  rcases h0 with rfl | rfl | rfl
  all_goals
   first
    | (have hK:M = 0:=(by rw [hM];subst ho;decide);subst hK)
    | (have hK:M = 1:=(by rw [hM];subst ho;decide);subst hK)
    | (have hK:M = 3:=(by rw [hM];subst ho;decide);subst hK)
   clear ho hM
   generalize tx op = T at *
   go_enter Tryz.func114,Tryz.ntmps114
   go_wp2
   go_ret
   exact ⟨rfl,rfl⟩
 ·clear hop
  rcases h0 with rfl | rfl | rfl
  all_goals
   first
    | (have hK:M = 0:=(by rw [hM];subst ho;decide);subst hK)
    | (have hK:M = 1:=(by rw [hM];subst ho;decide);subst hK)
    | (have hK:M = 3:=(by rw [hM];subst ho;decide);subst hK)
   clear ho hM
   generalize tx op = T at *
   go_enter Tryz.func114,Tryz.ntmps114
   go_wp2
   go_ret
   exact ⟨rfl,rfl⟩
 ·clear hop
  rcases h0 with rfl | rfl | rfl
  all_goals
   first
    | (have hK:M = 0:=(by rw [hM];subst ho;decide);subst hK)
    | (have hK:M = 1:=(by rw [hM];subst ho;decide);subst hK)
    | (have hK:M = 3:=(by rw [hM];subst ho;decide);subst hK)
   clear ho hM
   generalize tx op = T at *
   go_enter Tryz.func114,Tryz.ntmps114
   go_wp2
   go_ret
   exact ⟨rfl,rfl⟩
 ·subst ho;exact absurd hop (by decide)
 ·subst ho;exact absurd hop (by decide)
 ·subst ho;exact absurd hop (by decide)
 ·subst ho;exact absurd hop (by decide)
 ·subst ho;exact absurd hop (by decide)
 ·subst ho;exact absurd hop (by decide)
 ·subst ho;exact absurd hop (by decide)
 ·subst ho;exact absurd hop (by decide)
 ·subst ho;exact absurd hop (by decide)
 ·subst ho;exact absurd hop (by decide)
 ·subst ho;exact absurd hop (by decide)
 ·subst ho;exact absurd hop (by decide)
 ·subst ho;exact absurd hop (by decide)
 ·rw [takes_none ho] at hop;cases hop
theorem ofCase2 (op:Bs) (t0 t1:Nat) (h0:t0 = 1∨t0 = 2∨t0 = 3) (h1:t1 = 1∨t1 = 2∨t1 = 3) (hop:takesT op = some 2) (v:Value) (w:World) (h:TyV w v [t0,t1]):Calls Tryz.prog 114 #[.string (tx op),v] w fun e w'=>e = .returned (.int .i64 (ofT op [t0,t1]:Nat))∧w = w':=by
 obtain ⟨x,cap,rfl,hcap,hx,hc⟩:=h
 obtain ⟨a,rfl⟩:∃ a,x = some a:=by
  cases x with
  | none=>have:=hx rfl;cases this
  | some a=>exact ⟨a,rfl⟩
 have c0:=hc a rfl 0 t0 rfl
 have c1:=hc a rfl 1 t1 rfl
 rw [show a.add 0 = a from rfl] at c0
 have c1':w.cell? ⟨a.block,a.off + 1,none⟩ = some (.int .i64 (t1:Nat)):=by simpa [Addr.add] using c1
 show Calls Tryz.prog 114 #[.string (tx op),.slice (some a) 2 cap] w _
 clear hc hx c1
 obtain ⟨M,hM⟩:∃ M,M = ofT op [t0,t1]:=⟨_,rfl⟩
 rw [←hM]
 rcases opcases op with ⟨ho,b0,b1,b2,b3,b4,b5,b6,b7,b8,b9,b10,b11,b12,b13,b14,b15,b16,b17,b18,b19⟩ | ⟨ho,b0,b1,b2,b3,b4,b5,b6,b7,b8,b9,b10,b11,b12,b13,b14,b15,b16,b17,b18,b19⟩ | ⟨ho,b0,b1,b2,b3,b4,b5,b6,b7,b8,b9,b10,b11,b12,b13,b14,b15,b16,b17,b18,b19⟩ | ⟨ho,b0,b1,b2,b3,b4,b5,b6,b7,b8,b9,b10,b11,b12,b13,b14,b15,b16,b17,b18,b19⟩ | ⟨ho,b0,b1,b2,b3,b4,b5,b6,b7,b8,b9,b10,b11,b12,b13,b14,b15,b16,b17,b18,b19⟩ | ⟨ho,b0,b1,b2,b3,b4,b5,b6,b7,b8,b9,b10,b11,b12,b13,b14,b15,b16,b17,b18,b19⟩ | ⟨ho,b0,b1,b2,b3,b4,b5,b6,b7,b8,b9,b10,b11,b12,b13,b14,b15,b16,b17,b18,b19⟩ | ⟨ho,b0,b1,b2,b3,b4,b5,b6,b7,b8,b9,b10,b11,b12,b13,b14,b15,b16,b17,b18,b19⟩ | ⟨ho,b0,b1,b2,b3,b4,b5,b6,b7,b8,b9,b10,b11,b12,b13,b14,b15,b16,b17,b18,b19⟩ | ⟨ho,b0,b1,b2,b3,b4,b5,b6,b7,b8,b9,b10,b11,b12,b13,b14,b15,b16,b17,b18,b19⟩ | ⟨ho,b0,b1,b2,b3,b4,b5,b6,b7,b8,b9,b10,b11,b12,b13,b14,b15,b16,b17,b18,b19⟩ | ⟨ho,b0,b1,b2,b3,b4,b5,b6,b7,b8,b9,b10,b11,b12,b13,b14,b15,b16,b17,b18,b19⟩ | ⟨ho,b0,b1,b2,b3,b4,b5,b6,b7,b8,b9,b10,b11,b12,b13,b14,b15,b16,b17,b18,b19⟩ | ⟨ho,b0,b1,b2,b3,b4,b5,b6,b7,b8,b9,b10,b11,b12,b13,b14,b15,b16,b17,b18,b19⟩ | ⟨ho,b0,b1,b2,b3,b4,b5,b6,b7,b8,b9,b10,b11,b12,b13,b14,b15,b16,b17,b18,b19⟩ | ⟨ho,b0,b1,b2,b3,b4,b5,b6,b7,b8,b9,b10,b11,b12,b13,b14,b15,b16,b17,b18,b19⟩ | ⟨ho,b0,b1,b2,b3,b4,b5,b6,b7,b8,b9,b10,b11,b12,b13,b14,b15,b16,b17,b18,b19⟩ | ⟨ho,b0,b1,b2,b3,b4,b5,b6,b7,b8,b9,b10,b11,b12,b13,b14,b15,b16,b17,b18,b19⟩ | ⟨ho,b0,b1,b2,b3,b4,b5,b6,b7,b8,b9,b10,b11,b12,b13,b14,b15,b16,b17,b18,b19⟩ | ⟨ho,b0,b1,b2,b3,b4,b5,b6,b7,b8,b9,b10,b11,b12,b13,b14,b15,b16,b17,b18,b19⟩ | ⟨ho,b0,b1,b2,b3,b4,b5,b6,b7,b8,b9,b10,b11,b12,b13,b14,b15,b16,b17,b18,b19⟩
 ·subst ho;exact absurd hop (by decide)
 ·subst ho;exact absurd hop (by decide)
 ·subst ho;exact absurd hop (by decide)
 ·subst ho;exact absurd hop (by decide)
 ·subst ho;exact absurd hop (by decide)
 ·subst ho;exact absurd hop (by decide)
 ·subst ho;exact absurd hop (by decide)
 ·clear hop
  rcases h0 with rfl | rfl | rfl <;> rcases h1 with rfl | rfl | rfl
  all_goals
   first
    | (have hK:M = 0:=(by rw [hM];subst ho;decide);subst hK)
    | (have hK:M = 1:=(by rw [hM];subst ho;decide);subst hK)
    | (have hK:M = 3:=(by rw [hM];subst ho;decide);subst hK)
   clear ho hM
   generalize tx op = T at *
   go_enter Tryz.func114,Tryz.ntmps114
   go_wp2
   go_ret
   exact ⟨rfl,rfl⟩
 ·clear hop
  rcases h0 with rfl | rfl | rfl <;> rcases h1 with rfl | rfl | rfl
  all_goals
   first
    | (have hK:M = 0:=(by rw [hM];subst ho;decide);subst hK)
    | (have hK:M = 1:=(by rw [hM];subst ho;decide);subst hK)
    | (have hK:M = 3:=(by rw [hM];subst ho;decide);subst hK)
   clear ho hM
   generalize tx op = T at *
   go_enter Tryz.func114,Tryz.ntmps114
   go_wp2
   go_ret
   exact ⟨rfl,rfl⟩
 ·clear hop
  rcases h0 with rfl | rfl | rfl <;> rcases h1 with rfl | rfl | rfl
  all_goals
   first
    | (have hK:M = 0:=(by rw [hM];subst ho;decide);subst hK)
    | (have hK:M = 1:=(by rw [hM];subst ho;decide);subst hK)
    | (have hK:M = 3:=(by rw [hM];subst ho;decide);subst hK)
   clear ho hM
   generalize tx op = T at *
   go_enter Tryz.func114,Tryz.ntmps114
   go_wp2
   go_ret
   exact ⟨rfl,rfl⟩
 ·clear hop
  rcases h0 with rfl | rfl | rfl <;> rcases h1 with rfl | rfl | rfl
  all_goals
   first
    | (have hK:M = 0:=(by rw [hM];subst ho;decide);subst hK)
    | (have hK:M = 1:=(by rw [hM];subst ho;decide);subst hK)
    | (have hK:M = 3:=(by rw [hM];subst ho;decide);subst hK)
   clear ho hM
   generalize tx op = T at *
   go_enter Tryz.func114,Tryz.ntmps114
   go_wp2
   go_ret
   exact ⟨rfl,rfl⟩
 ·clear hop
  rcases h0 with rfl | rfl | rfl <;> rcases h1 with rfl | rfl | rfl
  all_goals
   first
    | (have hK:M = 0:=(by rw [hM];subst ho;decide);subst hK)
    | (have hK:M = 1:=(by rw [hM];subst ho;decide);subst hK)
    | (have hK:M = 3:=(by rw [hM];subst ho;decide);subst hK)
   clear ho hM
   generalize tx op = T at *
   go_enter Tryz.func114,Tryz.ntmps114
   go_wp2
   go_ret
   exact ⟨rfl,rfl⟩
 ·clear hop
  rcases h0 with rfl | rfl | rfl <;> rcases h1 with rfl | rfl | rfl
  all_goals
   first
    | (have hK:M = 0:=(by rw [hM];subst ho;decide);subst hK)
    | (have hK:M = 1:=(by rw [hM];subst ho;decide);subst hK)
    | (have hK:M = 3:=(by rw [hM];subst ho;decide);subst hK)
   clear ho hM
   generalize tx op = T at *
   go_enter Tryz.func114,Tryz.ntmps114
   go_wp2
   go_ret
   exact ⟨rfl,rfl⟩
 ·clear hop
  rcases h0 with rfl | rfl | rfl <;> rcases h1 with rfl | rfl | rfl
  all_goals
   first
    | (have hK:M = 0:=(by rw [hM];subst ho;decide);subst hK)
    | (have hK:M = 1:=(by rw [hM];subst ho;decide);subst hK)
    | (have hK:M = 3:=(by rw [hM];subst ho;decide);subst hK)
   clear ho hM
   generalize tx op = T at *
   go_enter Tryz.func114,Tryz.ntmps114
   go_wp2
   go_ret
   exact ⟨rfl,rfl⟩
 ·clear hop
  rcases h0 with rfl | rfl | rfl <;> rcases h1 with rfl | rfl | rfl
  all_goals
   first
    | (have hK:M = 0:=(by rw [hM];subst ho;decide);subst hK)
    | (have hK:M = 1:=(by rw [hM];subst ho;decide);subst hK)
    | (have hK:M = 3:=(by rw [hM];subst ho;decide);subst hK)
   clear ho hM
   generalize tx op = T at *
   go_enter Tryz.func114,Tryz.ntmps114
   go_wp2
   go_ret
   exact ⟨rfl,rfl⟩
 ·clear hop
  rcases h0 with rfl | rfl | rfl <;> rcases h1 with rfl | rfl | rfl
  all_goals
   first
    | (have hK:M = 0:=(by rw [hM];subst ho;decide);subst hK)
    | (have hK:M = 1:=(by rw [hM];subst ho;decide);subst hK)
    | (have hK:M = 3:=(by rw [hM];subst ho;decide);subst hK)
   clear ho hM
   generalize tx op = T at *
   go_enter Tryz.func114,Tryz.ntmps114
   go_wp2
   go_ret
   exact ⟨rfl,rfl⟩
 ·clear hop
  rcases h0 with rfl | rfl | rfl <;> rcases h1 with rfl | rfl | rfl
  all_goals
   first
    | (have hK:M = 0:=(by rw [hM];subst ho;decide);subst hK)
    | (have hK:M = 1:=(by rw [hM];subst ho;decide);subst hK)
    | (have hK:M = 3:=(by rw [hM];subst ho;decide);subst hK)
   clear ho hM
   generalize tx op = T at *
   go_enter Tryz.func114,Tryz.ntmps114
   go_wp2
   go_ret
   exact ⟨rfl,rfl⟩
 ·clear hop
  rcases h0 with rfl | rfl | rfl <;> rcases h1 with rfl | rfl | rfl
  all_goals
   first
    | (have hK:M = 0:=(by rw [hM];subst ho;decide);subst hK)
    | (have hK:M = 1:=(by rw [hM];subst ho;decide);subst hK)
    | (have hK:M = 3:=(by rw [hM];subst ho;decide);subst hK)
   clear ho hM
   generalize tx op = T at *
   go_enter Tryz.func114,Tryz.ntmps114
   go_wp2
   go_ret
   exact ⟨rfl,rfl⟩
 ·clear hop
  rcases h0 with rfl | rfl | rfl <;> rcases h1 with rfl | rfl | rfl
  all_goals
   first
    | (have hK:M = 0:=(by rw [hM];subst ho;decide);subst hK)
    | (have hK:M = 1:=(by rw [hM];subst ho;decide);subst hK)
    | (have hK:M = 3:=(by rw [hM];subst ho;decide);subst hK)
   clear ho hM
   generalize tx op = T at *
   go_enter Tryz.func114,Tryz.ntmps114
   go_wp2
   go_ret
   exact ⟨rfl,rfl⟩
 ·clear hop
  rcases h0 with rfl | rfl | rfl <;> rcases h1 with rfl | rfl | rfl
  all_goals
   first
    | (have hK:M = 0:=(by rw [hM];subst ho;decide);subst hK)
    | (have hK:M = 1:=(by rw [hM];subst ho;decide);subst hK)
    | (have hK:M = 3:=(by rw [hM];subst ho;decide);subst hK)
   clear ho hM
   generalize tx op = T at *
   go_enter Tryz.func114,Tryz.ntmps114
   go_wp2
   go_ret
   exact ⟨rfl,rfl⟩
 ·rw [takes_none ho] at hop;cases hop
theorem rof (op : Bs) (v : Value) (l : List Nat) (hl : ∀ t ∈ l, t = 1 ∨ t = 2 ∨ t = 3) (hk : takesT op = some l.length) (hn : op ≠ wname) (w : World) (h : TyV w v l) : Calls Tryz.prog 114 #[.string (tx op), v] w fun e w' => e = .returned (.int .i64 (ofT op l : Nat)) ∧ w = w' := by
  match l, hl, hk, h with
  | [], _, hk, h =>
    refine ofCase0 op v w h ?_
    by_cases o0 : op = wnum
    · exact .inl o0
    · by_cases o1 : op = wtext
      · exact .inr o1
      · rcases takes_12 hk o0 o1 hn with ⟨h, _⟩ | ⟨h, _⟩ <;> cases h
  | [t0], hl, hk, h => exact ofCase1 op t0 (hl t0 (by simp)) hk v w h
  | [t0, t1], hl, hk, h => exact ofCase2 op t0 t1 (hl t0 (by simp)) (hl t1 (by simp)) hk v w h
  | t0 :: t1 :: t2 :: r, _, hk, _ =>
    by_cases o0 : op = wnum
    · rw [o0, show takesT wnum = some 0 from by decide] at hk; cases hk
    · by_cases o1 : op = wtext
      · rw [o1, show takesT wtext = some 0 from by decide] at hk; cases hk
      · rcases takes_12 hk o0 o1 hn with ⟨h, _⟩ | ⟨h, _⟩ <;> simp at h
def rbV (L:List Bnd) (s:Bs):Value × Bool:=match firstB s L with
 | none=>(bvV none,false)
 | some b=>(vlV b.v,decide (1≤b.v.t∧b.v.t≤3))
theorem rbV_some {L:List Bnd} {s:Bs} {b:Bnd} (h:firstB s L = some b):rbV L s = (vlV b.v,decide (1≤b.v.t∧b.v.t≤3)):=by unfold rbV;rw [h]
theorem rbV_none {L:List Bnd} {s:Bs} (h:firstB s L = none):rbV L s = (bvV none,false):=by unfold rbV;rw [h]
theorem rbound (s:Bs) (v:Value) (L:List Bnd) (hL:L.length≤1000000) (w:World) (h:BndV w v L):Calls Tryz.prog 113 #[.string (tx s),v] w fun e w'=>e = .returned (.tuple #[(rbV L s).1,.bool (rbV L s).2])∧Below w.heap.size w w':=by
 obtain ⟨x,cap,rfl,hcap,hx,hc⟩:=h
 have HC:=hid hc
 have HX:=hid hx
 obtain ⟨res,hres⟩:∃ y,y = rbV L s:=⟨_,rfl⟩
 rw [←hres]
 have HR:=hid hres
 obtain ⟨N,hN⟩:∃ N,N = L.length:=⟨_,rfl⟩
 have HN:=hid hN
 have HZ0:Hid (VB (w.alloc (.cells #[.int .i64 0,.float .f64 0,.string ⟨#[]⟩,.bool false] 56)) w.heap.size (.int .i64 0) (.float .f64 0) (.string ⟨#[]⟩) (.bool false)):=hid (heap_alloc_new _ _)
 have HB0:=hid (bel1 w (.cells #[.int .i64 0,.float .f64 0,.string ⟨#[]⟩,.bool false] 56))
 rw [←hN] at hL hcap ⊢
 clear hc hx hN hres
 go_enter Tryz.func113,Tryz.ntmps113
 go_wp2_with fail
 generalize w.alloc (.cells #[.int .i64 0,.float .f64 0,.string ⟨#[]⟩,.bool false] 56) = W0 at HZ0 HB0 ⊢
 go_loopg [6] N (fun gh i wr=>∃ j:Nat,j + gh = N∧i = .int .i64 j∧Hid (firstB s L = firstB s (L.drop j))∧Hid (wr = W0))
 case atStart=>exact ⟨0,by omega,rfl,hid rfl,hid rfl⟩
 case round=>
  obtain ⟨j,hj,rfl,HF,HW⟩:=hrel
  have hW:=HW.out
  subst hW
  clear HW
  have hlt:=HZ0.out.lt
  by_cases q:j < N
  ·have hjl:j < L.length:=by have:=HN.out;omega
   obtain ⟨a,rfl⟩:∃ a,x = some a:=by
    cases x with
    | none=>have:=HX.out rfl;rw [this] at hjl;cases hjl
    | some a=>exact ⟨a,rfl⟩
   obtain ⟨e0,e1,e2,e3,e4⟩:=(HC.out a rfl).2 j L[j] (List.getElem?_eq_getElem hjl)
   have hab:a.block < w.heap.size:=(HC.out a rfl).1 (nil_not hjl)
   have hs:∀ k,wr.heap[(a.add k).block]? = w.heap[(a.add k).block]?:=fun k=>by rw [add_block];exact HB0.out.block _ hab
   have d0:=cell_same (hs _) e0
   have d1:=cell_same (hs _) e1
   have d2:=cell_same (hs _) e2
   have d3:=cell_same (hs _) e3
   have d4:=cell_same (hs _) e4
   rw [add_lit _ _ _ (by decide)] at d1 d2 d3 d4
   clear e0 e1 e2 e3 e4 hs
   have HST:=hid (firstB_step (s:=s) hjl)
   have hne:(a.add (j * 5)).block≠w.heap.size:=by rw [add_block];omega
   obtain ⟨bb,hbb⟩:∃ bb,bb = L[j]:=⟨_,rfl⟩
   rw [←hbb] at d0 d1 d2 d3 d4 HST
   clear hbb
   obtain ⟨nm,t,fn,sv,bv⟩:=bb
   simp only at d0 d1 d2 d3 d4
   by_cases q1:nm = s
   ·subst q1
    have HRV:Hid (res = (vlV ⟨t,fn,sv,bv⟩,decide (1≤t∧t≤3))):=hid (by rw [HR.out];exact rbV_some (by rw [HF.out,HST.out,if_pos rfl]))
    have b0:=tx_same nm
    obtain ⟨k0,k1,k2,k3⟩:=HZ0.out.cells
    have f0:=HZ0.out.fr 0
    have f1:=HZ0.out.fr 1
    have f2:=HZ0.out.fr 2
    have f3:=HZ0.out.fr 3
    clear HF HST HR
    have HP:Hid (VB (putN wr w.heap.size (.int .i64 t) (.float .f64 fn) (.string (tx sv)) (.bool bv)).drew w.heap.size (.int .i64 t) (.float .f64 fn) (.string (tx sv)) (.bool bv)∧Below w.heap.size w (putN wr w.heap.size (.int .i64 t) (.float .f64 fn) (.string (tx sv)) (.bool bv)).drew):=
     hid ⟨HZ0.out.put.below (Below.refl _ _).drew,(below_put HB0.out (Nat.le_refl _)).drew⟩
    by_cases t1:1≤t
    ·by_cases t2:t≤3
     ·have HD:Hid (res = (vlV ⟨t,fn,sv,bv⟩,true)):=hid (by rw [HRV.out,decide_eq_true ⟨t1,t2⟩])
      have g1:decide (1≤t) = true:=decide_eq_true t1
      have g2:decide (t≤3) = true:=decide_eq_true t2
      clear HRV
      go_wp2_with fail
      go_region
      go_wp2
      refine bodyPost_ret (results_cell_tmp rfl _ _ w.heap.size 56 _ _ _ rfl HP.out.1 Tryz.underlying56 rfl (by kernel_rfl)) rfl ?_
      rw [HD.out]
      exact ⟨rfl,HP.out.2⟩
     ·have HD:Hid (res = (vlV ⟨t,fn,sv,bv⟩,false)):=hid (by rw [HRV.out,decide_eq_false (fun h=>t2 h.2)])
      have g1:decide (1≤t) = true:=decide_eq_true t1
      have g2:decide (t≤3) = false:=decide_eq_false t2
      clear HRV
      go_wp2_with fail
      go_region
      go_wp2
      refine bodyPost_ret (results_cell_tmp rfl _ _ w.heap.size 56 _ _ _ rfl HP.out.1 Tryz.underlying56 rfl (by kernel_rfl)) rfl ?_
      rw [HD.out]
      exact ⟨rfl,HP.out.2⟩
    ·have HD:Hid (res = (vlV ⟨t,fn,sv,bv⟩,false)):=hid (by rw [HRV.out,decide_eq_false (fun h=>t1 h.1)])
     have g1:decide (1≤t) = false:=decide_eq_false t1
     clear HRV
     go_wp2_with fail
     go_region
     go_wp2
     refine bodyPost_ret (results_cell_tmp rfl _ _ w.heap.size 56 _ _ _ rfl HP.out.1 Tryz.underlying56 rfl (by kernel_rfl)) rfl ?_
     rw [HD.out]
     exact ⟨rfl,HP.out.2⟩
   ·have b0:((tx nm).toList == (tx s).toList) = false:=by rw [tx_toList,tx_toList];simpa using q1
    have HF2:Hid (firstB s L = firstB s (L.drop (j + 1))):=hid (by rw [HF.out,HST.out,if_neg q1])
    clear q1 HF HST
    go_wp2
    go_roundg (gk - 1)
    case measure=>omega
    case rel=>exact ⟨j + 1,by omega,by go_num,HF2,hid rfl⟩
  ·have HD:Hid (res = (bvV none,false)):=hid (by rw [HR.out];exact rbV_none (by rw [HF.out];exact firstB_end (by have:=HN.out;omega)))
   obtain ⟨k0,k1,k2,k3⟩:=HZ0.out.cells
   have f0:=HZ0.out.fr 0
   have f1:=HZ0.out.fr 1
   have f2:=HZ0.out.fr 2
   have f3:=HZ0.out.fr 3
   have HP:Hid (VB (putN wr w.heap.size (.int .i64 0) (.float .f64 0) (.string ⟨#[]⟩) (.bool false)) w.heap.size (.int .i64 0) (.float .f64 0) (.string ⟨#[]⟩) (.bool false)∧Below w.heap.size w (putN wr w.heap.size (.int .i64 0) (.float .f64 0) (.string ⟨#[]⟩) (.bool false))):=
    hid ⟨HZ0.out.put,below_put HB0.out (Nat.le_refl _)⟩
   clear HR HF
   go_wp2
   refine bodyPost_ret (results_cell_tmp rfl _ _ w.heap.size 56 _ _ _ rfl HP.out.1 Tryz.underlying56 rfl (by kernel_rfl)) rfl ?_
   rw [HD.out]
   exact ⟨rfl,HP.out.2⟩
theorem tyT_of (L:List Bnd) (op s:Bs) (c:List Tree) :
  (if takesT op≠some c.length then (0,190) else if op = wnum then (1,0) else if op = wtext then (2,0)
  else if op = wname then (match boundV L s with | none=>(0,6) | some v=>(v.t.toNat,0))
  else if madeT op (c.map (fun t=>(tyT L t).1)) = 0 then (0,190) else (madeT op (c.map (fun t=>(tyT L t).1)),0)) =
  if takesT op≠some c.length then (0,190) else if op = wname then (match boundV L s with | none=>(0,6) | some v=>(v.t.toNat,0))
  else if ofT op (c.map (fun t=>(tyT L t).1)) = 0 then (0,190) else (ofT op (c.map (fun t=>(tyT L t).1)),0):=by
 generalize c.map (fun t=>(tyT L t).1) = X
 by_cases q:takesT op = some c.length
 ·have hq:¬ (takesT op≠some c.length):=fun e=>e q
  rw [if_neg hq,if_neg hq]
  by_cases o0:op = wnum
  ·have hn:op≠wname:=by rw [o0];decide
   have ho:ofT op X = 1:=by unfold ofT;rw [if_pos o0]
   rw [if_pos o0,if_neg hn,ho];rfl
  ·by_cases o1:op = wtext
   ·have hn:op≠wname:=by rw [o1];decide
    have ho:ofT op X = 2:=by unfold ofT;rw [if_neg o0,if_pos o1]
    rw [if_neg o0,if_pos o1,if_neg hn,ho];rfl
   ·have ho:ofT op X = madeT op X:=by unfold ofT;rw [if_neg o0,if_neg o1]
    rw [if_neg o0,if_neg o1,ho]
 ·rw [if_pos q,if_pos q]
theorem rb_bound {L : List Bnd} {s : Bs} : (boundV L s = none ∧ (rbV L s).2 = false) ∨ ∃ v b, boundV L s = some v ∧ rbV L s = (vlV b, true) ∧ b.t = v.t ∧ plainV b = some v := by
  unfold boundV
  cases h : firstB s L with
  | none => exact .inl ⟨rfl, by rw [rbV_none h]⟩
  | some b =>
    rw [rbV_some h]
    simp only
    unfold plainV
    by_cases t1 : b.v.t = 1
    · rw [if_pos t1]
      exact .inr ⟨_, b.v, rfl, by rw [decide_eq_true (by omega)], t1, by rw [if_pos t1]⟩
    · rw [if_neg t1]
      by_cases t2 : b.v.t = 2
      · rw [if_pos t2]
        exact .inr ⟨_, b.v, rfl, by rw [decide_eq_true (by omega)], t2, by rw [if_neg t1, if_pos t2]⟩
      · rw [if_neg t2]
        by_cases t3 : b.v.t = 3
        · rw [if_pos t3]
          exact .inr ⟨_, b.v, rfl, by rw [decide_eq_true (by omega)], t3, by rw [if_neg t1, if_neg t2, if_pos t3]⟩
        · rw [if_neg t3]
          exact .inl ⟨rfl, decide_eq_false (by omega)⟩
theorem rtyped (L : List Bnd) (hLL : L.length ≤ 1000000) (vb : Value) : ∀ (n : Nat) (t : Tree), szT t ≤ n → ∀ (A : Nat → Prop) (v : Value) (w : World), szT t ≤ 1000000 → NodeV A w v t → BndV w vb L →
    Calls Tryz.prog 85 #[v, vb] w fun e w' => e = .returned (.tuple #[.int .i64 ((tyT L t).1 : Nat), .int .i64 ((tyT L t).2 : Nat)]) ∧ Below w.heap.size w w' := by
  intro n
  induction n with
  | zero => intro t h; cases t; simp only [szT] at h; omega
  | succ n ih =>
    intro t hn A v w hd hv hbv
    obtain ⟨op, fn, s, l⟩ := t
    have HV := hid hv
    have HBV := hid hbv
    obtain ⟨bx, bn, bc, rfl⟩ := hbv.agg
    obtain ⟨x, cap, rfl, hcap, hx, hch⟩ := hv
    have HIH := hid ih
    have HN := hid (show szL l ≤ n by simp only [szT] at hn; omega)
    have HD := hid (show 1 + szL l ≤ 1000000 by simpa only [szT] using hd)
    have HC := hid hch
    have hll : l.length ≤ 1000000 := by have := len_szL l; have := HD.out; omega
    have HX := hid hx
    obtain ⟨R, hR⟩ : ∃ R, R = tyT L (.mk op fn s l) := ⟨_, rfl⟩
    rw [← hR]
    have HR := hid hR
    have HLL := hid hLL
    obtain ⟨N, hN⟩ : ∃ N, N = l.length := ⟨_, rfl⟩
    rw [← hN] at hll hcap HV ⊢
    have HNL := hid hN
    obtain ⟨i0, hi, hi0, hi1, hi2⟩ := info_ty
    have HII := hid (And.intro hi (And.intro hi0 (And.intro hi1 hi2)))
    have HB0 := hid (bel1 w (.cells #[.string (tx op), .float .f64 fn, .string (tx s), .slice x N cap] 87))
    have HA0 : Hid (NB (w.alloc (.cells #[.string (tx op), .float .f64 fn, .string (tx s), .slice x N cap] 87)) w.heap.size (.agg #[.string (tx op), .float .f64 fn, .string (tx s), .slice x N cap])) := hid ⟨_, _, _, _, rfl, heap_alloc_new _ _⟩
    have HO0 : Hid ((w.alloc (.cells #[.string (tx op), .float .f64 fn, .string (tx s), .slice x N cap] 87)).ownsRow (w.heap.size + 1) 48 1 (.slice none 0 0) 0 []) := hid (World.ownsRow_nil _ _ _ _)
    clear hN hn hd hch hx ih hR hbv hi hi0 hi1 hi2 hLL
    go_enter Tryz.func85, Tryz.ntmps85
    go_wp2_with fail
    generalize (w.alloc (.cells #[.string (tx op), .float .f64 fn, .string (tx s), .slice x N cap] 87)) = W0 at HB0 HA0 HO0 ⊢
    go_loopg [6, 7] N (fun gh kv i wr => ∃ j : Nat, j + gh = N ∧ i = .int .i64 j ∧ Hid (∀ i (hi : i < l.length), i < j → (tyT L l[i]).2 = 0) ∧ Hid (wr.ownsRow (w.heap.size + 1) 48 1 kv j (tysV ((l.take j).map (fun t => (tyT L t).1)))) ∧ Hid (NB wr w.heap.size (.agg #[.string (tx op), .float .f64 fn, .string (tx s), .slice x N cap])) ∧ Hid (Below w.heap.size w wr))
    case atStart => exact ⟨0, by omega, rfl, hid (fun i _ h => by omega), HO0, HA0, HB0⟩
    case round =>
      obtain ⟨j, hj, rfl, HG, HO, HNB, HB⟩ := hrel
      obtain ⟨p0, p1, p2, p3, _⟩ := HNB.out.cells
      have hbl := HNB.out.lt
      obtain ⟨kx, kc, rfl⟩ := ownsRow_is HO.out
      clear HA0 HO0 HB0
      by_cases q : j < N
      · have hjl : j < l.length := by have := HNL.out; omega
        obtain ⟨a, rfl⟩ : ∃ a, x = some a := by
          cases x with
          | none => have := HX.out rfl; rw [this] at hjl; cases hjl
          | some a => exact ⟨a, rfl⟩
        obtain ⟨v0, v1, v2, v3, e0, e1, e2, e3, hnode⟩ := NodesV.get l 0 (HC.out a rfl).2 j hjl
        rw [Nat.zero_add] at e0 e1 e2 e3
        have hab : a.block < w.heap.size := ((HC.out a rfl).1 (nil_not hjl)).2
        have hs : ∀ k, wr.heap[(a.add k).block]? = w.heap[(a.add k).block]? := fun k => by rw [add_block]; exact HB.out.block _ hab
        have d0 := cell_same (hs _) e0
        have d1 := cell_same (hs _) e1
        have d2 := cell_same (hs _) e2
        have d3 := cell_same (hs _) e3
        rw [add_lit _ _ _ (by decide)] at d1 d2 d3
        clear e0 e1 e2 e3 hs
        obtain ⟨o1, n1, s1, x1, l1, c1, hag⟩ := hnode.agg
        cases hag
        have HNODE := hid hnode
        clear hnode
        obtain ⟨K1, hK1⟩ : ∃ K, K = (tyT L l[j]).1 := ⟨_, rfl⟩
        obtain ⟨E1, hE1⟩ : ∃ E, E = (tyT L l[j]).2 := ⟨_, rfl⟩
        have HCH : Hid (∀ W, Below w.heap.size w W → Calls Tryz.prog 85 #[.agg #[.string o1, .float .f64 n1, .string s1, .slice x1 l1 c1], .slice bx bn bc] W fun e w' => e = .returned (.tuple #[.int .i64 (K1 : Nat), .int .i64 (E1 : Nat)]) ∧ Below W.heap.size W w') := hid (fun W hW => by
          have h1 := szL_get l j hjl
          have h2 := HN.out
          have h3 := HD.out
          rw [hK1, hE1]
          exact HIH.out l[j] (by omega) A _ W (by omega) (HNODE.out.below hW) (HBV.out.below hW))
        have HB1 := HB
        have HNB1 := HNB
        have HO1 := HO
        by_cases qe : E1 = 0
        · have HG2 : Hid (∀ i (hi : i < l.length), i < j + 1 → (tyT L l[i]).2 = 0) := hid (fun i hi hij => by
            by_cases e : i = j
            · subst e; rw [← hE1]; exact qe
            · exact HG.out i hi (by omega))
          have HTS : Hid (tysV ((l.take (j + 1)).map (fun t => (tyT L t).1)) = tysV ((l.take j).map (fun t => (tyT L t).1)) ++ [.int .i64 (K1 : Nat)]) := hid (by rw [List.take_succ_eq_append_getElem hjl, List.map_append, hK1]; unfold tysV; rw [List.map_append]; rfl)
          subst qe
          have HCH0 : Hid (Calls Tryz.prog 85 #[.agg #[.string o1, .float .f64 n1, .string s1, .slice x1 l1 c1], .slice bx bn bc] wr fun e w' => e = .returned (.tuple #[.int .i64 (K1 : Nat), .int .i64 0]) ∧ Below wr.heap.size wr w') := hid (HCH.out _ HB1.out)
          clear hK1 hE1 HG HCH HNODE
          go_wp2_with (first | (go_at_call 85; fail))
          refine (HCH0.out).mono ?_
          rintro e w2 ⟨rfl, hb2⟩
          have HB2 := hid (HB1.out.trans (below_le hb2 HB1.out.size))
          have HNB2 := hid (HNB1.out.below hb2)
          have HO2 := hid (row_kept HO1.out (fun k hk => hb2.block k (HO1.out.lt k hk).2))
          have hsz2 := HNB2.out.lt
          clear hb2 HB HNB HO HB1 HNB1 HO1 HCH0 d0 d1 d2 d3 p0 p1 p2 p3 hbl
          go_wp2_with (first | (at_builtin; go_loud (refine wpList_append_own _ rfl _ _ 143 rfl (w.heap.size + 1) 48 i0 (.int .i64 0) 1 8 Tryz.underlying143 HII.out.1 HII.out.2.1 HII.out.2.2.1 HII.out.2.2.2 rfl (by decide) _ _ _ rfl (HO2.out.alloc _) ⟨w2.heap.size, 0, none⟩ 1 1 [.int .i64 (K1 : Nat)] rfl rfl (cell_one_new _ _ _) (by simp [Value.oneCell']) (by unfold maxLen; omega) (by omega) (by simp; omega) ?_)))
          intro v' w3 ho1 hg1 _
          have HO3 : Hid (w3.ownsRow (w.heap.size + 1) 48 1 v' (j + 1) (tysV ((l.take (j + 1)).map (fun t => (tyT L t).1)))) := hid (by rw [HTS.out, List.map_take]; exact ho1)
          have HNB3 := hid ((HNB2.out.below ((Below.refl w2.heap.size w2).alloc (Nat.le_refl _) (.cells #[.int .i64 (K1 : Nat)] 48))).kept (hg1.block w.heap.size (by simp; omega) (fun e => by have := HO2.out.lt w.heap.size e.symm; omega)))
          have HB3 : Hid (Below w.heap.size w w3) := hid ((HB2.out.alloc HB2.out.size _).grown hg1 (by have := HB2.out.size; simp; omega) (fun k e => by have := HO2.out.lt k e; omega))
          clear ho1 hg1 HB2 HNB2 HO2
          go_wp2
          go_roundg (gk - 1)
          case measure => omega
          case rel => exact ⟨j + 1, by omega, by go_num, HG2, HO3, HNB3, HB3⟩
        · have HRE : Hid (R = (0, E1)) := hid (by rw [HR.out, tyT_bad L op s fn l j hjl HG.out (by rw [← hE1]; exact qe), hE1])
          have q1 : ((E1 : Int) == 0) = false := by simpa using (show ¬ ((E1 : Int) = 0) by omega)
          clear hK1 hE1 HG HNODE
          go_wp2_with (first | (go_at_call 85; fail))
          refine (HCH.out _ HB1.out).mono ?_
          rintro e w2 ⟨rfl, hb2⟩
          have HB2 := hid (HB1.out.trans (below_le hb2 HB1.out.size))
          clear hb2 d0 d1 d2 d3
          go_wp2
          go_ret2
          exact ⟨by rw [HRE.out]; rfl, HB2.out⟩
      · have e : j = l.length := by have := HNL.out; omega
        have HG2 : Hid (∀ i (hi : i < l.length), (tyT L l[i]).2 = 0) := hid (fun i hi => HG.out i hi (by omega))
        have HRG := hid (HR.out.trans (tyT_good L op s fn l HG2.out))
        have HTY : Hid (TyV wr (.slice kx j kc) (l.map (fun t => (tyT L t).1))) := hid (by
          have h := HO.out
          rw [show l.take j = l by rw [e, List.take_length]] at h
          exact tyV_row (by rw [List.length_map, ← e]; exact h))
        have HRG2 := hid (HRG.out.trans (tyT_of L op s l))
        rw [← HNL.out] at HRG2
        have HTK := hid (fun W => rtakes op W)
        have HBN := hid (fun W h => rbound s (.slice bx bn bc) L HLL.out W h)
        have HOF : Hid (takesT op = some N → op ≠ wname → ∀ W, Below wr.heap.size wr W → Calls Tryz.prog 114 #[.string (tx op), .slice kx j kc] W fun e w' => e = .returned (.int .i64 (ofT op (l.map (fun t => (tyT L t).1)) : Nat)) ∧ W = w') := hid (fun ht hn W hW => by
          refine rof op _ _ (fun t ht => ?_) (by rw [List.length_map, ← HNL.out]; exact ht) hn W ?_
          · obtain ⟨u, hu, rfl⟩ := List.mem_map.1 ht
            obtain ⟨i, hi, rfl⟩ := List.getElem_of_mem hu
            exact ty_range (HG2.out i hi)
          · obtain ⟨y, yc, hy, h1, h2, h3⟩ := HTY.out
            refine ⟨y, yc, hy, h1, h2, fun a ha i t hi => ?_⟩
            have h4 := h3 a ha i t hi
            exact cell_same (hW.block _ (cell_lt h4)) h4)
        clear HO HG HTY HC HIH HG2 e HRG HV
        by_cases ht : takesT op = some N
        · have HTK1 : Hid (∀ W, Calls Tryz.prog 112 #[.string (tx op)] W fun e w' => e = .returned (.int .i64 N) ∧ W = w') := hid (fun W => by
            have h := HTK.out W
            unfold takesR at h
            rw [ht] at h
            exact h)
          have b0 : ((N : Int) != (N : Int)) = false := bne_self_eq_false _
          rw [if_neg (fun h => h ht)] at HRG2
          have HOF1 := hid (HOF.out ht)
          clear HOF HTK ht
          go_wp2_with fail
          go_quiet ((go_at_call 112; exact quiet_eq (HTK1.out _)))
          have HBK := hid (fun k => below_drewN HB.out k)
          by_cases o2 : op = wname
          · have b2 : ((tx op).toList == [110, 97, 109, 101]) = true := by rw [o2]; exact tx_same _
            rw [if_pos o2] at HRG2
            clear o2 HOF1
            generalize tx op = T at *
            rcases rb_bound (L := L) (s := s) with ⟨h1, h2⟩ | ⟨bv, bb, h1, h2, h3, h4⟩
            · rw [h1] at HRG2
              obtain ⟨rv, hrv⟩ : ∃ rv, rv = (rbV L s).1 := ⟨_, rfl⟩
              rw [h2, ← hrv] at HBN
              have HZ : Hid (∃ u0 u1 u2 u3, rv = .agg #[.int .i64 u0, .float .f64 u1, .string u2, .bool u3]) := hid (by
                rw [hrv]
                unfold rbV
                split
                · exact ⟨_, _, _, _, rfl⟩
                · exact ⟨_, _, _, _, rfl⟩)
              clear h1 h2 hrv
              obtain ⟨u0, u1, u2, u3, rfl⟩ := HZ.out
              go_wp2_with (first | (go_at_call 113; fail))
              refine (HBN.out _ (HBV.out.below (HBK.out _))).mono ?_
              rintro e w3 ⟨rfl, hb3⟩
              have HB3 := hid (fun c => ((HBK.out _).trans (below_le hb3 (HBK.out _).size)).alloc (by have := (HBK.out 0).size; have h9 : wr.heap.size ≤ w3.heap.size := hb3.size; have h8 : w.heap.size ≤ wr.heap.size := HB.out.size; omega) c)
              clear hb3
              go_wp2
              go_ret2
              exact ⟨by rw [HRG2.out]; rfl, HB3.out _⟩
            · rw [h1] at HRG2
              rw [h2] at HBN
              have HT3 : Hid (bb.t = ((bv.t.toNat : Nat) : Int)) := hid (by
                have h5 := bound_t h1
                rw [h3]
                omega)
              clear h1 h2 h3 h4
              obtain ⟨vt, vn, vs, vb'⟩ := bb
              unfold vlV at HBN
              go_wp2_with (first | (go_at_call 113; fail))
              refine (HBN.out _ (HBV.out.below (HBK.out _))).mono ?_
              rintro e w3 ⟨rfl, hb3⟩
              have HB3 := hid (fun c => ((HBK.out _).trans (below_le hb3 (HBK.out _).size)).alloc (by have h9 : wr.heap.size ≤ w3.heap.size := hb3.size; have h8 : w.heap.size ≤ wr.heap.size := HB.out.size; omega) c)
              clear hb3
              go_wp2
              go_ret2
              refine ⟨?_, HB3.out _⟩
              rw [HRG2.out]
              have h3 : vt = ((bv.t.toNat : Nat) : Int) := HT3.out
              rw [h3]
              rfl
          · have b2 : ((tx op).toList == [110, 97, 109, 101]) = false := tx_ne o2
            rw [if_neg o2] at HRG2
            have HOF2 := hid (HOF1.out o2)
            obtain ⟨M, hM⟩ : ∃ M, M = ofT op (l.map (fun t => (tyT L t).1)) := ⟨_, rfl⟩
            rw [← hM] at HRG2 HOF2
            clear o2 hM HOF1
            generalize tx op = T at *
            have hdr : ∀ k, Below wr.heap.size wr (wr.drewN k) := fun k => below_drewN (Below.refl _ _) k
            by_cases m0 : M = 0
            · subst m0
              rw [if_pos rfl] at HRG2
              have HOF3 : Hid (∀ k, Calls Tryz.prog 114 #[.string T, .slice kx j kc] (wr.drewN k) fun e w' => e = .returned (.int .i64 0) ∧ wr.drewN k = w') := hid (fun k => HOF2.out _ (hdr k))
              clear HOF2 hdr
              go_wp2_with (first | (go_at_call 114; refine (HOF3.out _).mono ?_; rintro e w3 ⟨rfl, rfl⟩))
              go_ret2
              exact ⟨by rw [HRG2.out]; rfl, HBK.out _⟩
            · rw [if_neg m0] at HRG2
              have m1 : ((M : Int) == 0) = false := by simpa using (show ¬ ((M : Int) = 0) by omega)
              have HOF3 := hid (fun k => HOF2.out _ (hdr k))
              clear HOF2 hdr
              go_wp2_with (first | (go_at_call 114; refine (HOF3.out _).mono ?_; rintro e w3 ⟨rfl, rfl⟩))
              go_ret2
              exact ⟨by rw [HRG2.out]; rfl, HBK.out _⟩
        · have HTK1 : Hid (∃ K : Int, ((K != (N : Int)) = true) ∧ ∀ W, Calls Tryz.prog 112 #[.string (tx op)] W fun e w' => e = .returned (.int .i64 K) ∧ W = w') := hid (by
            refine ⟨takesR op, ?_, HTK.out⟩
            unfold takesR
            cases hk : takesT op with
            | none => simp only [bne_iff_ne]; omega
            | some k =>
              rw [hk] at ht
              simp only [bne_iff_ne]
              intro e
              exact ht (by rw [show k = N by omega]))
          obtain ⟨K, hK, hTK⟩ := HTK1.out
          have HTK2 := hid hTK
          have b0 : (K == (N : Int)) = false := by simpa using hK
          rw [if_pos ht] at HRG2
          clear HOF HTK HTK1 ht hTK hK
          go_wp2_with fail
          go_quiet ((go_at_call 112; exact quiet_eq (HTK2.out _)))
          have HBK := hid (fun k => below_drewN HB.out k)
          go_wp2
          go_ret2
          exact ⟨by rw [HRG2.out]; rfl, HBK.out _⟩
end Go.Proofs.YtpcbamcelpcigaaGreat
