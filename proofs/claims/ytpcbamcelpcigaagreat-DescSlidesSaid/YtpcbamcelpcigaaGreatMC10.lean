/- Own texts, merged. -/
import Derived.WalkKit
import Derived.RangeFuncNested
import Derived.RangeFuncBound
import Derived.RangeFuncCalls
import Derived.RangeFuncLeaves
import Derived.RangeFuncBox
import Derived.Shelf.Abstract
import Derived.Shelf.RegionOpen
import Derived.OwnWalkIn
import Derived.TacticsInMore
import Derived.LoopNIn
import Derived.LoopIn
import Derived.Test.YtpcbamcelpcigaaGreatMC01
import Derived.Test.YtpcbamcelpcigaaGreatMC04
import Derived.Test.YtpcbamcelpcigaaGreatMC05
import Derived.Test.YtpcbamcelpcigaaGreatMC00
set_option maxRecDepth 100000
set_option maxHeartbeats 32000000
open Go.Lib (hid)
namespace Go.Proofs.YtpcbamcelpcigaaGreat
open Go.RowKit Go.Shelf
open Ieee
theorem call_bits (x:Nat) (w:World):(callFunc 69 #[.float .f64 x]).run Tryz.prog w = .ok (.value (.int .u64 x)) w:=by
 rw [run_callFunc_extern (P:=Tryz.prog) (f:=69) (fn:=Tryz.f69) (e:=Extern.MathFloatBits.float64bits) (by kernel_rfl) (by kernel_rfl) (by kernel_rfl) (by kernel_rfl) (by kernel_rfl)]
 rfl
theorem ord_nan {x:Nat} (h:isNan x = true):FloatKind.f64.format.order x x = none:=order_nan x x (.inl h)
theorem ord_num {x:Nat} (h:isNan x = false):FloatKind.f64.format.order x x = some .eq:=by
 have:=order_val x x h h
 rw [show FloatKind.f64.format = Ieee.double from rfl,this];simp
theorem tkey (x:Nat) (hx:x < 18446744073709551616) (w:World):Calls Tryz.prog 44 #[.float .f64 x] w fun e w'=>e = .returned (.int .u64 (keyN x:Nat))∧w = w':=by
 have hb:=call_bits
 have hsg:IntKind.u64.signed = false:=rfl
 cases hn:isNan x
 ·have ho:=ord_num hn
  rcases Nat.lt_or_ge x (2 ^ 63) with h | h
  ·have e:keyN x = x + 9223372036854775808:=by unfold keyN;rw [hn];simp only [Bool.false_eq_true,if_false];rw [if_pos (by omega)]
   have E:=hid e
   have a:=u64_and_top x (by omega)
   rw [if_pos h] at a
   have o:=u64_or_top x h
   clear e hn h hx
   go_enter Tryz.func44,Tryz.ntmps44
   go_wp2
   go_ret
   exact ⟨ret_int (by rw [E.out];omega),rfl⟩
  ·have e:keyN x = 18446744073709551615 - x:=by unfold keyN;rw [hn];simp only [Bool.false_eq_true,if_false];rw [if_neg (by omega)]
   have E:=hid e
   have a:=u64_and_top x (by omega)
   rw [if_neg (by omega)] at a
   have o:=u64_not x (by omega)
   clear e hn h hx
   go_enter Tryz.func44,Tryz.ntmps44
   go_wp2
   go_ret
   exact ⟨ret_int (by rw [E.out]),rfl⟩
 ·have ho:=ord_nan hn
  have E:=hid (Go.Proofs.YtpcbamcelpcigaaGreat.key_nan x hn)
  clear hn
  go_enter Tryz.func44,Tryz.ntmps44
  go_wp2
  go_ret
  exact ⟨ret_int (by rw [E.out];rfl),rfl⟩
theorem ord_val {a b:Nat} (ha:isNan a = false) (hb:isNan b = false):FloatKind.f64.format.order a b = some (compare (sv a) (sv b)):=order_val a b ha hb
theorem ord_cases {a b:Nat} (ha:isNan a = false) (hb:isNan b = false) :
  (sv a < sv b∧FloatKind.f64.format.order a b = some .lt)∨(sv a = sv b∧FloatKind.f64.format.order a b = some .eq)∨(sv b < sv a∧FloatKind.f64.format.order a b = some .gt):=by
 rw [ord_val ha hb]
 rcases Int.lt_trichotomy (sv a) (sv b) with h | h | h
 ·exact .inl ⟨h,by rw [Int.compare_eq_lt.2 h]⟩
 ·exact .inr (.inl ⟨h,by rw [h];simp⟩)
 ·exact .inr (.inr ⟨h,by rw [Int.compare_eq_gt.2 h]⟩)
def maxF:Nat:=9218868437227405311
def minF:Nat:=18442240474082181119
theorem nan_max:isNan maxF = false:=by decide
theorem nan_min:isNan minF = false:=by decide
theorem rung_max:rung maxF = 2047 * 2 ^ 52 - 1:=by decide
theorem rung_min:rung minF = 2047 * 2 ^ 52 - 1:=by decide
theorem neg_max:isNeg maxF = false:=by decide
theorem neg_min:isNeg minF = true:=by decide
theorem valN_top:valN (2047 * 2 ^ 52 - 1) < valN (2047 * 2 ^ 52):=valN_lt (by decide)
theorem fin_tests (x:Nat):(finB x = true→(FloatKind.f64.format.order x 18442240474082181119 == some .gt || FloatKind.f64.format.order x 18442240474082181119 == some .eq) = true∧(FloatKind.f64.format.order x 9218868437227405311 == some .lt || FloatKind.f64.format.order x 9218868437227405311 == some .eq) = true)∧
  (finB x = false→(FloatKind.f64.format.order x 18442240474082181119 == some .gt || FloatKind.f64.format.order x 18442240474082181119 == some .eq) = false∨((FloatKind.f64.format.order x 18442240474082181119 == some .gt || FloatKind.f64.format.order x 18442240474082181119 == some .eq) = true∧(FloatKind.f64.format.order x 9218868437227405311 == some .lt || FloatKind.f64.format.order x 9218868437227405311 == some .eq) = false)):=by
 show (finB x = true→(FloatKind.f64.format.order x minF == some .gt || FloatKind.f64.format.order x minF == some .eq) = true∧(FloatKind.f64.format.order x maxF == some .lt || FloatKind.f64.format.order x maxF == some .eq) = true)∧
  (finB x = false→(FloatKind.f64.format.order x minF == some .gt || FloatKind.f64.format.order x minF == some .eq) = false∨((FloatKind.f64.format.order x minF == some .gt || FloatKind.f64.format.order x minF == some .eq) = true∧(FloatKind.f64.format.order x maxF == some .lt || FloatKind.f64.format.order x maxF == some .eq) = false))
 have vmax:sv maxF = valN (2047 * 2 ^ 52 - 1):=by unfold sv;rw [neg_max,rung_max];rfl
 have vmin:sv minF = -(valN (2047 * 2 ^ 52 - 1):Int):=by unfold sv;rw [neg_min,rung_min];rfl
 have vt:=valN_top
 generalize hT:valN (2047 * 2 ^ 52 - 1) = T at *
 constructor
 ·intro h
  have hn:=fin_num h
  have hv:valN (rung x)≤T:=by rw [←hT];exact valN_le (by simp only [finB,decide_eq_true_eq] at h;omega)
  have hs:-(T:Int)≤sv x∧sv x≤T:=by unfold sv;split <;> omega
  constructor
  ·rcases ord_cases hn nan_min with ⟨k,r⟩ | ⟨k,r⟩ | ⟨k,r⟩
   ·omega
   ·rw [r];rfl
   ·rw [r];rfl
  ·rcases ord_cases hn nan_max with ⟨k,r⟩ | ⟨k,r⟩ | ⟨k,r⟩
   ·rw [r];rfl
   ·rw [r];rfl
   ·omega
 ·intro h
  cases hn:isNan x
  ·have hr:rung x = 2047 * 2 ^ 52:=by simp only [finB,isNan,decide_eq_false_iff_not] at h hn;omega
   have hs:sv x = if isNeg x then -(valN (2047 * 2 ^ 52):Int) else valN (2047 * 2 ^ 52):=by unfold sv;rw [hr]
   generalize valN (2047 * 2 ^ 52) = U at *
   cases hg:isNeg x
   ·rw [hg] at hs;simp only [Bool.false_eq_true,if_false] at hs
    right
    constructor
    ·rcases ord_cases hn nan_min with ⟨k,r⟩ | ⟨k,r⟩ | ⟨k,r⟩
     ·omega
     ·rw [r];rfl
     ·rw [r];rfl
    ·rcases ord_cases hn nan_max with ⟨k,r⟩ | ⟨k,r⟩ | ⟨k,r⟩
     ·omega
     ·omega
     ·rw [r];rfl
   ·rw [hg] at hs;simp only [if_true] at hs
    left
    rcases ord_cases hn nan_min with ⟨k,r⟩ | ⟨k,r⟩ | ⟨k,r⟩
    ·rw [r];rfl
    ·omega
    ·omega
  ·left
   have:FloatKind.f64.format.order x minF = none:=order_nan _ _ (.inl hn)
   rw [this];rfl
theorem tfinite (x:Nat) (w:World):Calls Tryz.prog 71 #[.float .f64 x] w fun e w'=>e = .returned (.bool (finB x))∧w = w':=by
 obtain ⟨ht,hf⟩:=fin_tests x
 cases h:finB x
 ·rcases hf h with h1 | ⟨h1,h2⟩
  ·clear ht hf h
   go_enter Tryz.func71,Tryz.ntmps71;go_wp2;go_ret;exact ⟨rfl,rfl⟩
  ·clear ht hf h
   go_enter Tryz.func71,Tryz.ntmps71;go_wp2;go_ret;exact ⟨rfl,rfl⟩
 ·obtain ⟨h1,h2⟩:=ht h
  clear ht hf h
  go_enter Tryz.func71,Tryz.ntmps71;go_wp2;go_ret;exact ⟨rfl,rfl⟩
theorem tvalue (lo step:Nat) (k:Nat) (hl:finB lo = true) (hs:finB step = true) (hk:k < 2 ^ 53) (w:World):Calls Tryz.prog 68 #[.float .f64 lo,.float .f64 step,.int .i64 k] w fun e w'=>e = .returned (.float .f64 (valB lo step k))∧w = w':=by
 have h1:floatBits .mul .f64 (floatOfInt .f64 k) step = some (prodB step k):=(prodB_eq step k hs hk).1
 have h2:floatBits .add .f64 lo (prodB step k) = some (valB lo step k):=(valB_eq lo step k hl hs hk).1
 have m:=fun w':World=>run_float_arith (P:=Tryz.prog) w' .mul 37 .f64 _ _ _ h1
 have a:=fun w':World=>run_float_arith (P:=Tryz.prog) w' .add 37 .f64 _ _ _ h2
 clear h1 h2 hl hs hk
 go_enter Tryz.func68,Tryz.ntmps68;go_wp2;go_ret;exact ⟨rfl,rfl⟩
theorem sv_zero0:sv 0 = 0:=by decide
theorem nan_zero:isNan 0 = false:=by decide
theorem le_test {a b:Nat} (c:Bool) (h:leB a b = c):(FloatKind.f64.format.order a b == some .lt || FloatKind.f64.format.order a b == some .eq) = c:=h
theorem tsteps_bad (lo hi step:Nat) (w:World) (h:stepsBad lo hi step = true):Calls Tryz.prog 47 #[.float .f64 lo,.float .f64 hi,.float .f64 step] w fun e w'=>e = .returned (.tuple #[.int .i64 0,.int .i64 180])∧w = w':=by
 cases f1:finB lo
 ·clear h
  go_enter Tryz.func47,Tryz.ntmps47
  go_wp2_with (go_at_call 71;refine (tfinite _ _).mono ?_;rintro e w' ⟨rfl,rfl⟩)
  go_ret2;exact ⟨rfl,rfl⟩
 cases f2:finB hi
 ·clear h
  go_enter Tryz.func47,Tryz.ntmps47
  go_wp2_with (go_at_call 71;refine (tfinite _ _).mono ?_;rintro e w' ⟨rfl,rfl⟩)
  go_ret2;exact ⟨rfl,rfl⟩
 cases f3:finB step
 ·clear h
  go_enter Tryz.func47,Tryz.ntmps47
  go_wp2_with (go_at_call 71;refine (tfinite _ _).mono ?_;rintro e w' ⟨rfl,rfl⟩)
  go_ret2;exact ⟨rfl,rfl⟩
 simp only [stepsBad,f1,f2,f3,Bool.not_true,Bool.false_or,Bool.or_eq_true,decide_eq_true_eq] at h
 rcases ord_cases (fin_num f1) (fin_num f2) with ⟨k,r⟩ | ⟨k,r⟩ | ⟨k,r⟩
 case inr.inr=>
  clear h k
  go_enter Tryz.func47,Tryz.ntmps47
  go_wp2_with (go_at_call 71;refine (tfinite _ _).mono ?_;rintro e w' ⟨rfl,rfl⟩)
  go_ret2;exact ⟨rfl,rfl⟩
 all_goals
  have h4:sv step≤0:=by omega
  rcases ord_cases (fin_num f3) nan_zero with ⟨q,t⟩ | ⟨q,t⟩ | ⟨q,t⟩
  case inr.inr=>rw [sv_zero0] at q;omega
  all_goals
   clear h k q h4
   go_enter Tryz.func47,Tryz.ntmps47
   go_wp2_with (go_at_call 71;refine (tfinite _ _).mono ?_;rintro e w' ⟨rfl,rfl⟩)
   go_ret2;exact ⟨rfl,rfl⟩
theorem tsteps_good (lo hi step:Nat) (w:World) (h:stepsBad lo hi step = false):Calls Tryz.prog 47 #[.float .f64 lo,.float .f64 hi,.float .f64 step] w fun e w'=>e = .returned (.tuple #[.int .i64 (stepsN lo hi step:Nat),.int .i64 (stepsE lo hi step)])∧w = w':=by
 have g:=h
 simp only [stepsBad,Bool.or_eq_false_iff,Bool.not_eq_false',decide_eq_false_iff_not] at g
 obtain ⟨f1,f2,f3,g4,g5⟩:=g
 have HV:=hid (fun k hk=>tvalue lo step k f1 f3 hk)
 have HS:=hid (stepsRaw_eq lo hi step)
 have e1:stepsN lo hi step = if 10001 < stepsRaw lo hi step then 0 else stepsRaw lo hi step:=by unfold stepsN;rw [h];simp only [Bool.false_eq_true,if_false]
 have e2:stepsE lo hi step = if 10001 < stepsRaw lo hi step then 180 else 0:=by unfold stepsE;rw [h];simp only [Bool.false_eq_true,if_false]
 have E1:=hid e1
 have E2:=hid e2
 rcases ord_cases (fin_num f1) (fin_num f2) with ⟨k,r⟩ | ⟨k,r⟩ | ⟨k,r⟩
 case inr.inr=>omega
 all_goals
  rcases ord_cases (fin_num f3) nan_zero with ⟨q,t⟩ | ⟨q,t⟩ | ⟨q,t⟩
  case inl=>rw [sv_zero0] at q;omega
  case inr.inl=>rw [sv_zero0] at q;omega
  clear k q g4 g5 h e1 e2
  go_enter Tryz.func47,Tryz.ntmps47
  go_wp2_with (go_at_call 71;refine (tfinite _ _).mono ?_;rintro e w' ⟨rfl,rfl⟩)
  go_loop [8] (fun i=>∃ k:Nat,k≤10002∧i = .int .i64 k∧Hid (∀ j,j < k→leB (valB lo step j) hi = true)) (fun i=>10002 - (intOf i).toNat)
  case atStart=>exact ⟨0,by omega,rfl,fun j hj=>absurd hj (by omega)⟩
  case round=>
   obtain ⟨k,hk,rfl,hall⟩:=hrel
   by_cases hlt:k≤10001
   ·cases hp:leB (valB lo step k) hi
    ·have hraw:=hid (HS.out k (by omega) hall.out (.inr hp))
     have hp':=le_test _ hp
     have hng:¬ 10001 < k:=by omega
     have HNG:=hid hng
     have ht1:decide ((k:Int)≤10001) = true:=by simp;omega
     have ht2:decide ((10001:Int) < (k:Int)) = false:=by simp;omega
     have HK:=hid (show k < 2 ^ 53 by omega)
     clear hp hng hlt hk
     go_wp2_with (go_at_call 68;refine (HV.out k HK.out _).mono ?_;rintro e w' ⟨rfl,rfl⟩)
     go_ret2
     have hr:=hraw.out
     exact ⟨by rw [E1.out,E2.out,hr,if_neg HNG.out,if_neg HNG.out];rfl,rfl⟩
    ·have hall2:Hid (∀ j,j < k + 1→leB (valB lo step j) hi = true):=fun j hj=>by
      rcases Nat.lt_or_ge j k with z | z
      ·exact hall.out j z
      ·rw [show j = k by omega];exact hp
     have hp':=le_test _ hp
     clear hp
     go_wp2_with (go_at_call 68;refine (HV.out k (by omega) _).mono ?_;rintro e w' ⟨rfl,rfl⟩)
     go_round
     case rel=>exact ⟨k + 1,by omega,by go_num,hall2⟩
     case measure=>simp [intOf];omega
   ·have hk2:k = 10002:=by omega
    subst hk2
    have hraw:=hid (HS.out 10002 (by omega) hall.out (.inl rfl))
    go_wp2_with fail
    go_ret2
    have hr:=hraw.out
    exact ⟨by rw [E1.out,E2.out,hr,if_pos (by omega),if_pos (by omega)];rfl,rfl⟩
theorem tsteps (lo hi step:Nat) (w:World):Calls Tryz.prog 47 #[.float .f64 lo,.float .f64 hi,.float .f64 step] w fun e w'=>e = .returned (.tuple #[.int .i64 (stepsN lo hi step:Nat),.int .i64 (stepsE lo hi step)])∧w = w':=by
 cases h:stepsBad lo hi step
 ·exact tsteps_good lo hi step w h
 ·have e1:stepsN lo hi step = 0:=by unfold stepsN;rw [h];simp only [if_true]
  have e2:stepsE lo hi step = 180:=by unfold stepsE;rw [h];simp only [if_true]
  rw [e1,e2]
  exact tsteps_bad lo hi step w h
end Go.Proofs.YtpcbamcelpcigaaGreat
namespace Go.Proofs.YtpcbamcelpcigaaGreat
open Go.RowKit Go.Shelf
attribute [local go_sem] Oper.semAt_some
def KeepB (n₀ b₀:Nat) (A B:World):Prop:=Below n₀ A B∧∀ j,j < 3→B.heap[b₀ + j]? = A.heap[b₀ + j]?
theorem KeepB.refl (n₀ b₀:Nat) (A:World):KeepB n₀ b₀ A A:=⟨Below.refl _ _,fun _ _=>rfl⟩
theorem KeepB.trans {n₀ b₀:Nat} {A B C:World} (h:KeepB n₀ b₀ A B) (k:KeepB n₀ b₀ B C):KeepB n₀ b₀ A C:=⟨h.1.trans k.1,fun j hj=>(k.2 j hj).trans (h.2 j hj)⟩
theorem KeepB.cell {n₀ b₀:Nat} {A B:World} (h:KeepB n₀ b₀ A B) (j:Nat) (hj:j < 3) {v:Value} (hv:A.cell? ⟨b₀ + j,0,none⟩ = some v):B.cell? ⟨b₀ + j,0,none⟩ = some v:=(World.cell?_of_block (h.2 j hj)).trans hv
def upto (lo step:Nat) (k:Nat):List (Nat × Nat):=(List.range k).map fun i=>(i,valB lo step i)
theorem upto_succ (lo step k:Nat):upto lo step (k + 1) = upto lo step k ++ [(k,valB lo step k)]:=by simp [upto,List.range_succ]
theorem upto_length (lo step k:Nat):(upto lo step k).length = k:=by simp [upto]
theorem steps_fin {lo hi step:Nat} (h:0 < stepsN lo hi step):finB lo = true∧finB step = true∧finB hi = true∧stepsN lo hi step≤10001:=by
 unfold stepsN at h ⊢
 cases hb:stepsBad lo hi step
 ·simp only [stepsBad,Bool.or_eq_false_iff,Bool.not_eq_false'] at hb
  refine ⟨hb.1,hb.2.2.1,hb.2.1,?_⟩
  simp only [Bool.false_eq_true,if_false]
  split <;> omega
 ·rw [hb] at h;simp at h
theorem all1_in (l b₀ n₀ lo hi step:Nat) (J Jx:List (Nat × Nat)→World→Prop)
  (hY:∀ pre x W,J pre W→pre.length < stepsN lo hi step→x = (pre.length,valB lo step pre.length)→YieldAt Fence.wide 4 Tryz.prog l #[.int .i64 ((x.1:Nat):Int),.float .f64 x.2] W fun e W'=>
   (e = .returned (.bool true)∧J (pre ++ [x]) W'∧KeepB n₀ b₀ W W')∨(e = .returned (.bool false)∧Jx (pre ++ [x]) W'))
  (W:World) (h0:W.cell? ⟨b₀,0,none⟩ = some (.float .f64 lo)) (h1:W.cell? ⟨b₀ + 1,0,none⟩ = some (.float .f64 hi)) (h2:W.cell? ⟨b₀ + 2,0,none⟩ = some (.float .f64 step)) (hJ0:J [] W) :
  CallsIn Fence.wide 5 Tryz.prog 70 #[.func (.yield l) #[] #[],.pointer (some ⟨b₀,0,none⟩),.pointer (some ⟨b₀ + 1,0,none⟩),.pointer (some ⟨b₀ + 2,0,none⟩)] W fun e W'=>(∃ v,e = .returned v)∧
   ((∃ xs,xs = upto lo step (stepsN lo hi step)∧J xs W')∨(∃ pre,(∃ k,k≤stepsN lo hi step∧0 < k∧pre = upto lo step k)∧Jx pre W')):=by
 have SF:=hid (fun h=>steps_fin (lo:=lo) (hi:=hi) (step:=step) h)
 obtain ⟨N,hN⟩:∃ N,stepsN lo hi step = N:=⟨_,rfl⟩
 rw [hN] at hY SF ⊢
 have HY:=hid hY
 have HN:=hid hN
 have hle:N≤10001:=by
  rcases Nat.eq_zero_or_pos N with h | h
  ·omega
  ·exact (SF.out h).2.2.2
 clear hN hY
 refine callsIn_of_wp Tryz.func70 rfl trivial ?_ rfl
 simp only [Tryz.ntmps70,List.size_toArray,List.length_cons,List.length_nil,Nat.reduceAdd,Nat.reduceSub,Array.replicate_succ,Array.replicate_zero,List.push_toArray,List.append_toArray,List.nil_append,List.cons_append]
 gi_wp2_with (refine ⟨trivial,?_⟩;gi_at_call 47;refine (callsIn_wide.2 (tsteps _ _ _ _)).mono ?_;rintro e w' ⟨rfl,rfl⟩;rw [HN.out])
 gi_loopw [7] (fun i wr=>∃ k:Nat,k≤N∧i = .int .i64 k∧J (upto lo step k) wr∧KeepB n₀ b₀ W wr) (fun i _=>N - (intOf i).toNat)
 case atStart=>exact ⟨0,Nat.zero_le _,rfl,hJ0,KeepB.refl _ _ _⟩
 case round=>
  obtain ⟨k,hk,rfl,hJs,hkp⟩:=hrel
  have c0:=hkp.cell 0 (by omega) h0
  have c1:=hkp.cell 1 (by omega) h1
  have c2:=hkp.cell 2 (by omega) h2
  rw [Nat.add_zero] at c0
  by_cases hlt:k < N
  ·obtain ⟨fl,fs,_,_⟩:=SF.out (by omega)
   have FL:=hid fl
   have FS:=hid fs
   obtain ⟨fn,tmps,assign,body,hy,hR⟩:=HY.out _ (k,valB lo step k) wr hJs (by rw [upto_length];exact hlt) (by rw [upto_length])
   dsimp only at hy
   have HR:=hid hR
   clear fl fs hR
   gi_wp2_with (refine ⟨trivial,?_⟩;gi_at_call 68;refine (callsIn_wide.2 (tvalue lo step k FL.out FS.out (by omega) _)).mono ?_;rintro e w' ⟨rfl,rfl⟩)
   refine HR.out.mono ?_
   rintro e W3 (⟨rfl,hJ3,hk3⟩ | ⟨rfl,hJx3⟩)
   ·gi_wp2
    go_roundw
    case rel=>exact ⟨k + 1,by omega,by go_num,by rw [upto_succ];exact hJ3,hkp.trans hk3⟩
    case measure=>simp [intOf];omega
   ·gi_wp2
    refine bodyPost_ret (results_none rfl _ _ _) rfl ?_
    exact ⟨⟨_,rfl⟩,.inr ⟨_,⟨k + 1,by omega,by omega,(upto_succ _ _ _).symm⟩,hJx3⟩⟩
  ·obtain rfl:k = N:=by omega
   gi_wp2
   go_end0
   exact ⟨⟨_,rfl⟩,.inl ⟨_,rfl,hJs⟩⟩
def ThreeBoxes (W:World) (b₀ lo hi step:Nat):Prop:=W.cell? ⟨b₀,0,none⟩ = some (.float .f64 lo)∧W.cell? ⟨b₀ + 1,0,none⟩ = some (.float .f64 hi)∧W.cell? ⟨b₀ + 2,0,none⟩ = some (.float .f64 step)
def place (lo step:Nat) {N:Nat} (x:Fin N):Nat × Nat:=(x.1,valB lo step x.1)
theorem all_stops (n₀ b₀ lo hi step:Nat) (w:World) (hb:b₀ + 3≤w.heap.size) (hc:ThreeBoxes w b₀ lo hi step) :
  SeqStopsK Fence.wide 5 Tryz.prog 70 #[.pointer (some ⟨b₀,0,none⟩),.pointer (some ⟨b₀ + 1,0,none⟩),.pointer (some ⟨b₀ + 2,0,none⟩)] (fun x:Fin (stepsN lo hi step)=>#[Value.int .i64 ((x.1:Nat):Int),Value.float .f64 (valB lo step x.1)]) (KeepB n₀ b₀)
   (fun xs=>xs.map (place lo step) = upto lo step (stepsN lo hi step)) (fun pre=>∃ k,k≤stepsN lo hi step∧0 < k∧pre.map (place lo step) = upto lo step k) (stepsN lo hi step) w:=fun l J Jx W hW _ _ hY h0=>by
 refine (all1_in l b₀ n₀ lo hi step (fun q W=>∃ fs:List (Fin (stepsN lo hi step)),q = fs.map (place lo step)∧J fs W) (fun q W=>∃ fs:List (Fin (stepsN lo hi step)),q = fs.map (place lo step)∧Jx fs W) ?_ W
  ((hW.cell (p:=⟨b₀,0,none⟩) (by show b₀ < _;omega)).trans hc.1) ((hW.cell (p:=⟨b₀ + 1,0,none⟩) (by show b₀ + 1 < _;omega)).trans hc.2.1) ((hW.cell (p:=⟨b₀ + 2,0,none⟩) (by show b₀ + 2 < _;omega)).trans hc.2.2) ⟨[],rfl,h0⟩).mono ?_
 ·rintro pre x W ⟨fs,rfl,hJ⟩ hlt rfl
  simp only [List.length_map] at hlt ⊢
  refine (hY fs ⟨fs.length,hlt⟩ W hJ hlt).mono ?_
  rintro e W' (⟨he,h1,h2⟩ | ⟨he,h1⟩)
  ·exact .inl ⟨he,⟨_,by simp [place],h1⟩,h2⟩
  ·exact .inr ⟨he,_,by simp [place],h1⟩
 ·rintro e W' ⟨he,⟨xs,hx,fs,hf,hJ⟩ | ⟨pre,⟨k,h1,h2,h3⟩,fs,hf,hJ⟩⟩
  ·exact ⟨he,.inl ⟨fs,hf.symm.trans hx,hJ⟩⟩
  ·exact ⟨he,.inr ⟨fs,⟨k,h1,h2,hf.symm.trans h3⟩,hJ⟩⟩
theorem tall (lo hi step:Nat) (w:World):Calls Tryz.prog 45 #[.float .f64 lo,.float .f64 hi,.float .f64 step] w fun e w'=>e = .returned (.func (.func 70) #[] #[.pointer (some ⟨w.heap.size,0,none⟩),.pointer (some ⟨w.heap.size + 1,0,none⟩),.pointer (some ⟨w.heap.size + 1 + 1,0,none⟩)])∧
  w' = ((w.alloc (.cells #[.float .f64 lo] 37)).alloc (.cells #[.float .f64 hi] 37)).alloc (.cells #[.float .f64 step] 37):=by
 go_enter Tryz.func45,Tryz.ntmps45
 go_wp2
 go_ret
 exact ⟨rfl,rfl⟩
theorem keepB_b {n₀ b₀:Nat} {w:World} (hn:n₀≤w.heap.size) (hb:b₀ + 3≤w.heap.size):∀ (W:World) (l:Nat) (o o':Obj),w.heap.size≤l→W.heap[l]? = some o→o.isCells = false→o.isWalk = false→KeepB n₀ b₀ W (W.putObj l o'):=fun W l o o' hl ho h1 h2=>
 ⟨belowK_b hn W l o o' hl ho h1 h2,fun j hj=>World.putObj_heap_other (by omega)⟩
def atX (lo hi step:Nat) (k:Int):Nat:=if stepsE lo hi step = 0 then (if k < 0∨(stepsN lo hi step:Int)≤k then 0 else valB lo step k.toNat) else 0
def atE (lo hi step:Nat) (k:Int):Int:=if stepsE lo hi step = 0 then (if k < 0∨(stepsN lo hi step:Int)≤k then 5 else 0) else stepsE lo hi step
theorem tat (lo hi step:Nat) (k:Int) (w:World):Calls Tryz.prog 42 #[.float .f64 lo,.float .f64 hi,.float .f64 step,.int .i64 k] w fun e w'=>e = .returned (.tuple #[.float .f64 (atX lo hi step k),.int .i64 (atE lo hi step k)])∧w = w':=by
 by_cases h:stepsE lo hi step = 0
 ·have HN:Hid (0 < stepsN lo hi step→finB lo = true∧finB step = true∧finB hi = true∧stepsN lo hi step≤10001):=hid steps_fin
  obtain ⟨N,hN⟩:∃ N,stepsN lo hi step = N:=⟨_,rfl⟩
  have e1:atX lo hi step k = (if k < 0∨(N:Int)≤k then 0 else valB lo step k.toNat):=by unfold atX;rw [if_pos h,hN]
  have e2:atE lo hi step k = (if k < 0∨(N:Int)≤k then 5 else 0):=by unfold atE;rw [if_pos h,hN]
  rw [e1,e2]
  have HH:=hid h
  have HHN:=hid hN
  rw [hN] at HN
  by_cases hk:k < 0
  ·rw [if_pos (.inl hk),if_pos (.inl hk)]
   have g1:decide (k < 0) = true:=by simpa using hk
   clear e1 e2 h hN hk
   go_enter Tryz.func42,Tryz.ntmps42
   go_wp2_with (go_at_call 47;refine (tsteps _ _ _ _).mono ?_;rintro e w' ⟨rfl,rfl⟩;rw [HH.out,HHN.out])
   go_ret2
   exact ⟨rfl,rfl⟩
  ·have g1:decide (k < 0) = false:=by simpa using hk
   by_cases hk2:(N:Int)≤k
   ·rw [if_pos (.inr hk2),if_pos (.inr hk2)]
    have g2:decide ((N:Int)≤k) = true:=by simpa using hk2
    clear e1 e2 h hN hk hk2
    go_enter Tryz.func42,Tryz.ntmps42
    go_wp2_with (go_at_call 47;refine (tsteps _ _ _ _).mono ?_;rintro e w' ⟨rfl,rfl⟩;rw [HH.out,HHN.out])
    go_ret2
    exact ⟨rfl,rfl⟩
   ·rw [if_neg (by omega),if_neg (by omega)]
    obtain ⟨j,rfl⟩:∃ j:Nat,k = (j:Int):=⟨k.toNat,by omega⟩
    have g2:decide (N≤j) = false:=by simp;omega
    have FF:=HN.out (by omega)
    have FL:=hid FF.1
    have FS:=hid FF.2.1
    have FK:=hid (show j < 2 ^ 53 by omega)
    rw [Int.toNat_natCast]
    clear e1 e2 h hN hk hk2 FF
    go_enter Tryz.func42,Tryz.ntmps42
    go_wp2_with (first | (go_at_call 47;refine (tsteps _ _ _ _).mono ?_;rintro e w' ⟨rfl,rfl⟩;rw [HH.out,HHN.out]) | (go_at_call 68;refine (tvalue _ _ _ FL.out FS.out FK.out _).mono ?_;rintro e w' ⟨rfl,rfl⟩))
    go_ret2
    exact ⟨rfl,rfl⟩
 ·have e1:atX lo hi step k = 0:=by unfold atX;rw [if_neg h]
  have e2:atE lo hi step k = stepsE lo hi step:=by unfold atE;rw [if_neg h]
  rw [e1,e2]
  have ht:(stepsE lo hi step != 0) = true:=by simpa using h
  clear e1 e2 h
  go_enter Tryz.func42,Tryz.ntmps42
  go_wp2_with (go_at_call 47;refine (tsteps _ _ _ _).mono ?_;rintro e w' ⟨rfl,rfl⟩)
  go_ret2
  exact ⟨rfl,rfl⟩
end Go.Proofs.YtpcbamcelpcigaaGreat
namespace Go.Proofs.YtpcbamcelpcigaaGreat
open Go.RowKit Go.Shelf
structure FL where
 k:Int
 nm:ByteArray
 lb:ByteArray
 xo:Option Addr
 no:Nat
 co:Nat
 mn:Int
 mx:Int
 lo:Nat
 hi:Nat
 st:Nat
 ds:ByteArray
 dn:Int
 db:Bool
 xl:Option Addr
 nl:Nat
 cl:Nat
 df:Nat
 sh:ByteArray
 ck:ByteArray
def FL.a (F:FL):Array Value:=#[.int .i64 F.k,.string F.nm,.string F.lb,.slice F.xo F.no F.co,.int .i64 F.mn,.int .i64 F.mx,.float .f64 F.lo,.float .f64 F.hi,.float .f64 F.st,.string F.ds,.int .i64 F.dn,.bool F.db,.slice F.xl F.nl F.cl,.float .f64 F.df,.string F.sh,.string F.ck]
def FL.v (F:FL):Value:=.agg F.a
def FLB (W:World) (b:Nat) (F:FL):Prop:=W.heap[b]? = some (.cells F.a 42 (0,0))
theorem FLB.lt {W:World} {b:Nat} {F:FL} (h:FLB W b F):b < W.heap.size:=(Array.getElem?_eq_some_iff.1 h).1
theorem FLB.below {W W':World} {b:Nat} {F:FL} (h:FLB W b F) (hb:Below W.heap.size W W'):FLB W' b F:=(hb.block b h.lt).trans h
theorem FLB.cells {W:World} {b:Nat} {F:FL} (h:FLB W b F) :
  W.cell? ⟨b,0,none⟩ = some (.int .i64 F.k)∧W.cell? ⟨b,1,none⟩ = some (.string F.nm)∧W.cell? ⟨b,2,none⟩ = some (.string F.lb)∧W.cell? ⟨b,3,none⟩ = some (.slice F.xo F.no F.co)∧
  W.cell? ⟨b,4,none⟩ = some (.int .i64 F.mn)∧W.cell? ⟨b,5,none⟩ = some (.int .i64 F.mx)∧W.cell? ⟨b,6,none⟩ = some (.float .f64 F.lo)∧W.cell? ⟨b,7,none⟩ = some (.float .f64 F.hi)∧W.cell? ⟨b,8,none⟩ = some (.float .f64 F.st)∧
  W.cell? ⟨b,9,none⟩ = some (.string F.ds)∧W.cell? ⟨b,10,none⟩ = some (.int .i64 F.dn)∧W.cell? ⟨b,11,none⟩ = some (.bool F.db)∧W.cell? ⟨b,12,none⟩ = some (.slice F.xl F.nl F.cl)∧W.cell? ⟨b,13,none⟩ = some (.float .f64 F.df)∧
  W.cell? ⟨b,14,none⟩ = some (.string F.sh)∧W.cell? ⟨b,15,none⟩ = some (.string F.ck):=by
 unfold FLB FL.a at h
 refine ⟨?_,?_,?_,?_,?_,?_,?_,?_,?_,?_,?_,?_,?_,?_,?_,?_⟩ <;> simp [World.cell?,h]
def Fld.fl (f:Fld) (xo:Option Addr) (co:Nat) (xl:Option Addr) (cl:Nat):FL:=⟨f.k,tx f.nm,tx f.lb,xo,f.op.length,co,f.mn,f.mx,f.lo,f.hi,f.st,tx f.d.s,f.d.n,f.d.b,xl,f.d.l.length,cl,f.d.f,tx f.sh,tx f.ck⟩
def FL.sld (F:FL):Nat:=if F.k = 9 then stepsN F.lo F.hi F.st else 0
theorem sld_fl (f:Fld) (xo:Option Addr) (co:Nat) (xl:Option Addr) (cl:Nat):(f.fl xo co xl cl).sld = sldN f:=rfl
theorem stepsN_bad {lo hi st:Nat} (h:stepsE lo hi st≠0):stepsN lo hi st = 0:=by
 unfold stepsE at h
 unfold stepsN
 split at h
 ·rename_i h1;rw [if_pos h1]
 ·rename_i h1
  rw [if_neg h1]
  split at h
  ·rename_i h2;rw [if_pos h2]
  ·exact absurd rfl h
theorem dSlides (F:FL) (w:World):Calls Tryz.prog 24 #[F.v] w fun e w'=>e = .returned (.int .i64 (F.sld:Nat))∧Below w.heap.size w w':=by
 obtain ⟨k,nm,lb,xo,no,co,mn,mx,lo,hi,st,ds,dn,db,xl,nl,cl,df,sh,ck⟩:=F
 obtain ⟨R,hR⟩:∃ R,R = FL.sld ⟨k,nm,lb,xo,no,co,mn,mx,lo,hi,st,ds,dn,db,xl,nl,cl,df,sh,ck⟩:=⟨_,rfl⟩
 rw [←hR]
 have HAL:=hid (fun o=>(Below.refl w.heap.size w).alloc (Nat.le_refl _) o)
 have HST:=hid (fun W=>tsteps lo hi st W)
 have HSB:Hid (stepsE lo hi st≠0→stepsN lo hi st = 0):=hid stepsN_bad
 unfold FL.sld at hR
 unfold FL.v FL.a
 simp only at hR ⊢
 by_cases h9:k = 9
 ·rw [if_pos h9] at hR
  obtain ⟨E,hE⟩:∃ E,E = stepsE lo hi st:=⟨_,rfl⟩
  obtain ⟨N,hN⟩:∃ N,N = stepsN lo hi st:=⟨_,rfl⟩
  rw [←hE,←hN] at HST HSB
  rw [←hN] at hR
  clear hE hN
  by_cases he:E = 0
  ·have HR:=hid hR
   subst h9
   subst he
   clear hR HSB
   go_enter Tryz.func24,Tryz.ntmps24
   go_wp2_with (first | (go_at_call 47;refine (HST.out _).mono ?_;rintro e w' ⟨rfl,rfl⟩))
   go_ret
   exact ⟨by rw [HR.out];rfl,HAL.out _⟩
  ·have HR:Hid (R = 0):=hid (by rw [hR];exact HSB.out he)
   have ht:(E != 0) = true:=by simpa using he
   subst h9
   clear hR HSB he
   go_enter Tryz.func24,Tryz.ntmps24
   go_wp2_with (first | (go_at_call 47;refine (HST.out _).mono ?_;rintro e w' ⟨rfl,rfl⟩))
   go_ret
   exact ⟨by rw [HR.out];rfl,HAL.out _⟩
 ·have HR:Hid (R = 0):=hid (by rw [hR,if_neg h9])
  have ht:(k != 9) = true:=by simpa using h9
  clear hR HSB h9
  go_enter Tryz.func24,Tryz.ntmps24
  go_wp2
  go_ret
  exact ⟨by rw [HR.out];rfl,HAL.out _⟩
def atP (F:FL) (k:Int):Nat × Bool:=if F.k = 9∧0≤k∧k < (F.sld:Nat) then (valB F.lo F.st k.toNat,true) else (0,false)
theorem at_yes9 {lo hi st:Nat} {k:Int} (h:atE lo hi st k = 0):0≤k∧k < (stepsN lo hi st:Nat)∧atX lo hi st k = valB lo st k.toNat:=by
 unfold atE at h
 unfold atX
 split at h
 ·rename_i h1
  rw [if_pos h1]
  split at h
  ·cases h
  ·rename_i h2
   rw [if_neg h2]
   exact ⟨by omega,by omega,rfl⟩
 ·rename_i h1;exact absurd h h1
theorem at_no9 {lo hi st:Nat} {k:Int} (h:atE lo hi st k≠0):¬ (0≤k∧k < (stepsN lo hi st:Nat)):=by
 unfold atE at h
 split at h
 ·split at h
  ·omega
  ·exact absurd rfl h
 ·rename_i h1
  rw [stepsN_bad h1]
  omega
theorem dAt (F:FL) (q:Int) (w:World):Calls Tryz.prog 20 #[F.v,.int .i64 q] w fun e w'=>e = .returned (.tuple #[.float .f64 (atP F q).1,.bool (atP F q).2])∧Below w.heap.size w w':=by
 obtain ⟨k,nm,lb,xo,no,co,mn,mx,lo,hi,st,ds,dn,db,xl,nl,cl,df,sh,ck⟩:=F
 obtain ⟨R,hR⟩:∃ R,R = atP ⟨k,nm,lb,xo,no,co,mn,mx,lo,hi,st,ds,dn,db,xl,nl,cl,df,sh,ck⟩ q:=⟨_,rfl⟩
 rw [←hR]
 have HAL:=hid (fun o=>(Below.refl w.heap.size w).alloc (Nat.le_refl _) o)
 have HAT:=hid (fun W=>tat lo hi st q W)
 have HYS:Hid (atE lo hi st q = 0→0≤q∧q < (stepsN lo hi st:Nat)∧atX lo hi st q = valB lo st q.toNat):=hid at_yes9
 have HNO:Hid (atE lo hi st q≠0→¬ (0≤q∧q < (stepsN lo hi st:Nat))):=hid at_no9
 unfold atP FL.sld at hR
 unfold FL.v FL.a
 simp only at hR ⊢
 by_cases h9:k = 9
 ·rw [if_pos h9] at hR
  obtain ⟨E,hE⟩:∃ E,E = atE lo hi st q:=⟨_,rfl⟩
  obtain ⟨X,hX⟩:∃ X,X = atX lo hi st q:=⟨_,rfl⟩
  rw [←hE,←hX] at HAT HYS
  rw [←hE] at HNO
  clear hE hX
  by_cases he:E = 0
  ·have HR:Hid (R = (X,true)):=hid (by obtain ⟨h1,h2,h3⟩:=HYS.out he;rw [hR,if_pos ⟨h9,h1,h2⟩,h3])
   subst h9
   subst he
   clear hR HYS HNO
   go_enter Tryz.func20,Tryz.ntmps20
   go_wp2_with (first | (go_at_call 42;refine (HAT.out _).mono ?_;rintro e w' ⟨rfl,rfl⟩))
   go_ret2
   exact ⟨by rw [HR.out];rfl,HAL.out _⟩
  ·have HR:Hid (R = (0,false)):=hid (by rw [hR,if_neg (fun h=>HNO.out he h.2)])
   have ht:(E != 0) = true:=by simpa using he
   subst h9
   clear hR HYS HNO he
   go_enter Tryz.func20,Tryz.ntmps20
   go_wp2_with (first | (go_at_call 42;refine (HAT.out _).mono ?_;rintro e w' ⟨rfl,rfl⟩))
   go_ret2
   exact ⟨by rw [HR.out];rfl,HAL.out _⟩
 ·have HR:Hid (R = (0,false)):=hid (by rw [hR,if_neg (fun h=>h9 h.1)])
  have ht:(k != 9) = true:=by simpa using h9
  clear hR HYS HNO h9
  go_enter Tryz.func20,Tryz.ntmps20
  go_wp2
  go_ret2
  exact ⟨by rw [HR.out];rfl,HAL.out _⟩
theorem zf_test (x:Nat):(FloatKind.f64.format.order x 0 != some .eq) = !(zF x):=by
 unfold zF
 cases hn:isNan x
 ·have h0:isNan 0 = false:=by decide
  have hz:sv 0 = 0:=by decide
  rcases ord_cases hn h0 with ⟨k,r⟩ | ⟨k,r⟩ | ⟨k,r⟩
  all_goals
   rw [r]
   rw [hz] at k
   have hv:rung x = 0↔sv x = 0:=by
    constructor
    ·intro e;unfold sv;rw [e,valN_zero];split <;> rfl
    ·intro e
     have:valN (rung x) = 0:=by unfold sv at e;split at e <;> omega
     exact valN_inj (this.trans valN_zero.symm)
  ·have:¬ rung x = 0:=fun e=>by have:=hv.1 e;omega
   simp [this]
  ·have:rung x = 0:=hv.2 k
   simp [this]
  ·have:¬ rung x = 0:=fun e=>by have:=hv.1 e;omega
   simp [this]
 ·have hr:¬ rung x = 0:=fun e=>by unfold isNan at hn;rw [e] at hn;simp at hn
  rw [show FloatKind.f64.format.order x 0 = none from order_nan x 0 (.inl hn)]
  simp [hr]
def dvlV (s:ByteArray) (n:Int) (b:Bool) (x:Option Addr) (nl c:Nat) (f:Nat):Value:=.agg #[.string s,.int .i64 n,.bool b,.slice x nl c,.float .f64 f]
def ptV (a b c d e:Bool):Value:=.agg #[.bool a,.bool b,.bool c,.bool d,.bool e]
theorem parts_end {fn:Func} {p:Tmp} (h:fn.results = #[.cell p 130]) (tmps:Array Value) (w:World) (g:Nat) (v0 v1 v2 v3 v4:Value) (hp:tmps.getD p undef = .pointer (some ⟨g,0,none⟩))
  (hg:w.heap[g]? = some (.cells #[v0,v1,v2,v3,v4] 130 (0,0))):(results fn tmps).run Tryz.prog w = .ok (.agg #[v0,v1,v2,v3,v4]) w:=
 results_cell h tmps w g 130 _ _ _ hp hg Tryz.underlying130 rfl (by kernel_rfl)
theorem heap_at {W:World} {b c:Nat} {o:Obj} (h:W.heap[b]? = some o) (e:b = c):W.heap[c]? = some o:=e ▸ h
def mineV (k:Int):Value:=ptV (decide (k = 1∨k = 2∨k = 4)) (decide (k = 3∨k = 6∨k = 8)) (decide (k = 5)) (decide (k = 7)) (decide (k = 9))
theorem kind_all (k:Int):k = 1∨k = 2∨k = 3∨k = 4∨k = 5∨k = 6∨k = 7∨k = 8∨k = 9∨(k≠1∧k≠2∧k≠3∧k≠4∧k≠5∧k≠6∧k≠7∧k≠8∧k≠9):=by omega
theorem dmine (k:Int) (w:World):Calls Tryz.prog 90 #[.int .i64 k] w fun e w'=>e = .returned (mineV k)∧Below w.heap.size w w':=by
 have HAL:=hid (fun o=>(Below.refl w.heap.size w).alloc (Nat.le_refl _) o)
 obtain ⟨m,hm⟩:∃ m,m = mineV k:=⟨_,rfl⟩
 rw [←hm]
 have HM:=hid hm
 clear hm
 rcases kind_all k with rfl | rfl | rfl | rfl | rfl | rfl | rfl | rfl | rfl | hk
 case inr.inr.inr.inr.inr.inr.inr.inr.inr=>
  have HK:=hid hk
  obtain ⟨b1,b2,b3,b4,b5,b6,b7,b8,b9⟩:=no_kind hk
  clear hk
  go_enter Tryz.func90,Tryz.ntmps90
  go_wp2
  refine bodyPost_ret (parts_end rfl _ _ w.heap.size _ _ _ _ _ rfl (heap_alloc_new _ _)) rfl ⟨by rw [HM.out];obtain ⟨h1,h2,h3,h4,h5,h6,h7,h8,h9⟩:=HK.out;unfold mineV;simp [h1,h2,h3,h4,h5,h6,h7,h8,h9];rfl,HAL.out _⟩
 all_goals
  go_enter Tryz.func90,Tryz.ntmps90
  go_wp2
  refine bodyPost_ret (parts_end rfl _ _ w.heap.size _ _ _ _ _ rfl (heap_alloc_new _ _)) rfl ⟨by rw [HM.out];rfl,HAL.out _⟩
theorem dset (s:Bs) (n:Int) (b:Bool) (x:Option Addr) (nl c:Nat) (f:Nat) (w:World):Calls Tryz.prog 89 #[dvlV (tx s) n b x nl c f] w fun e w'=>e = .returned (ptV (decide (s≠[])) (decide (n≠0)) b (decide (0 < nl)) (!zF f))∧Below w.heap.size w w':=by
 have HAL:=hid (fun o1 o2=>((Below.refl w.heap.size w).alloc (Nat.le_refl _) o1).alloc (by simp) o2)
 unfold dvlV
 have HZ:=zf_test f
 go_enter Tryz.func89,Tryz.ntmps89
 go_wp2
 refine bodyPost_ret (parts_end rfl _ _ (w.heap.size + 1) _ _ _ _ _ rfl (heap_at (heap_alloc_new _ _) (by simp))) rfl ⟨?_,HAL.out _ _⟩
 unfold ptV
 rw [show decide (s≠[]) = !(tx s).toList.isEmpty from by rw [tx_toList,Bool.eq_iff_iff];simp,show decide (n≠0) = (n != 0) from by rw [Bool.eq_iff_iff];simp]
def IntV (W:World) (v:Value) (L:List Int):Prop:=∃ x c,v = .slice x L.length c∧L.length≤c∧(L≠[]→∃ g o,x = some ⟨g,o,none⟩∧g < W.heap.size∧∀ i,i < L.length→W.cell? ⟨g,o + i,none⟩ = some (.int .i64 (L.getD i 0)))
theorem IntV.below {W W':World} {v:Value} {L:List Int} (h:IntV W v L) (hB:Below W.heap.size W W'):IntV W' v L:=by
 obtain ⟨x,c,rfl,h2,h3⟩:=h
 refine ⟨x,c,rfl,h2,fun hn=>?_⟩
 obtain ⟨g,o,rfl,h4,h5⟩:=h3 hn
 exact ⟨g,o,rfl,Nat.lt_of_lt_of_le h4 hB.size,fun i hi=>(hB.cell (p:=⟨g,o + i,none⟩) h4).trans (h5 i hi)⟩
theorem IntV.nil (W:World):IntV W (.slice none 0 0) []:=⟨none,0,rfl,Nat.le_refl _,fun h=>absurd rfl h⟩
theorem IntV.at_ {W:World} {x:Option Addr} {c:Nat} {L:List Int} (h:IntV W (.slice x L.length c) L) (hn:L≠[]):∃ g o,x = some ⟨g,o,none⟩∧g < W.heap.size∧∀ i,i < L.length→W.cell? ⟨g,o + i,none⟩ = some (.int .i64 (L.getD i 0)):=by
 obtain ⟨x',c',he,_,h3⟩:=h
 obtain ⟨rfl,rfl⟩:x = x'∧c = c':=by simpa using he
 exact h3 hn
theorem risP_no {L:List Int} {m:Int} {i:Nat} (hi:i < L.length) (h:risA L m i = false):risP L m = false:=by
 unfold risP
 rw [List.all_eq_false]
 exact ⟨i,List.mem_range.2 hi,by rw [h];simp⟩
theorem risP_yes {L:List Int} {m:Int} (h:∀ i,i < L.length→risA L m i = true):risP L m = true:=by
 unfold risP
 rw [List.all_eq_true]
 exact fun i hi=>h i (List.mem_range.1 hi)
theorem drising (L:List Int) (m:Int) (x:Option Addr) (c:Nat) (hL:L.length≤1000000) (w:World) (h:IntV w (.slice x L.length c) L) :
  Calls Tryz.prog 67 #[.slice x L.length c,.int .i64 m] w fun e w'=>e = .returned (.bool (risP L m))∧Below w.heap.size w w':=by
 have HV:=hid (fun hn=>IntV.at_ h hn)
 have HNO:=hid (fun i hi h=>risP_no (L:=L) (m:=m) (i:=i) hi h)
 have HYE:=hid (fun h=>risP_yes (L:=L) (m:=m) h)
 obtain ⟨R,hR⟩:∃ R,R = risP L m:=⟨_,rfl⟩
 rw [←hR] at HNO HYE ⊢
 obtain ⟨n,hn⟩:∃ n,n = L.length:=⟨_,rfl⟩
 rw [←hn] at HV HNO HYE hL ⊢
 have HN:=hid hn
 clear hn hR h
 go_enter Tryz.func67,Tryz.ntmps67
 go_wp2
 go_loopw [9] (fun i wr=>∃ k:Nat,i = .int .i64 k∧k≤n∧Hid ((∀ i,i < k→risA L m i = true)∧∃ q,wr = w.drewN q)) (fun i _=>n - (intOf i).toNat)
 case atStart=>exact ⟨0,rfl,Nat.zero_le _,hid ⟨fun i hi=>absurd hi (by omega),0,rfl⟩⟩
 case round=>
  obtain ⟨k,rfl,hk,HI⟩:=hrel
  by_cases hlt:k < n
  ·obtain ⟨g,o,rfl,HG⟩:∃ g o,x = some ⟨g,o,none⟩∧Hid (∀ i,i < n→wr.cell? ⟨g,o + i,none⟩ = some (.int .i64 (L.getD i 0))):=by
    obtain ⟨g,o,h1,_,h2⟩:=HV.out (fun e=>by rw [HN.out,e] at hlt;simp at hlt)
    obtain ⟨q,hq⟩:=HI.out.2
    exact ⟨g,o,h1,hid (fun i hi=>by rw [hq];exact h2 i hi)⟩
   have ck:=HG.out k hlt
   have HBK:=hid (HNO.out k hlt)
   have HAK:=hid HI.out.1
   have HQ:=hid (show ∀ d,Below w.heap.size w (wr.drewN d) from fun d=>by obtain ⟨q,hq⟩:=HI.out.2;rw [hq];exact ⟨rfl,rfl,rfl,Nat.le_refl _,fun _ _=>rfl⟩)
   have HQ2:=hid (show ∃ q,wr = w.drewN q from HI.out.2)
   obtain ⟨a,ha⟩:∃ a,a = L.getD k 0:=⟨_,rfl⟩
   have i1:(0:Int)≤(k:Int):=by omega
   have i2:(k:Int) < (n:Int):=by omega
   have HRI:Hid (risA L m k = (decide (0≤a∧a < m) && (decide (k = 0) || decide (L.getD (k - 1) 0 < a)))):=hid (by unfold risA;rw [←ha])
   rw [←ha] at ck
   clear ha HI HV HNO HYE
   by_cases h1:a < 0
   ·have t1:decide (a < 0) = true:=by simp [h1]
    have HR:=hid (HBK.out (by rw [HRI.out,show decide (0≤a∧a < m) = false from by rw [decide_eq_false_iff_not];omega];rfl))
    clear h1 HBK HRI
    go_wp2
    go_ret
    exact ⟨ret_bool HR.out.symm,HQ.out 0⟩
   have t1:decide (a < 0) = false:=by simp [h1]
   by_cases h2:m≤a
   ·have t2:decide (m≤a) = true:=by simp [h2]
    have HR:=hid (HBK.out (by rw [HRI.out,show decide (0≤a∧a < m) = false from by rw [decide_eq_false_iff_not];omega];rfl))
    clear h1 h2 HBK HRI
    go_wp2
    go_ret
    exact ⟨ret_bool HR.out.symm,HQ.out 0⟩
   have t2:decide (m≤a) = false:=by simp [h2]
   rw [show decide (0≤a∧a < m) = true from by rw [decide_eq_true_iff];omega] at HRI
   by_cases h0:k = 0
   ·subst h0
    rw [Nat.add_zero] at ck
    have HNX:Hid (∀ i,i < 0 + 1→risA L m i = true):=hid (fun i hi=>by obtain rfl:i = 0:=(by omega);rw [HRI.out];rfl)
    clear h1 h2 HBK HRI
    go_wp2
    go_roundw
    case rel=>exact ⟨1,by go_num,by omega,hid ⟨HNX.out,HQ2.out⟩⟩
    case measure=>simp [intOf];omega
   have t0:decide (0 < (k:Int)) = true:=by simp;omega
   have cp:=HG.out (k - 1) (by omega)
   obtain ⟨b,hb⟩:∃ b,b = L.getD (k - 1) 0:=⟨_,rfl⟩
   rw [←hb] at HRI cp
   have i3:(0:Int)≤(k:Int) - 1:=by omega
   have i4:(k:Int) - 1 < (n:Int):=by omega
   clear hb h1 h2
   by_cases h5:a≤b
   ·have t5:decide (a≤b) = true:=by simp [h5]
    have HR:=hid (HBK.out (by rw [HRI.out,decide_eq_false h0,show decide (b < a) = false from by rw [decide_eq_false_iff_not];omega];rfl))
    clear h5 HBK HRI
    go_wp2
    go_ret
    exact ⟨ret_bool HR.out.symm,HQ.out 0⟩
   ·have t5:decide (a≤b) = false:=by simp [h5]
    have HNX:Hid (∀ i,i < k + 1→risA L m i = true):=hid (fun i hi=>by
     rcases Nat.lt_or_ge i k with z | z
     ·exact HAK.out i z
     ·obtain rfl:i = k:=by omega
      rw [HRI.out,show decide (b < a) = true from by rw [decide_eq_true_iff];omega];simp)
    clear h5 HBK HRI
    go_wp2
    go_roundw
    case rel=>exact ⟨k + 1,by go_num,by omega,hid ⟨HNX.out,HQ2.out⟩⟩
    case measure=>simp [intOf];omega
  ·obtain rfl:k = n:=by omega
   have HR:=hid (HYE.out (fun i hi=>HI.out.1 i hi))
   have HQ:=hid (show Below w.heap.size w wr from by obtain ⟨q,hq⟩:=HI.out.2;rw [hq];exact ⟨rfl,rfl,rfl,Nat.le_refl _,fun _ _=>rfl⟩)
   clear HI HV HNO HYE
   go_wp2
   go_ret
   exact ⟨ret_bool HR.out.symm,HQ.out⟩
end Go.Proofs.YtpcbamcelpcigaaGreat
