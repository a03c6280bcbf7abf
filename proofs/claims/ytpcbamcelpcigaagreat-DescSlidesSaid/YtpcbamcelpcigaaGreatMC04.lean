/- Own texts, merged. -/
import Derived.WalkKit
import Derived.Laws.FloatArith
import Derived.Test.YtpcbamcelpcigaaGreatMC01
import Derived.Test.YtpcbamcelpcigaaGreatMC03
import Derived.Test.YtpcbamcelpcigaaGreatMC00
set_option maxRecDepth 100000
set_option maxHeartbeats 32000000
open Go.Lib (hid)
namespace Go.Proofs.YtpcbamcelpcigaaGreat
open Ieee
def valN (r:Nat):Nat:=if r < 2 ^ 52 then r else (2 ^ 52 + r % 2 ^ 52) * 2 ^ (r / 2 ^ 52 - 1)
def rung (x:Nat):Nat:=x % 2 ^ 63
def isNeg (x:Nat):Bool:=x / 2 ^ 63 % 2 == 1
def isNan (x:Nat):Bool:=decide (2047 * 2 ^ 52 < rung x)
def sv (x:Nat):Int:=if isNeg x then -(valN (rung x):Int) else valN (rung x)
theorem valN_lt {r s:Nat} (h:r < s):valN r < valN s:=by
 have hp:0 < 2 ^ 52:=by decide
 unfold valN
 by_cases hr:r < 2 ^ 52
 ·rw [if_pos hr]
  by_cases hs:s < 2 ^ 52
  ·rw [if_pos hs];exact h
  ·rw [if_neg hs]
   have h1:(2 ^ 52 + s % 2 ^ 52) * 1≤(2 ^ 52 + s % 2 ^ 52) * 2 ^ (s / 2 ^ 52 - 1):=Nat.mul_le_mul_left _ (Nat.one_le_two_pow)
   omega
 ·rw [if_neg hr,if_neg (by omega)]
  have er:1≤r / 2 ^ 52:=(Nat.le_div_iff_mul_le hp).2 (by omega)
  have hd:r / 2 ^ 52≤s / 2 ^ 52:=Nat.div_le_div_right (by omega)
  have mr:=Nat.mod_lt r hp
  have ms:=Nat.mod_lt s hp
  have dr:=Nat.div_add_mod r (2 ^ 52)
  have ds:=Nat.div_add_mod s (2 ^ 52)
  rcases Nat.lt_or_ge (r / 2 ^ 52) (s / 2 ^ 52) with hlt | hge
  ·have h1:(2 ^ 52 + r % 2 ^ 52) * 2 ^ (r / 2 ^ 52 - 1) < (2 ^ 52 + 2 ^ 52) * 2 ^ (r / 2 ^ 52 - 1):=Nat.mul_lt_mul_of_pos_right (by omega) (Nat.two_pow_pos _)
   have h2:(2 ^ 52 + 2 ^ 52) * 2 ^ (r / 2 ^ 52 - 1) = 2 ^ 52 * 2 ^ (r / 2 ^ 52):=by
    obtain ⟨q,hq⟩:∃ q,r / 2 ^ 52 = q + 1:=⟨r / 2 ^ 52 - 1,by omega⟩
    rw [hq,Nat.add_sub_cancel,Nat.pow_succ 2 q]
    rw [←Nat.two_mul,Nat.mul_comm 2 (2 ^ 52),Nat.mul_assoc,Nat.mul_comm 2 (2 ^ q)]
   have h3:2 ^ 52 * 2 ^ (r / 2 ^ 52)≤2 ^ 52 * 2 ^ (s / 2 ^ 52 - 1):=Nat.mul_le_mul_left _ (Nat.pow_le_pow_right (by omega) (by omega))
   have h4:2 ^ 52 * 2 ^ (s / 2 ^ 52 - 1)≤(2 ^ 52 + s % 2 ^ 52) * 2 ^ (s / 2 ^ 52 - 1):=Nat.mul_le_mul_right _ (by omega)
   omega
  ·have he:r / 2 ^ 52 = s / 2 ^ 52:=by omega
   rw [he] at dr ⊢
   exact Nat.mul_lt_mul_of_pos_right (by omega) (Nat.two_pow_pos _)
theorem valN_le {r s:Nat} (h:r≤s):valN r≤valN s:=by
 rcases Nat.lt_or_ge r s with h1 | h1
 ·exact Nat.le_of_lt (valN_lt h1)
 ·rw [show r = s by omega];exact Nat.le_refl _
theorem valN_inj {r s:Nat} (h:valN r = valN s):r = s:=by
 rcases Nat.lt_trichotomy r s with h1 | h1 | h1
 ·have:=valN_lt h1;omega
 ·exact h1
 ·have:=valN_lt h1;omega
theorem valN_zero:valN 0 = 0:=by simp [valN]
theorem read_fin (x:Nat) (h:rung x < 2047 * 2 ^ 52):∃ m i,double.read x = .number (isNeg x) m i∧double.leastPlace≤i∧m * 2 ^ (i - double.leastPlace).toNat = valN (rung x):=by
 unfold rung at h ⊢
 have hw:double.signWeight = 2 ^ 63:=by decide
 have hb:double.binade = 2 ^ 52:=by decide
 have hi:double.infRung = 2047 * 2 ^ 52:=by decide
 unfold Format.read isNeg valN
 simp only [hw,hb,hi]
 by_cases h1:x % 2 ^ 63 < 2 ^ 52
 ·rw [if_pos h1,if_pos h1]
  exact ⟨_,_,rfl,Int.le_refl _,by simp⟩
 ·rw [if_neg h1,if_pos h,if_neg h1]
  refine ⟨_,_,rfl,by omega,?_⟩
  congr 2
  omega
theorem read_inf (x:Nat) (h:rung x = 2047 * 2 ^ 52):double.read x = .infinity (isNeg x):=by
 unfold rung at h
 have hw:double.signWeight = 2 ^ 63:=by decide
 have hb:double.binade = 2 ^ 52:=by decide
 have hi:double.infRung = 2047 * 2 ^ 52:=by decide
 unfold Format.read isNeg
 simp only [hw,hb,hi,h]
 rfl
theorem read_nan (x:Nat) (h:2047 * 2 ^ 52 < rung x):∃ f,double.read x = .nan (isNeg x) f:=by
 unfold rung at h
 have hw:double.signWeight = 2 ^ 63:=by decide
 have hb:double.binade = 2 ^ 52:=by decide
 have hi:double.infRung = 2047 * 2 ^ 52:=by decide
 unfold Format.read isNeg
 simp only [hw,hb,hi]
 rw [if_neg (by omega),if_neg (by omega),if_neg (by omega)]
 exact ⟨_,rfl⟩
theorem compare_scale (a b:Int) (c:Nat) (h:0 < c):compare (a * c) (b * c) = compare a b:=by
 have hc:(0:Int) < c:=by omega
 rcases Int.lt_trichotomy a b with h1 | h1 | h1
 ·rw [Int.compare_eq_lt.2 h1,Int.compare_eq_lt.2 (Int.mul_lt_mul_of_pos_right h1 hc)]
 ·subst h1;simp
 ·rw [Int.compare_eq_gt.2 h1,Int.compare_eq_gt.2 (Int.mul_lt_mul_of_pos_right h1 hc)]
theorem signed_scale (s:Bool) (m:Nat) (i base:Int) (h:base≤i) (hl:double.leastPlace≤base) :
  signed s m (i - base).toNat * ((2 ^ (base - double.leastPlace).toNat:Nat):Int) = if s then -((m * 2 ^ (i - double.leastPlace).toNat:Nat):Int) else ((m * 2 ^ (i - double.leastPlace).toNat:Nat):Int):=by
 have e:(i - double.leastPlace).toNat = (i - base).toNat + (base - double.leastPlace).toNat:=by omega
 have k:((m <<< (i - base).toNat:Nat):Int) * ((2 ^ (base - double.leastPlace).toNat:Nat):Int) = ((m * 2 ^ (i - double.leastPlace).toNat:Nat):Int):=by
  rw [e,Nat.shiftLeft_eq,←Int.natCast_mul,Nat.mul_assoc,←Nat.pow_add]
 unfold signed
 cases s
 ·simpa using k
 ·simp only [if_true]
  rw [Int.neg_mul,k]
theorem order_fin (x y:Nat) (hx:rung x < 2047 * 2 ^ 52) (hy:rung y < 2047 * 2 ^ 52):double.order x y = some (compare (sv x) (sv y)):=by
 obtain ⟨m,i,h1,h2,h3⟩:=read_fin x hx
 obtain ⟨n,j,k1,k2,k3⟩:=read_fin y hy
 unfold Format.order
 rw [h1,k1]
 simp only [Datum.order]
 congr 1
 rw [←compare_scale _ _ (2 ^ (min i j - double.leastPlace).toNat) (Nat.two_pow_pos _)]
 rw [signed_scale _ _ _ _ (by omega) (by omega),signed_scale _ _ _ _ (by omega) (by omega),h3,k3]
 rfl
theorem order_nan (x y:Nat) (h:isNan x = true∨isNan y = true):double.order x y = none:=by
 unfold Format.order
 rcases h with h | h
 ·obtain ⟨f,hf⟩:=read_nan x (by simpa [isNan] using h)
  rw [hf];rfl
 ·obtain ⟨f,hf⟩:=read_nan y (by simpa [isNan] using h)
  rw [hf];cases double.read x <;> rfl
theorem order_val (x y:Nat) (hx:isNan x = false) (hy:isNan y = false):double.order x y = some (compare (sv x) (sv y)):=by
 have hx':rung x≤2047 * 2 ^ 52:=by simpa [isNan] using hx
 have hy':rung y≤2047 * 2 ^ 52:=by simpa [isNan] using hy
 rcases Nat.lt_or_ge (rung x) (2047 * 2 ^ 52) with h1 | h1
 ·rcases Nat.lt_or_ge (rung y) (2047 * 2 ^ 52) with h2 | h2
  ·exact order_fin x y h1 h2
  ·have h2:rung y = 2047 * 2 ^ 52:=by omega
   obtain ⟨m,i,r1,_,_⟩:=read_fin x h1
   have hv:valN (rung x) < valN (rung y):=valN_lt (by omega)
   unfold Format.order
   rw [r1,read_inf y h2]
   simp only [Datum.order,sv]
   congr 1
   symm
   cases isNeg y
   ·simp only [Bool.false_eq_true,if_false]
    rw [Int.compare_eq_lt];split <;> omega
   ·simp only [if_true]
    rw [Int.compare_eq_gt];split <;> omega
 ·have h1:rung x = 2047 * 2 ^ 52:=by omega
  rcases Nat.lt_or_ge (rung y) (2047 * 2 ^ 52) with h2 | h2
  ·obtain ⟨m,i,r1,_,_⟩:=read_fin y h2
   have hv:valN (rung y) < valN (rung x):=valN_lt (by omega)
   unfold Format.order
   rw [r1,read_inf x h1]
   simp only [Datum.order,sv]
   congr 1
   symm
   cases isNeg x
   ·simp only [Bool.false_eq_true,if_false]
    rw [Int.compare_eq_gt];split <;> omega
   ·simp only [if_true]
    rw [Int.compare_eq_lt];split <;> omega
  ·have h2:rung y = 2047 * 2 ^ 52:=by omega
   have hp:0 < valN (2047 * 2 ^ 52):=by have:=valN_lt (show 0 < 2047 * 2 ^ 52 by decide);omega
   unfold Format.order
   rw [read_inf x h1,read_inf y h2]
   simp only [Datum.order,sv,h1,h2]
   congr 1
   symm
   cases isNeg x <;> cases isNeg y
   ·simp
   ·simp only [if_true,Bool.false_eq_true,if_false];rw [Int.compare_eq_gt.2 (by omega)];rfl
   ·simp only [if_true,Bool.false_eq_true,if_false];rw [Int.compare_eq_lt.2 (by omega)];rfl
   ·simp
def finB (x:Nat):Bool:=decide (rung x < 2047 * 2 ^ 52)
theorem fin_num {x:Nat} (h:finB x = true):isNan x = false:=by
 simp only [finB,isNan,decide_eq_true_eq,decide_eq_false_iff_not] at *;omega
theorem rung_word (s:Bool) (r:Nat) (h:r < 2 ^ 63):rung (double.word s r) = r:=by
 have hw:double.signWeight = 2 ^ 63:=by decide
 unfold Format.word rung
 rw [hw]
 split <;> omega
theorem nan_nearest (s:Bool) (m:Nat) (i:Int):isNan (double.nearest s m i) = false:=by
 have hi:double.infRung = 2047 * 2 ^ 52:=by decide
 unfold isNan Format.nearest
 rw [decide_eq_false_iff_not]
 split
 ·rw [rung_word _ _ (by decide)];decide
 ·dsimp only
  rw [rung_word _ _ (by rw [hi];omega),hi]
  omega
theorem nan_inf (s:Bool):isNan (double.write (.infinity s)) = false:=by cases s <;> decide
theorem lt_nearest (s:Bool) (m:Nat) (i:Int):double.nearest s m i < 2 ^ 64:=double.nearest_lt s m i
theorem read_num (x:Nat) (h:isNan x = false):(∃ m i,double.read x = .number (isNeg x) m i)∨double.read x = .infinity (isNeg x):=by
 have hx':rung x≤2047 * 2 ^ 52:=by simpa [isNan] using h
 rcases Nat.lt_or_ge (rung x) (2047 * 2 ^ 52) with h1 | h1
 ·obtain ⟨m,i,r,_,_⟩:=read_fin x h1;exact .inl ⟨m,i,r⟩
 ·exact .inr (read_inf x (by omega))
theorem mul_fin (x y:Nat) (hx:finB x = true) (hy:finB y = true):∃ p,double.mul x y = some p∧isNan p = false∧p < 2 ^ 64:=by
 obtain ⟨m,i,r,_,_⟩:=read_fin x (by simpa [finB] using hx)
 obtain ⟨n,j,q,_,_⟩:=read_fin y (by simpa [finB] using hy)
 unfold Format.mul
 rw [r,q]
 exact ⟨_,rfl,nan_nearest _ _ _,lt_nearest _ _ _⟩
theorem add_fin (x y:Nat) (hx:finB x = true) (hy:isNan y = false):∃ p,double.add x y = some p∧isNan p = false∧p < 2 ^ 64:=by
 obtain ⟨m,i,r,_,_⟩:=read_fin x (by simpa [finB] using hx)
 unfold Format.add
 rw [r]
 rcases read_num y hy with ⟨n,j,q⟩ | q
 ·rw [q];exact ⟨_,rfl,nan_nearest _ _ _,lt_nearest _ _ _⟩
 ·rw [q];exact ⟨_,rfl,nan_inf _,double.write_lt _⟩
def ofI (n:Int):Nat:=floatOfInt .f64 n
theorem cut_zero (s:Bool) (n:Nat):Toward.even.cut s n 0 = n:=by
 unfold Toward.cut
 simp [Nat.mod_one]
theorem kept_small (m:Nat) (h:m.log2≤52):m * 2 ^ (52 - m.log2) < 2 ^ 53:=by
 have h2:m * 2 ^ (52 - m.log2) < 2 ^ (m.log2 + 1) * 2 ^ (52 - m.log2):=Nat.mul_lt_mul_of_pos_right Nat.lt_log2_self (Nat.two_pow_pos _)
 rwa [←Nat.pow_add,show m.log2 + 1 + (52 - m.log2) = 53 by omega] at h2
theorem least_eq:double.leastPlace = -1074:=by decide
theorem nearest_eq (s:Bool) (m:Nat) (hm:m≠0) (h:m.log2≤52):double.nearest s m 0 = double.word s (min (((m.log2:Int) - 52 - -1074).toNat * double.binade + m * 2 ^ (52 - m.log2)) double.infRung):=by
 have e:max ((0:Int) + (m.log2:Int) - (double.fractionBits:Int)) double.leastPlace = (m.log2:Int) - 52:=by
  have:(double.fractionBits:Int) = 52:=rfl
  rw [this,least_eq];omega
 have e2:((m.log2:Int) - 52 - 0).toNat = 0:=by omega
 have e3:((0:Int) - ((m.log2:Int) - 52)).toNat = 52 - m.log2:=by omega
 unfold Format.nearest
 rw [if_neg hm]
 simp only [e]
 rw [e2,cut_zero,e3,Nat.shiftLeft_eq,least_eq]
theorem small_rung (a K B I:Nat) (hB:B = 4503599627370496) (hI:I = 2047 * 4503599627370496) (ha:a≤1074) (hK:K < 2 * 4503599627370496):min (a * B + K) I < 2047 * 4503599627370496:=by
 subst hB;subst hI
 have:a * 4503599627370496≤1074 * 4503599627370496:=Nat.mul_le_mul_right _ ha
 omega
theorem nearest_small (s:Bool) (m:Nat) (h:m < 2 ^ 53):finB (double.nearest s m 0) = true:=by
 have hi:double.infRung = 2047 * 4503599627370496:=by decide
 have hb:double.binade = 4503599627370496:=by decide
 by_cases hm:m = 0
 ·subst hm;cases s <;> decide
 ·have h1:m.log2≤52:=by have:=(Nat.log2_lt hm).2 h;omega
  have hr:=small_rung ((m.log2:Int) - 52 - -1074).toNat _ _ _ hb hi (by omega) (show m * 2 ^ (52 - m.log2) < 2 * 4503599627370496 from kept_small m h1)
  rw [nearest_eq s m hm h1]
  unfold finB
  rw [rung_word _ _ (Nat.lt_trans hr (by decide)),decide_eq_true_eq]
  exact hr
theorem ofI_fin (n:Nat) (h:n < 2 ^ 53):finB (ofI n) = true:=by
 unfold ofI floatOfInt FloatKind.nearest FloatKind.encode
 exact nearest_small _ _ (by simpa using h)
def prodB (step:Nat) (k:Nat):Nat:=(double.mul (ofI k) step).getD 0
def valB (lo step:Nat) (k:Nat):Nat:=(double.add lo (prodB step k)).getD 0
theorem prodB_eq (step k:Nat) (hs:finB step = true) (hk:k < 2 ^ 53):double.mul (ofI k) step = some (prodB step k)∧isNan (prodB step k) = false∧prodB step k < 2 ^ 64:=by
 obtain ⟨p,h1,h2,h3⟩:=mul_fin _ _ (ofI_fin k hk) hs
 unfold prodB;rw [h1];exact ⟨rfl,h2,h3⟩
theorem valB_eq (lo step k:Nat) (hl:finB lo = true) (hs:finB step = true) (hk:k < 2 ^ 53):double.add lo (prodB step k) = some (valB lo step k)∧isNan (valB lo step k) = false∧valB lo step k < 2 ^ 64:=by
 obtain ⟨p,h1,h2,h3⟩:=add_fin lo (prodB step k) hl (prodB_eq step k hs hk).2.1
 unfold valB;rw [h1];exact ⟨rfl,h2,h3⟩
def firstNot (p:Nat→Bool):Nat→Nat
 | 0=>0
 | m + 1=>if firstNot p m = m∧p m = true then m + 1 else firstNot p m
theorem firstNot_le (p:Nat→Bool) (m:Nat):firstNot p m≤m:=by
 induction m with
 | zero=>simp [firstNot]
 | succ m ih=>simp only [firstNot];split <;> omega
theorem firstNot_all (p : Nat → Bool) (m : Nat) : ∀ i, i < firstNot p m → p i = true := by
  induction m with
  | zero => intro i h; simp [firstNot] at h
  | succ m ih =>
    intro i h
    simp only [firstNot] at h
    split at h
    · rename_i hh
      rcases Nat.lt_or_ge i m with q | q
      · exact ih i (by omega)
      · rw [show i = m by omega]; exact hh.2
    · exact ih i h
theorem firstNot_stop (p : Nat → Bool) (m : Nat) (h : firstNot p m < m) : p (firstNot p m) = false := by
  induction m with
  | zero => omega
  | succ m ih =>
    simp only [firstNot] at h ⊢
    split
    · rename_i hh; rw [if_pos hh] at h; omega
    · rename_i hh
      rw [if_neg hh] at h
      have hle := firstNot_le p m
      rcases Nat.lt_or_ge (firstNot p m) m with q | q
      · exact ih q
      · have e : firstNot p m = m := by omega
        rw [e]
        cases hp : p m
        · rfl
        · exact absurd ⟨e, hp⟩ hh
theorem firstNot_eq (p:Nat→Bool) (m n:Nat) (h1:n≤m) (h2:∀ i,i < n→p i = true) (h3:n = m∨p n = false):firstNot p m = n:=by
 rcases Nat.lt_trichotomy (firstNot p m) n with q | q | q
 ·have:=firstNot_stop p m (by omega);rw [h2 _ q] at this;cases this
 ·exact q
 ·have:=firstNot_all p m n q
  rcases h3 with h3 | h3
  ·have:=firstNot_le p m;omega
  ·rw [h3] at this;cases this
def leB (a b:Nat):Bool:=double.order a b == some .lt || double.order a b == some .eq
def stepsBad (lo hi step:Nat):Bool:=!finB lo || (!finB hi || (!finB step || (decide (sv hi < sv lo) || decide (sv step≤0))))
def stepsRaw (lo hi step:Nat):Nat:=firstNot (fun k=>leB (valB lo step k) hi) 10002
theorem stepsRaw_eq (lo hi step n:Nat) (h1:n≤10002) (h2:∀ i,i < n→leB (valB lo step i) hi = true) (h3:n = 10002∨leB (valB lo step n) hi = false):stepsRaw lo hi step = n:=by
 unfold stepsRaw
 generalize 10002 = m at *
 exact firstNot_eq _ m n h1 h2 h3
def stepsN (lo hi step:Nat):Nat:=if stepsBad lo hi step then 0 else if 10001 < stepsRaw lo hi step then 0 else stepsRaw lo hi step
def stepsE (lo hi step:Nat):Int:=if stepsBad lo hi step then 180 else if 10001 < stepsRaw lo hi step then 180 else 0
end Go.Proofs.YtpcbamcelpcigaaGreat
namespace Go.Proofs.YtpcbamcelpcigaaGreat
open Go.RowKit
theorem and_top (x:Nat) (h:x < 2 ^ 64):x &&& 2 ^ 63 = if x < 2 ^ 63 then 0 else 2 ^ 63:=by
 apply Nat.eq_of_testBit_eq
 intro i
 rw [Nat.testBit_and]
 by_cases hi:i = 63
 ·subst hi
  rw [Nat.testBit_two_pow_self,Bool.and_true]
  split
  ·rename_i hlt;rw [Nat.testBit_lt_two_pow hlt];simp
  ·rw [Nat.testBit_two_pow_self,Nat.testBit_eq_decide_div_mod_eq]
   have:x / 2 ^ 63 = 1:=by omega
   rw [this];rfl
 ·rw [Nat.testBit_two_pow_of_ne (by omega),Bool.and_false]
  split
  ·simp
  ·rw [Nat.testBit_two_pow_of_ne (by omega)]
theorem or_top (x:Nat) (h:x < 2 ^ 63):x ||| 2 ^ 63 = x + 2 ^ 63:=by
 rw [Nat.or_comm,Nat.add_comm]
 exact (Nat.two_pow_add_eq_or_of_lt h 1 |>.symm ▸ by simp)
theorem ofInt_nat (a:Nat) (ha:a < 2 ^ 64):(BitVec.ofInt 64 (a:Int)).toNat = a:=by
 rw [BitVec.ofInt_natCast,BitVec.toNat_ofNat];exact Nat.mod_eq_of_lt ha
theorem bits_and_def (a b:Int):bits .and .u64 a b = IntKind.u64.wrap ((BitVec.ofInt 64 a &&& BitVec.ofInt 64 b).toNat:Int):=rfl
theorem bits_or_def (a b:Int):bits .or .u64 a b = IntKind.u64.wrap ((BitVec.ofInt 64 a ||| BitVec.ofInt 64 b).toNat:Int):=rfl
theorem bits_xor_def (a b:Int):bits .xor .u64 a b = IntKind.u64.wrap ((BitVec.ofInt 64 a ^^^ BitVec.ofInt 64 b).toNat:Int):=rfl
theorem top_cast:(9223372036854775808:Int) = ((2 ^ 63:Nat):Int):=by decide
theorem u64_and_top (x:Nat) (h:x < 2 ^ 64):bits .and .u64 (x:Int) 9223372036854775808 = if x < 2 ^ 63 then 0 else 9223372036854775808:=by
 rw [top_cast,bits_and_def,BitVec.toNat_and,ofInt_nat x h,ofInt_nat _ (by decide),and_top x h,IntKind.wrap_u64]
 split <;> omega
theorem u64_or_top (x:Nat) (h:x < 2 ^ 63):bits .or .u64 (x:Int) 9223372036854775808 = ((x + 9223372036854775808:Nat):Int):=by
 rw [top_cast,bits_or_def,BitVec.toNat_or,ofInt_nat x (by omega),ofInt_nat _ (by decide),or_top x h,IntKind.wrap_u64]
 omega
theorem u64_not (x:Nat) (h:x < 2 ^ 64):bits .xor .u64 IntKind.u64.max (x:Int) = ((18446744073709551615 - x:Nat):Int):=by
 have e:BitVec.ofInt 64 IntKind.u64.max = BitVec.allOnes 64:=by rfl
 rw [bits_xor_def,e,BitVec.xor_comm,BitVec.xor_allOnes,BitVec.toNat_not,ofInt_nat x h,IntKind.wrap_u64]
 omega
open Ieee
def keyN (x:Nat):Nat:=if isNan x then 18446744073709551615 else if x < 9223372036854775808 then x + 9223372036854775808 else 18446744073709551615 - x
def ofB (k:Nat):Nat:=if k < 9223372036854775808 then 18446744073709551615 - k else k - 9223372036854775808
theorem rung_of (x:Nat) (h:x < 2 ^ 64):rung x = if x < 2 ^ 63 then x else x - 2 ^ 63:=by unfold rung;split <;> omega
theorem isNeg_of (x:Nat) (h:x < 2 ^ 64):isNeg x = decide (2 ^ 63≤x):=by
 unfold isNeg
 rw [Bool.eq_iff_iff]
 simp only [beq_iff_eq,decide_eq_true_eq]
 omega
theorem ofB_key (x:Nat) (h:x < 2 ^ 64) (hn:isNan x = false):ofB (keyN x) = x:=by
 unfold ofB keyN
 rw [hn]
 simp only [Bool.false_eq_true,if_false]
 split <;> split <;> omega
theorem key_nan (x:Nat) (h:isNan x = true):keyN x = 18446744073709551615:=by simp [keyN,h]
end Go.Proofs.YtpcbamcelpcigaaGreat
namespace Go.Proofs.YtpcbamcelpcigaaGreat
def ltrA (c:UInt8):Bool:=decide (97≤c.toNat∧c.toNat≤122)
def othA (c:UInt8):Bool:=decide (48≤c.toNat∧c.toNat≤57∨c.toNat = 95)
def kwds:List Bs:=[[111,114],[97,110,100],[110,111,116],[108,101,110],[104,97,115],[97,98,115]]
def signA (l:Bs) (i:Nat):Bool:=ltrA (l.getD i 0) || (decide (i≠0) && othA (l.getD i 0))
def nameP (l:Bs):Bool:=decide (1≤l.length∧l.length≤16) && ((List.range l.length).all (signA l) && decide (l ∉ kwds))
def flatP (l:Bs) (a b:Int):Bool:=decide (flatS l = l) && decide (a≤((cutS l).length:Int)∧((cutS l).length:Int)≤b)
def labelP (l:Bs):Bool:=flatP l 1 64
def tyK (k:Int):Nat:=if k = 1∨k = 2∨k = 4∨k = 6∨k = 8 then 2 else if k = 3∨k = 9∨k = 7 then 1 else if k = 5 then 3 else 0
def listK (k:Int):Bool:=decide (k = 6∨k = 7∨k = 8)
def optsP (L:List Bs):Bool:=decide (1≤L.length∧L.length≤256) && (L.all labelP && decide L.Nodup)
structure Vle where
 s:Bs
 n:Int
 b:Bool
 l:List Int
 f:Nat
structure Fld where
 k:Int
 nm:Bs
 lb:Bs
 op:List Bs
 mn:Int
 mx:Int
 lo:Nat
 hi:Nat
 st:Nat
 d:Vle
 sh:Bs
 ck:Bs
def zF (x:Nat):Bool:=decide (rung x = 0)
def sldN (f:Fld):Nat:=if f.k = 9 then stepsN f.lo f.hi f.st else 0
def ownP (f : Fld) : Bool :=
  (if listK f.k = true then optsP f.op else decide (f.op = [])) && ((decide (f.k = 9) || (zF f.lo && (zF f.hi && zF f.st))) &&
  (if f.k = 1 ∨ f.k = 2 then decide (0 ≤ f.mn ∧ f.mn ≤ f.mx ∧ f.mx ≤ 4096)
   else if f.k = 3 then decide (f.mn ≤ f.mx ∧ -999999999999999 ≤ f.mn ∧ f.mn ≤ 999999999999999 ∧ -999999999999999 ≤ f.mx ∧ f.mx ≤ 999999999999999)
   else if f.k = 7 then decide (0 ≤ f.mn ∧ f.mn ≤ f.mx ∧ f.mx ≤ (f.op.length : Int))
   else (decide (f.k ≠ 9) || decide (sldN f ≠ 0)) && decide (f.mn = 0 ∧ f.mx = 0)))
def onlyP (k:Int) (v:Vle):Bool:=
 (decide (k = 1∨k = 2∨k = 4) || decide (v.s = [])) && ((decide (k = 3∨k = 6∨k = 8) || decide (v.n = 0)) && ((decide (k = 5) || !v.b) && ((decide (k = 7) || decide (v.l = [])) && (decide (k = 9) || zF v.f))))
def risA (l:List Int) (most:Int) (i:Nat):Bool:=decide (0≤l.getD i 0∧l.getD i 0 < most) && (decide (i = 0) || decide (l.getD (i - 1) 0 < l.getD i 0))
def risP (l:List Int) (most:Int):Bool:=(List.range l.length).all (risA l most)
def digA (c:UInt8):Bool:=decide (48≤c.toNat∧c.toNat≤57)
def numN (l:Bs):Nat:=l.foldl (fun n c=>10 * n + (c.toNat - 48)) 0
def leapP (y:Nat):Bool:=decide (1≤y∧y≤9999∧y % 4 = 0∧(y % 100≠0∨y % 400 = 0))
def daysN (y m:Nat):Nat:=
 if y < 1∨9999 < y∨m < 1∨12 < m then 0 else if m = 2 then (if leapP y = true then 29 else 28) else if m = 4∨m = 6∨m = 9∨m = 11 then 30 else 31
def dateP (l:Bs):Bool:=
 decide (l.length = 10∧l.getD 4 0 = 45∧l.getD 7 0 = 45) && ((l.take 4).all digA && (((l.drop 5).take 2).all digA && ((l.drop 8).all digA &&
 decide (1≤numN (l.drop 8)∧numN (l.drop 8)≤daysN (numN (l.take 4)) (numN ((l.drop 5).take 2))))))
def plcN (f:Fld) (x:Nat):Nat:=firstNot (fun k=>keyN (valB f.lo f.st k) != keyN x) (sldN f)
def placeP (f:Fld) (x:Nat):Nat × Bool:=if f.k = 9∧isNan x = false∧plcN f x < sldN f then (plcN f x,true) else (0,false)
def fitsP (f : Fld) (v : Vle) : Bool :=
  onlyP f.k v && (if f.k = 1 ∨ f.k = 2 then flatP v.s 0 f.mx
   else if f.k = 3 then decide (-999999999999999 ≤ v.n ∧ v.n ≤ 999999999999999)
   else if f.k = 4 then (decide (v.s = []) || dateP v.s)
   else if f.k = 5 then true
   else if f.k = 6 ∨ f.k = 8 then decide (0 ≤ v.n ∧ v.n ≤ (f.op.length : Int) - 1)
   else if f.k = 7 then risP v.l f.op.length
   else if f.k = 9 then (placeP f v.f).2
   else false)
def valueP (f:Fld) (v:Vle):Bool:=ownP f && fitsP f v
def fieldP (f:Fld):Nat:=if tyK f.k = 0 then 1 else if nameP f.nm && (labelP f.lb && valueP f f.d) then 0 else 210
def isDig (c:UInt8):Bool:=48≤c && c≤57
def isLet (c:UInt8):Bool:=97≤c && c≤122
def isWrd (c:UInt8):Bool:=isLet c || isDig c || c == 95
structure Tok where
 k:Nat
 s:Bs
deriving DecidableEq
def cntDig (l:Bs):Nat:=(l.takeWhile isDig).length
def cntWrd (l:Bs):Nat:=(l.takeWhile isWrd).length
def numLen (l:Bs):Nat × Nat × Nat:=
 let a:=cntDig l
 if l.getD a 0 = 46∧isDig (l.getD (a + 1) 0) = true then (a + 1 + cntDig (l.drop (a + 1)),a + cntDig (l.drop (a + 1)),cntDig (l.drop (a + 1))) else (a,a,0)
def isTwo (c d:UInt8):Bool:=d == 61 && (c == 33 || c == 60 || c == 62)
def isOne (c:UInt8):Bool:=c == 61 || c == 60 || c == 62 || c == 43 || c == 45 || c == 42 || c == 47 || c == 40 || c == 41 || c == 44
def valStep (x:Nat × Nat × Bool) (c:UInt8):Nat × Nat × Bool:=if c = 46 then (x.1,x.2.1,true) else (10 * x.1 + (c.toNat - 48),if x.2.2 = true then x.2.1 + 1 else x.2.1,x.2.2)
def valF (l:Bs):Nat × Nat × Bool:=l.foldl valStep (0,0,false)
def NumT (l:Bs):Prop:=(∀ c ∈ l,c = 46∨isDig c = true)∧(valF l).2.1≤6∧(l.filter (fun c=>c != 46)).length≤15∧l.length≤16
def cntTxt (l:Bs):Nat:=(l.takeWhile (fun c=>c != 39)).length
def lex1 (l : Bs) : Option (Tok × Nat) :=
  match l with
  | [] => none
  | c :: t =>
    if isDig c = true then
      if (numLen l).2.1 ≤ 15 ∧ (numLen l).2.2 ≤ 6 then some (⟨1, l.take (numLen l).1⟩, (numLen l).1) else none
    else if isLet c = true then some (⟨2, l.take (1 + cntWrd t)⟩, 1 + cntWrd t)
    else if c = 39 then (if cntTxt t < t.length then some (⟨3, t.take (cntTxt t)⟩, cntTxt t + 2) else none)
    else if isTwo c (t.getD 0 0) = true then some (⟨4, l.take 2⟩, 2)
    else if isOne c = true then some (⟨4, l.take 1⟩, 1)
    else none
def cntBl (l:Bs):Nat:=(l.takeWhile (fun c=>c == 32)).length
def lexF : Nat → Bs → List Tok × Bool
  | 0, _ => ([], false)
  | n + 1, l =>
    let l' := l.drop (cntBl l)
    if l' = [] then ([], true) else
    match lex1 l' with
    | none => ([], false)
    | some (t, k) => (t :: (lexF n (l'.drop k)).1, (lexF n (l'.drop k)).2)
def lex (l:Bs):List Tok × Bool:=lexF (l.length + 1) l
inductive Tree where
 | mk (op:Bs) (n:Nat) (s:Bs) (l:List Tree)
def Tree.op:Tree→Bs | .mk o _ _ _=>o
def Tree.n:Tree→Nat | .mk _ n _ _=>n
def Tree.s:Tree→Bs | .mk _ _ s _=>s
def Tree.l:Tree→List Tree | .mk _ _ _ l=>l
mutual
def depT:Tree→Nat
 | .mk _ _ _ l=>depL l + 1
def depL:List Tree→Nat
 | []=>0
 | t :: r=>max (depT t) (depL r)
end
inductive Mode where
 | or | orT (t:Tree) | and | andT (t:Tree) | not | sum | sumT (t:Tree) | prod | prodT (t:Tree) | signed | atom
def wor:Bs:=[111,114]
def wand:Bs:=[97,110,100]
def wnot:Bs:=[110,111,116]
def wlen:Bs:=[108,101,110]
def wabs:Bs:=[97,98,115]
def whas:Bs:=[104,97,115]
def wnum:Bs:=[110,117,109]
def wtext:Bs:=[116,101,120,116]
def wname:Bs:=[110,97,109,101]
def wneg:Bs:=[110,101,103]
def isTok (ts:List Tok) (k:Nat) (s:Bs):Bool:=
 match ts with
 | []=>false
 | t :: _=>t.k == k && decide (t.s = s)
def isCmp (s:Bs):Bool:=decide (s = [61]∨s = [33,61]∨s = [60]∨s = [60,61]∨s = [62]∨s = [62,61])
def adv (ok:Bool) (ts:List Tok):Option (List Tok):=
 match ts with
 | []=>none
 | _ :: r=>if r = []∧ok = false then none else some r
def must (ok:Bool) (s:Bs) (ts:List Tok):Option (List Tok):=if isTok ts 4 s = true then adv ok ts else none
def two (op:Bs) (a b:Tree):Tree:=.mk op 0 [] [a,b]
def one (op:Bs) (a:Tree):Tree:=.mk op 0 [] [a]
def inside (ok : Bool) (R : List Tok → Option (Tree × List Tok)) (ts : List Tok) : Option (Tree × List Tok) :=
  match must ok [40] ts with
  | none => none
  | some t1 => match R t1 with
    | none => none
    | some (a, t2) => match must ok [41] t2 with
      | none => none
      | some t3 => some (a, t3)
def hasP (ok : Bool) (R : List Tok → Option (Tree × List Tok)) (ts : List Tok) : Option (Tree × List Tok) :=
  match must ok [40] ts with
  | none => none
  | some t1 => match R t1 with
    | none => none
    | some (a, t2) => match must ok [44] t2 with
      | none => none
      | some t3 => match R t3 with
        | none => none
        | some (b, t4) => match must ok [41] t4 with
          | none => none
          | some t5 => some (two whas a b, t5)
def P (V : Bs → Nat) (ok : Bool) : Nat → Mode → List Tok → Option (Tree × List Tok)
  | 0, _, _ => none
  | n + 1, .or, ts => match P V ok n .and ts with
    | none => none
    | some (a, r) => P V ok n (.orT a) r
  | n + 1, .orT a, ts => if isTok ts 2 wor = true then
      match adv ok ts with
      | none => none
      | some t1 => match P V ok n .and t1 with
        | none => none
        | some (b, r) => P V ok n (.orT (two wor a b)) r
    else some (a, ts)
  | n + 1, .and, ts => match P V ok n .not ts with
    | none => none
    | some (a, r) => P V ok n (.andT a) r
  | n + 1, .andT a, ts => if isTok ts 2 wand = true then
      match adv ok ts with
      | none => none
      | some t1 => match P V ok n .not t1 with
        | none => none
        | some (b, r) => P V ok n (.andT (two wand a b)) r
    else some (a, ts)
  | n + 1, .not, ts => if isTok ts 2 wnot = true then
      match adv ok ts with
      | none => none
      | some t1 => match P V ok n .not t1 with
        | none => none
        | some (b, r) => some (one wnot b, r)
    else match P V ok n .sum ts with
      | none => none
      | some (a, r) => match r with
        | [] => some (a, r)
        | t :: _ => if t.k = 4 ∧ isCmp t.s = true then
            match adv ok r with
            | none => none
            | some t1 => match P V ok n .sum t1 with
              | none => none
              | some (b, r') => some (two t.s a b, r')
          else some (a, r)
  | n + 1, .sum, ts => match P V ok n .prod ts with
    | none => none
    | some (a, r) => P V ok n (.sumT a) r
  | n + 1, .sumT a, ts => if isTok ts 4 [43] = true ∨ isTok ts 4 [45] = true then
      match adv ok ts with
      | none => none
      | some t1 => match P V ok n .prod t1 with
        | none => none
        | some (b, r) => P V ok n (.sumT (two ((ts.headD ⟨0, []⟩).s) a b)) r
    else some (a, ts)
  | n + 1, .prod, ts => match P V ok n .signed ts with
    | none => none
    | some (a, r) => P V ok n (.prodT a) r
  | n + 1, .prodT a, ts => if isTok ts 4 [42] = true ∨ isTok ts 4 [47] = true then
      match adv ok ts with
      | none => none
      | some t1 => match P V ok n .signed t1 with
        | none => none
        | some (b, r) => P V ok n (.prodT (two ((ts.headD ⟨0, []⟩).s) a b)) r
    else some (a, ts)
  | n + 1, .signed, ts => if isTok ts 4 [45] = true then
      match adv ok ts with
      | none => none
      | some t1 => match P V ok n .signed t1 with
        | none => none
        | some (b, r) => some (one wneg b, r)
    else P V ok n .atom ts
  | n + 1, .atom, ts =>
    match ts with
    | [] => none
    | t :: _ =>
      if t.k = 1 then (match adv ok ts with
        | none => none
        | some r => some (.mk wnum (V t.s) [] [], r))
      else if t.k = 3 then (match adv ok ts with
        | none => none
        | some r => some (.mk wtext 0 t.s [], r))
      else if t.k = 2 then
        if t.s = wor ∨ t.s = wand ∨ t.s = wnot then none
        else match adv ok ts with
        | none => none
        | some r =>
          if t.s = wlen ∨ t.s = wabs then (match inside ok (P V ok n .or) r with
            | none => none
            | some (a, r') => some (one t.s a, r'))
          else if t.s = whas then hasP ok (P V ok n .or) r
          else some (.mk wname 0 t.s [], r)
      else inside ok (P V ok n .or) ts
theorem adv_len {ok:Bool} {ts r:List Tok} (h:adv ok ts = some r):r.length + 1 = ts.length∧(ok = false→r≠[]):=by
 unfold adv at h
 split at h
 ·cases h
 ·split at h
  ·cases h
  ·rename_i hc
   cases h
   refine ⟨rfl,fun ho e=>hc ⟨e,ho⟩⟩
theorem must_len {ok:Bool} {s:Bs} {ts r:List Tok} (h:must ok s ts = some r):r.length + 1 = ts.length∧(ok = false→r≠[]):=by
 unfold must at h
 split at h
 ·exact adv_len h
 ·cases h
def Less (ok:Bool) (tail:Bool) (ts r:List Tok):Prop:=r.length≤ts.length∧(tail = false→r.length < ts.length)∧((ok = false→ts≠[])→ok = false→r≠[])
theorem inside_len {ok:Bool} {R:List Tok→Option (Tree × List Tok)} {ts r:List Tok} {a:Tree} (hR:∀ ts a r,R ts = some (a,r)→Less ok false ts r) (h:inside ok R ts = some (a,r)):Less ok false ts r:=by
 unfold inside at h
 split at h
 ·cases h
 ·rename_i t1 h1
  split at h
  ·cases h
  ·rename_i a2 t2 h2
   split at h
   ·cases h
   ·rename_i t3 h3
    cases h
    have:=must_len h1
    have:=(hR _ _ _ h2).1
    have:=must_len h3
    exact ⟨by omega,fun _=>by omega,fun _=>this.2⟩
theorem hasP_len {ok:Bool} {R:List Tok→Option (Tree × List Tok)} {ts r:List Tok} {a:Tree} (hR:∀ ts a r,R ts = some (a,r)→Less ok false ts r) (h:hasP ok R ts = some (a,r)):Less ok false ts r:=by
 unfold hasP at h
 split at h
 ·cases h
 ·rename_i t1 h1
  split at h
  ·cases h
  ·rename_i a2 t2 h2
   split at h
   ·cases h
   ·rename_i t3 h3
    split at h
    ·cases h
    ·rename_i b t4 h4
     split at h
     ·cases h
     ·rename_i t5 h5
      cases h
      have:=must_len h1
      have:=(hR _ _ _ h2).1
      have:=must_len h3
      have:=(hR _ _ _ h4).1
      have:=must_len h5
      exact ⟨by omega,fun _=>by omega,fun _=>this.2⟩
def Mode.tail:Mode→Bool
 | .orT _ | .andT _ | .sumT _ | .prodT _=>true
 | _=>false
theorem less_adv {ok:Bool} {t:Bool} {ts t1 r:List Tok} (h:adv ok ts = some t1) (k:Less ok t t1 r):Less ok false ts r:=by
 have g:=adv_len h
 exact ⟨by have:=k.1;omega,fun _=>by have:=k.1;omega,fun _=>k.2.2 g.2⟩
theorem less_adv0 {ok:Bool} {ts t1:List Tok} (h:adv ok ts = some t1):Less ok false ts t1:=by
 have g:=adv_len h
 exact ⟨by omega,fun _=>by omega,fun _=>g.2⟩
theorem less_trans {ok a b:Bool} {ts t1 r:List Tok} (h:Less ok a ts t1) (k:Less ok b t1 r):Less ok a ts r:=
 ⟨by have:=h.1;have:=k.1;omega,fun q=>by have:=h.2.1 q;have:=k.1;omega,fun q=>k.2.2 (h.2.2 q)⟩
theorem less_weak {ok:Bool} {a:Bool} {ts r:List Tok} (h:Less ok false ts r):Less ok a ts r:=⟨h.1,fun _=>h.2.1 rfl,h.2.2⟩
theorem P_len (V : Bs → Nat) (ok : Bool) : ∀ (n : Nat) (m : Mode) (ts : List Tok) (a : Tree) (r : List Tok), P V ok n m ts = some (a, r) → Less ok m.tail ts r := by
  intro n
  induction n with
  | zero => intro m ts a r h; cases h
  | succ n ih =>
    have chain : ∀ (m1 : Mode) (m2 : Tree → Mode) (ts r : List Tok) (a : Tree), m1.tail = false → (match P V ok n m1 ts with | none => none | some (a, r) => P V ok n (m2 a) r) = some (a, r) → Less ok false ts r := by
      intro m1 m2 ts r a hm h
      split at h
      · cases h
      · rename_i b t1 h1
        have g := ih _ _ _ _ h1
        rw [hm] at g
        exact less_trans g (ih _ _ _ _ h)
    have tailr : ∀ (c : Prop) [Decidable c] (m1 : Mode) (m2 : Tree → Mode) (ts r : List Tok) (a x : Tree), (if c then (match adv ok ts with | none => none | some t1 => match P V ok n m1 t1 with | none => none | some (b, r) => P V ok n (m2 b) r) else some (x, ts)) = some (a, r) → Less ok true ts r := by
      intro c _ m1 m2 ts r a x h
      split at h
      · split at h
        · cases h
        · rename_i t1 h1
          split at h
          · cases h
          · rename_i b t2 h2
            exact less_weak (less_adv h1 (less_trans (ih _ _ _ _ h2) (ih _ _ _ _ h)))
      · cases h; exact ⟨Nat.le_refl _, (fun h => by cases h), fun q => q⟩
    have hor : ∀ ts a r, P V ok n .or ts = some (a, r) → Less ok false ts r := fun ts a r h => ih _ _ _ _ h
    intro m ts a r h
    cases m with
    | or => exact chain .and Mode.orT ts r a rfl (by simpa only [P] using h)
    | and => exact chain .not Mode.andT ts r a rfl (by simpa only [P] using h)
    | sum => exact chain .prod Mode.sumT ts r a rfl (by simpa only [P] using h)
    | prod => exact chain .signed Mode.prodT ts r a rfl (by simpa only [P] using h)
    | orT x => exact tailr _ .and (fun b => Mode.orT (two wor x b)) ts r a x (by simpa only [P] using h)
    | andT x => exact tailr _ .not (fun b => Mode.andT (two wand x b)) ts r a x (by simpa only [P] using h)
    | sumT x => exact tailr _ .prod (fun b => Mode.sumT (two ((ts.headD ⟨0, []⟩).s) x b)) ts r a x (by simpa only [P] using h)
    | prodT x => exact tailr _ .signed (fun b => Mode.prodT (two ((ts.headD ⟨0, []⟩).s) x b)) ts r a x (by simpa only [P] using h)
    | not =>
      simp only [P] at h
      split at h
      · split at h
        · cases h
        · rename_i t1 h1
          split at h
          · cases h
          · rename_i b t2 h2
            cases h
            exact less_adv h1 (ih _ _ _ _ h2)
      · split at h
        · cases h
        · rename_i b t2 h2
          have g2 := ih _ _ _ _ h2
          split at h
          · cases h; exact g2
          · split at h
            · split at h
              · cases h
              · rename_i t3 h3
                split at h
                · cases h
                · rename_i c t4 h4
                  cases h
                  exact less_trans g2 (less_adv h3 (ih _ _ _ _ h4))
            · cases h; exact g2
    | signed =>
      simp only [P] at h
      split at h
      · split at h
        · cases h
        · rename_i t1 h1
          split at h
          · cases h
          · rename_i b t2 h2
            cases h
            exact less_adv h1 (ih _ _ _ _ h2)
      · have g := ih _ _ _ _ h
        exact g
    | atom =>
      cases ts with
      | nil => simp only [P] at h; cases h
      | cons t ts =>
        simp only [P] at h
        split at h
        · split at h
          · cases h
          · rename_i t1 h1
            cases h
            exact less_adv0 h1
        · split at h
          · split at h
            · cases h
            · rename_i t1 h1
              cases h
              exact less_adv0 h1
          · split at h
            · split at h
              · cases h
              · split at h
                · cases h
                · rename_i t1 h1
                  split at h
                  · split at h
                    · cases h
                    · rename_i b t2 h2
                      cases h
                      exact less_adv h1 (inside_len hor h2)
                  · split at h
                    · exact less_adv h1 (hasP_len hor h)
                    · cases h; exact less_adv0 h1
            · exact inside_len hor h
end Go.Proofs.YtpcbamcelpcigaaGreat
