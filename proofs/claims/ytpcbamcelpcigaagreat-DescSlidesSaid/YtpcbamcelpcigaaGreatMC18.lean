/- Own texts, merged. -/
import Derived.WalkKit
import Derived.Test.YtpcbamcelpcigaaGreatMC17
import Derived.Test.YtpcbamcelpcigaaGreatMC00
set_option maxRecDepth 100000
set_option maxHeartbeats 32000000
open Go.Lib (hid)
namespace Go.Proofs.YtpcbamcelpcigaaGreat
open Go.RowKit Go.Shelf
theorem rpiece_txt (l:Bs) (hl:l.length≤1000000) (h39:l.getD 0 0 = 39) (w:World):Calls Tryz.prog 108 #[.string (tx l)] w (PieceEnd l w):=by
 have h0:isDig (l.getD 0 0) = false:=by rw [h39];decide
 have h1:isLet (l.getD 0 0) = false:=by rw [h39];decide
 have hpos:0 < l.length:=getD_zero (l:=l) (i:=0) (by rw [h39];decide)
 have HS:=hid (tx_size' l)
 have p0:0 < (tx l).size:=by have:=HS.out;omega
 have HL:=hid hl
 have HT:=hid (fun i (hi:i < l.length)=>tx_at l i hi)
 have HX0:=hid (tx_at l 0 hpos)
 have HI1:Hid (∀ W,Calls Tryz.prog 143 #[.int .u8 (((tx l)[0]'p0).toNat:Int)] W fun e w'=>e = .returned (.bool false)∧W = w'):=hid (fun W=>by rw [HX0.out,←h0];exact rdigit _ W)
 have HI2:Hid (∀ W,Calls Tryz.prog 145 #[.int .u8 (((tx l)[0]'p0).toNat:Int)] W fun e w'=>e = .returned (.bool false)∧W = w'):=hid (fun W=>by rw [HX0.out,←h1];exact rletter _ W)
 have z0:((((tx l)[0]'p0).toNat:Int) == 39) = true:=by
  have:(((tx l)[0]'p0).toNat:Int) = 39:=toNat_of (HX0.out.trans h39)
  simpa using this
 have HLEX:=hid (lex1_text h39)
 have HTW:=hid (takeWhile_le (fun c=>c != 39) (l.drop 1))
 clear hl h0 h1 h39
 go_enter Tryz.func108,Tryz.ntmps108
 go_wp2_with (first | (go_at_call 143;refine (HI1.out _).mono ?_;rintro e w1 ⟨rfl,rfl⟩) | (go_at_call 145;refine (HI2.out _).mono ?_;rintro e w1 ⟨rfl,rfl⟩))
 go_loopg [10] (l.length - 1) (fun gh i wr=>∃ j:Nat,i = .int .i64 j∧1≤j∧j + gh = l.length∧Hid (j - 1≤cntTxt (l.drop 1))∧(w.alloc (.cells #[.int .u8 0,.string ⟨#[]⟩] 152)) = wr)
 case atStart=>exact ⟨1,rfl,by omega,by omega,hid (Nat.zero_le _),rfl⟩
 case round=>
  obtain ⟨j,rfl,j1,hj,hc,rfl⟩:=hrel
  have jl:j≤1000000:=by have:=HL.out;omega
  by_cases q1:j < (tx l).size
  ·have q1':j < l.length:=by have:=HS.out;omega
   have HX:=hid (HT.out j q1')
   have HA:=hid (takeWhile_at (fun c=>c != 39) (l.drop 1) (j - 1) hc.out (by simp;omega))
   rw [getD_drop,show 1 + (j - 1) = j by omega] at HA
   by_cases q2:l.getD j 0 = 39
   ·have HV:Hid (j - 1 = cntTxt (l.drop 1)):=hid (HA.out.2 (by rw [q2];decide))
    have z:(((tx l)[j]'q1).toNat:Int) = 39:=toNat_of (HX.out.trans q2)
    have q3:j≤(tx l).size:=by omega
    clear q2 HA
    go_wp2
    have HBW:=bel1 w (.cells #[.int .u8 116,.string ((tx l).extract 1 j)] 152)
    refine bodyPost_ret (res_cell_tmp2 rfl _ _ w.heap.size 152 _ _ _ rfl (heap_alloc_new w _) Tryz.underlying152 rfl (by kernel_rfl)) rfl ?_
    rw [tx_extract] at HBW
    rw [tx_extract]
    exact ⟨HBW,.inr ⟨_,j + 1,by rw [HLEX.out,←HV.out,if_pos (by rw [List.length_drop];omega),show j - 1 + 2 = j + 1 by omega],rfl⟩⟩
   ·have HV:Hid (j + 1 - 1≤cntTxt (l.drop 1)):=hid (by have h:j - 1 + 1≤cntTxt (l.drop 1):=HA.out.1 (by simpa using q2);omega)
    have z:¬ (((tx l)[j]'q1).toNat:Int) = 39:=ne_nat (c:=(tx l)[j]'q1) (v:=39) (by rw [HX.out];exact q2)
    clear q2 HA
    go_wp2
    go_roundg (gk - 1)
    case measure=>omega
    case rel=>exact ⟨j + 1,by go_num,by omega,by omega,HV,rfl⟩
  ·have q2:¬ (j:Int) < ((tx l).size:Int):=by omega
   have HV:Hid (¬ cntTxt (l.drop 1) < (l.drop 1).length):=hid (by
    have h1:=HS.out
    have h2:=hc.out
    rw [List.length_drop]
    omega)
   go_wp2
   refine bodyPost_ret (res_cell_tmp2 rfl _ _ w.heap.size 152 _ _ _ rfl (heap_alloc_new w _) Tryz.underlying152 rfl (by kernel_rfl)) rfl ?_
   exact ⟨bel1 w _,.inl ⟨by rw [HLEX.out,if_neg HV.out],_,_,_,rfl⟩⟩
theorem rpiece_two (l:Bs) (hl:l.length≤1000000) (h2:isTwo (l.getD 0 0) (l.getD 1 0) = true) (w:World):Calls Tryz.prog 108 #[.string (tx l)] w (PieceEnd l w):=by
 have h3:l.getD 1 0 = 61∧(l.getD 0 0 = 33∨l.getD 0 0 = 60∨l.getD 0 0 = 62):=by simpa [isTwo,or_assoc] using h2
 have hp1:1 < l.length:=getD_zero (l:=l) (i:=1) (by rw [h3.1];decide)
 have hpos:0 < l.length:=by omega
 have h0:isDig (l.getD 0 0) = false:=by rcases h3.2 with h | h | h <;> rw [h] <;> decide
 have h1:isLet (l.getD 0 0) = false:=by rcases h3.2 with h | h | h <;> rw [h] <;> decide
 have HS:=hid (tx_size' l)
 have p0:0 < (tx l).size:=by have:=HS.out;omega
 have HL:=hid hl
 have HT:=hid (fun i (hi:i < l.length)=>tx_at l i hi)
 have HX0:=hid (tx_at l 0 hpos)
 have HI1:Hid (∀ W,Calls Tryz.prog 143 #[.int .u8 (((tx l)[0]'p0).toNat:Int)] W fun e w'=>e = .returned (.bool false)∧W = w'):=hid (fun W=>by rw [HX0.out,←h0];exact rdigit _ W)
 have HI2:Hid (∀ W,Calls Tryz.prog 145 #[.int .u8 (((tx l)[0]'p0).toNat:Int)] W fun e w'=>e = .returned (.bool false)∧W = w'):=hid (fun W=>by rw [HX0.out,←h1];exact rletter _ W)
 have p1:1 < (tx l).size:=by have:=HS.out;omega
 have HX1:=hid (tx_at l 1 hp1)
 have HLEX:Hid (lex1 l = some (⟨4,l.take 2⟩,2)):=hid (by
  rw [lex1_sign (fun h=>by rw [h] at hpos;cases hpos) h0 h1 (by rcases h3.2 with h | h | h <;> rw [h] <;> decide),if_pos h2])
 have y1:(((tx l)[1]'p1).toNat:Int) = 61:=toNat_of (HX1.out.trans h3.1)
 have h4:=h3.2
 clear hl h0 h1 h2 h3
 rcases h4 with h4 | h4 | h4
 ·have z0:((((tx l)[0]'p0).toNat:Int) == 39) = false:=by
   have:(((tx l)[0]'p0).toNat:Int) = 33:=toNat_of (HX0.out.trans h4)
   simp [this]
  have zv:((((tx l)[0]'p0).toNat:Int) == 33) = true:=by
   have:(((tx l)[0]'p0).toNat:Int) = 33:=toNat_of (HX0.out.trans h4)
   simp [this]
  clear h4
  go_enter Tryz.func108,Tryz.ntmps108
  go_wp2_with (first | (go_at_call 143;refine (HI1.out _).mono ?_;rintro e w1 ⟨rfl,rfl⟩) | (go_at_call 145;refine (HI2.out _).mono ?_;rintro e w1 ⟨rfl,rfl⟩))
  go_wp2
  have HBW:=bel1 w (.cells #[.int .u8 115,.string ((tx l).extract 0 2)] 152)
  refine bodyPost_ret (res_cell_tmp2 rfl _ _ w.heap.size 152 _ _ _ rfl (heap_alloc_new w _) Tryz.underlying152 rfl (by kernel_rfl)) rfl ?_
  rw [tx_pre] at HBW
  rw [tx_pre]
  exact ⟨HBW,.inr ⟨_,2,HLEX.out,rfl⟩⟩
 ·have z0:((((tx l)[0]'p0).toNat:Int) == 39) = false:=by
   have:(((tx l)[0]'p0).toNat:Int) = 60:=toNat_of (HX0.out.trans h4)
   simp [this]
  have zv:((((tx l)[0]'p0).toNat:Int) == 60) = true:=by
   have:(((tx l)[0]'p0).toNat:Int) = 60:=toNat_of (HX0.out.trans h4)
   simp [this]
  have zn33:((((tx l)[0]'p0).toNat:Int) == 33) = false:=by
   have:(((tx l)[0]'p0).toNat:Int) = 60:=toNat_of (HX0.out.trans h4)
   simp [this]
  clear h4
  go_enter Tryz.func108,Tryz.ntmps108
  go_wp2_with (first | (go_at_call 143;refine (HI1.out _).mono ?_;rintro e w1 ⟨rfl,rfl⟩) | (go_at_call 145;refine (HI2.out _).mono ?_;rintro e w1 ⟨rfl,rfl⟩))
  go_wp2
  have HBW:=bel1 w (.cells #[.int .u8 115,.string ((tx l).extract 0 2)] 152)
  refine bodyPost_ret (res_cell_tmp2 rfl _ _ w.heap.size 152 _ _ _ rfl (heap_alloc_new w _) Tryz.underlying152 rfl (by kernel_rfl)) rfl ?_
  rw [tx_pre] at HBW
  rw [tx_pre]
  exact ⟨HBW,.inr ⟨_,2,HLEX.out,rfl⟩⟩
 ·have z0:((((tx l)[0]'p0).toNat:Int) == 39) = false:=by
   have:(((tx l)[0]'p0).toNat:Int) = 62:=toNat_of (HX0.out.trans h4)
   simp [this]
  have zv:((((tx l)[0]'p0).toNat:Int) == 62) = true:=by
   have:(((tx l)[0]'p0).toNat:Int) = 62:=toNat_of (HX0.out.trans h4)
   simp [this]
  have zn33:((((tx l)[0]'p0).toNat:Int) == 33) = false:=by
   have:(((tx l)[0]'p0).toNat:Int) = 62:=toNat_of (HX0.out.trans h4)
   simp [this]
  have zn60:((((tx l)[0]'p0).toNat:Int) == 60) = false:=by
   have:(((tx l)[0]'p0).toNat:Int) = 62:=toNat_of (HX0.out.trans h4)
   simp [this]
  clear h4
  go_enter Tryz.func108,Tryz.ntmps108
  go_wp2_with (first | (go_at_call 143;refine (HI1.out _).mono ?_;rintro e w1 ⟨rfl,rfl⟩) | (go_at_call 145;refine (HI2.out _).mono ?_;rintro e w1 ⟨rfl,rfl⟩))
  go_wp2
  have HBW:=bel1 w (.cells #[.int .u8 115,.string ((tx l).extract 0 2)] 152)
  refine bodyPost_ret (res_cell_tmp2 rfl _ _ w.heap.size 152 _ _ _ rfl (heap_alloc_new w _) Tryz.underlying152 rfl (by kernel_rfl)) rfl ?_
  rw [tx_pre] at HBW
  rw [tx_pre]
  exact ⟨HBW,.inr ⟨_,2,HLEX.out,rfl⟩⟩
def ones:Bs:=[61,60,62,43,45,42,47,40,41,44]
theorem isOne_ones (c:UInt8):isOne c = decide (c ∈ ones):=by
 unfold isOne ones
 rw [Bool.eq_iff_iff]
 simp [or_assoc]
theorem rpiece_one (l:Bs) (hl:l.length≤1000000) (hpos:0 < l.length) (h0:isDig (l.getD 0 0) = false) (h1:isLet (l.getD 0 0) = false) (h39:l.getD 0 0≠39) (h2:isTwo (l.getD 0 0) (l.getD 1 0) = false) (w:World):Calls Tryz.prog 108 #[.string (tx l)] w (PieceEnd l w):=by
 have HS:=hid (tx_size' l)
 have p0:0 < (tx l).size:=by have:=HS.out;omega
 have HL:=hid hl
 have HT:=hid (fun i (hi:i < l.length)=>tx_at l i hi)
 have HX0:=hid (tx_at l 0 hpos)
 have HI1:Hid (∀ W,Calls Tryz.prog 143 #[.int .u8 (((tx l)[0]'p0).toNat:Int)] W fun e w'=>e = .returned (.bool false)∧W = w'):=hid (fun W=>by rw [HX0.out,←h0];exact rdigit _ W)
 have HI2:Hid (∀ W,Calls Tryz.prog 145 #[.int .u8 (((tx l)[0]'p0).toNat:Int)] W fun e w'=>e = .returned (.bool false)∧W = w'):=hid (fun W=>by rw [HX0.out,←h1];exact rletter _ W)
 have z0:((((tx l)[0]'p0).toNat:Int) == 39) = false:=by
  have:=ne_nat (c:=(tx l)[0]'p0) (v:=39) (by rw [HX0.out];exact h39)
  simpa using this
 have HLEX:Hid (lex1 l = if l.getD 0 0 ∈ ones then some (⟨4,l.take 1⟩,1) else none):=hid (by
  rw [lex1_sign (fun h=>by rw [h] at hpos;cases hpos) h0 h1 h39,if_neg (by rw [h2];decide),isOne_ones]
  simp only [decide_eq_true_eq])
 have hno:(∀ p1:1 < (tx l).size,((((tx l)[1]'p1).toNat:Int) == 61) = false)∨(((((tx l)[0]'p0).toNat:Int) == 33) = false∧((((tx l)[0]'p0).toNat:Int) == 60) = false∧((((tx l)[0]'p0).toNat:Int) == 62) = false):=by
  by_cases hd:l.getD 1 0 = 61
  ·refine .inr ?_
   unfold isTwo at h2
   rw [hd] at h2
   simp only [beq_self_eq_true,Bool.true_and,Bool.or_eq_false_iff,beq_eq_false_iff_ne] at h2
   have e1:=ne_nat (c:=(tx l)[0]'p0) (v:=33) (by rw [HX0.out];exact h2.1.1)
   have e2:=ne_nat (c:=(tx l)[0]'p0) (v:=60) (by rw [HX0.out];exact h2.1.2)
   have e3:=ne_nat (c:=(tx l)[0]'p0) (v:=62) (by rw [HX0.out];exact h2.2)
   exact ⟨by simpa using e1,by simpa using e2,by simpa using e3⟩
  ·refine .inl (fun p1=>?_)
   have e:=ne_nat (c:=(tx l)[1]'p1) (v:=61) (by rw [tx_at l 1 (by have:=HS.out;omega)];exact hd)
   simpa using e
 have HCC:Hid (∀ i (hi:i < ones.length),(((tx ones)[i]'(by rw [tx_size'];exact hi)).toNat:Int) = ((ones.getD i 0).toNat:Int)):=hid (fun i hi=>by rw [tx_at ones i hi])
 have hno2:∀ K:Prop,(¬ 1 < (tx l).size→K)→((p1:1 < (tx l).size)→((((tx l)[1]'p1).toNat:Int) == 61) = false→K)→((p1:1 < (tx l).size)→((((tx l)[1]'p1).toNat:Int) == 61) = true→((((tx l)[0]'p0).toNat:Int) == 33) = false→((((tx l)[0]'p0).toNat:Int) == 60) = false→((((tx l)[0]'p0).toNat:Int) == 62) = false→K)→K:=by
  intro K k1 k2 k3
  by_cases p1:1 < (tx l).size
  ·cases hq:((((tx l)[1]'p1).toNat:Int) == 61)
   ·exact k2 p1 hq
   ·rcases hno with h | h
    ·rw [h p1] at hq;cases hq
    ·exact k3 p1 hq h.1 h.2.1 h.2.2
  ·exact k1 p1
 clear hl h0 h1 h2 h39 hno
 refine hno2 _ (fun p1=>?_) (fun p1 y1=>?_) (fun p1 y1 y2 y3 y4=>?_)
 all_goals
  clear hno2
  go_enter Tryz.func108,Tryz.ntmps108
  go_wp2_with (first | (go_at_call 143;refine (HI1.out _).mono ?_;rintro e w1 ⟨rfl,rfl⟩) | (go_at_call 145;refine (HI2.out _).mono ?_;rintro e w1 ⟨rfl,rfl⟩))
  try clear y1
  try clear y2 y3 y4
  generalize hTS:(⟨#[61,60,62,43,45,42,47,40,41,44]⟩:ByteArray) = TS
  have HTZ:Hid (TS.size = 10):=hid (by rw [←hTS];rfl)
  have HTI:Hid (∀ i (h:i < TS.size),((TS[i]'h).toNat:Int) = ((ones.getD i 0).toNat:Int)):=hid (by
   intro i h
   have e:TS = tx ones:=by rw [←hTS];rfl
   subst e
   exact HCC.out i (by rw [tx_size'] at h;exact h))
  clear hTS
  go_loopg [12] 10 (fun gh i wr=>∃ j:Nat,i = .int .i64 j∧j + gh = 10∧Hid (∀ q,q < j→ones.getD q 0≠l.getD 0 0)∧(w.alloc (.cells #[.int .u8 0,.string ⟨#[]⟩] 152)) = wr)
  case atStart=>exact ⟨0,rfl,by omega,hid (fun q h=>by omega),rfl⟩
  case round=>
   obtain ⟨j,rfl,hj,hq,rfl⟩:=hrel
   have jb:j≤10:=by omega
   by_cases q1:j < TS.size
   ·have HI:=hid (HTI.out j q1)
    have jlt:j < 10:=by have:=HTZ.out;omega
    by_cases q2:ones.getD j 0 = l.getD 0 0
    ·have z:(((TS[j]'q1).toNat:Int) == (((tx l)[0]'p0).toNat:Int)) = true:=by
      have:((TS[j]'q1).toNat:Int) = (((tx l)[0]'p0).toNat:Int):=by rw [HI.out,q2,HX0.out]
      simpa using this
     have HM:Hid (l.getD 0 0 ∈ ones):=hid (by
      have h10:j < ones.length:=by have:=HTZ.out;show j < 10;omega
      rw [←q2,List.getD_eq_getElem?_getD,List.getElem?_eq_getElem h10]
      exact List.getElem_mem _)
     clear q2
     go_wp2
     have HBW:=bel1 w (.cells #[.int .u8 115,.string ((tx l).extract 0 1)] 152)
     refine bodyPost_ret (res_cell_tmp2 rfl _ _ w.heap.size 152 _ _ _ rfl (heap_alloc_new w _) Tryz.underlying152 rfl (by kernel_rfl)) rfl ?_
     rw [tx_pre] at HBW
     rw [tx_pre]
     exact ⟨HBW,.inr ⟨_,1,by rw [HLEX.out,if_pos HM.out],rfl⟩⟩
    ·have z:(((TS[j]'q1).toNat:Int) == (((tx l)[0]'p0).toNat:Int)) = false:=by
      have:¬ ((TS[j]'q1).toNat:Int) = (((tx l)[0]'p0).toNat:Int):=by
       rw [HI.out,HX0.out]
       exact ne_nat q2
      simpa using this
     have HQ2:Hid (∀ q,q < j + 1→ones.getD q 0≠l.getD 0 0):=hid (fun q h=>by
      by_cases e:q = j
      ·rw [e];exact q2
      ·exact hq.out q (by omega))
     clear q2
     go_wp2
     go_roundg (gk - 1)
     case measure=>omega
     case rel=>exact ⟨j + 1,by go_num,by omega,HQ2,rfl⟩
   ·have HM:Hid (¬ l.getD 0 0 ∈ ones):=hid (fun h=>by
     obtain ⟨q,hq1,hq2⟩:=List.mem_iff_getElem.1 h
     have h10:q < 10:=hq1
     refine hq.out q (by have:=HTZ.out;omega) ?_
     rw [List.getD_eq_getElem?_getD,List.getElem?_eq_getElem hq1]
     exact hq2)
    have q2:¬ (j:Int) < (TS.size:Int):=by omega
    go_wp2
    refine bodyPost_ret (res_cell_tmp2 rfl _ _ w.heap.size 152 _ _ _ rfl (heap_alloc_new w _) Tryz.underlying152 rfl (by kernel_rfl)) rfl ?_
    exact ⟨bel1 w _,.inl ⟨by rw [HLEX.out,if_neg HM.out],_,_,_,rfl⟩⟩
theorem rpiece_num (l:Bs) (hl:l.length≤1000000) (h0:isDig (l.getD 0 0) = true) (w:World):Calls Tryz.prog 108 #[.string (tx l)] w (PieceEnd l w):=by
 have hpos:0 < l.length:=getD_zero (l:=l) (i:=0) (fun e=>by rw [e] at h0;exact absurd h0 (by decide))
 have HS:=hid (tx_size' l)
 have p0:0 < (tx l).size:=by have:=HS.out;omega
 have HL:=hid hl
 have HT:=hid (fun i (hi:i < l.length)=>tx_at l i hi)
 have HX0:=hid (tx_at l 0 hpos)
 have HI1:Hid (∀ W,Calls Tryz.prog 143 #[.int .u8 (((tx l)[0]'p0).toNat:Int)] W fun e w'=>e = .returned (.bool true)∧W = w'):=hid (fun W=>by rw [HX0.out,←h0];exact rdigit _ W)
 have HD1:=hid (fun W=>rdigits l hl W)
 have HCL:=hid (takeWhile_le isDig l)
 have HLEX:=hid (lex1_num h0)
 have HNL:=hid (numLen_le l).1
 obtain ⟨p,hp⟩:∃ p,p = cntDig l:=⟨_,rfl⟩
 have hpl:p≤l.length:=by have:=HCL.out;unfold cntDig at hp;omega
 have HN:Hid (numLen l = if l.getD p 0 = 46∧isDig (l.getD (p + 1) 0) = true then (p + 1 + cntDig (l.drop (p + 1)),p + cntDig (l.drop (p + 1)),cntDig (l.drop (p + 1))) else (p,p,0)):=hid (by rw [hp];rfl)
 rw [←hp] at HD1
 have pl:p≤1000000:=by omega
 have HD2:Hid (p + 1≤l.length→∀ W,Calls Tryz.prog 144 #[.string ((tx l).extract (p + 1) (tx l).size)] W fun e w'=>e = .returned (.int .i64 (cntDig (l.drop (p + 1))))∧W = w'):=hid (fun h W=>by
  rw [tx_extract,List.take_of_length_le (by rw [List.length_drop,tx_size'];omega)]
  exact rdigits _ (by rw [List.length_drop];omega) W)
 clear hl h0 hp
 have HBAD:Hid (¬ ((numLen l).2.1≤15∧(numLen l).2.2≤6)→lex1 l = none):=hid (fun h=>by rw [HLEX.out,if_neg h])
 have HGOOD:Hid ((numLen l).2.1≤15∧(numLen l).2.2≤6→lex1 l = some (⟨1,l.take (numLen l).1⟩,(numLen l).1)):=hid (fun h=>by rw [HLEX.out,if_pos h])
 clear HLEX
 by_cases q:p + 1 < (tx l).size∧l.getD p 0 = 46∧isDig (l.getD (p + 1) 0) = true
 ·obtain ⟨q1,q2,q3⟩:=q
  have x1:p < (tx l).size:=by omega
  have l1:p + 1 < l.length:=by have:=HS.out;omega
  have HXp:=hid (tx_at l p (by omega))
  have HXq:=hid (tx_at l (p + 1) l1)
  have z1:(((tx l)[p]'x1).toNat:Int) = 46:=toNat_of (HXp.out.trans q2)
  have HDd:Hid (∀ W,Calls Tryz.prog 143 #[.int .u8 (((tx l)[p + 1]'q1).toNat:Int)] W fun e w'=>e = .returned (.bool true)∧W = w'):=hid (fun W=>by rw [HXq.out,←q3];exact rdigit _ W)
  have HCL2:=hid (takeWhile_le isDig (l.drop (p + 1)))
  rw [List.length_drop] at HCL2
  obtain ⟨b,hb⟩:∃ b,b = cntDig (l.drop (p + 1)):=⟨_,rfl⟩
  have HV:Hid (numLen l = (p + 1 + b,p + b,b)):=hid (by rw [HN.out,if_pos ⟨q2,q3⟩,hb])
  have HD3:=hid (HD2.out (by omega))
  rw [←hb] at HD3
  have bl:b≤1000000:=by have:=HCL2.out;unfold cntDig at hb;have:=HL.out;omega
  rw [HV.out] at HNL HBAD HGOOD
  have nl:p + 1 + b≤(tx l).size:=by have h1:p + 1 + b≤l.length:=HNL.out;have:=HS.out;omega
  have hmx:max (0:Int) ((p:Int) + 1 + (b:Int) - (p:Int) - 1) = (b:Int):=by omega
  have i4:(p:Int) + 1≤((tx l).size:Int):=by omega
  clear q2 q3 hb HN HD2
  go_enter Tryz.func108,Tryz.ntmps108
  by_cases t1:p + b≤15
  ·have t1':(p:Int) + (b:Int)≤15:=by omega
   by_cases t2:b≤6
   ·have t2i:(b:Int)≤6:=by omega
    go_wp2_with (first | (go_at_call 144;(with_reducible refine (HD1.out _).mono ?_);rintro e w1 ⟨rfl,rfl⟩) | (go_at_call 144;(with_reducible refine (HD3.out _).mono ?_);rintro e w1 ⟨rfl,rfl⟩) | (go_at_call 143;(with_reducible refine (HI1.out _).mono ?_);rintro e w1 ⟨rfl,rfl⟩) | (go_at_call 143;(with_reducible refine (HDd.out _).mono ?_);rintro e w1 ⟨rfl,rfl⟩))
    have HBW:=bel1 w (.cells #[.int .u8 110,.string ((tx l).extract 0 (p + 1 + b))] 152)
    refine bodyPost_ret (res_cell_tmp2 rfl _ _ w.heap.size 152 _ _ _ rfl (heap_alloc_new w _) Tryz.underlying152 rfl (by kernel_rfl)) rfl ?_
    rw [tx_pre] at HBW
    rw [tx_pre]
    exact ⟨HBW,.inr ⟨_,p + 1 + b,HGOOD.out ⟨t1,t2⟩,rfl⟩⟩
   ·have t2i:¬ (b:Int)≤6:=by omega
    go_wp2_with (first | (go_at_call 144;(with_reducible refine (HD1.out _).mono ?_);rintro e w1 ⟨rfl,rfl⟩) | (go_at_call 144;(with_reducible refine (HD3.out _).mono ?_);rintro e w1 ⟨rfl,rfl⟩) | (go_at_call 143;(with_reducible refine (HI1.out _).mono ?_);rintro e w1 ⟨rfl,rfl⟩) | (go_at_call 143;(with_reducible refine (HDd.out _).mono ?_);rintro e w1 ⟨rfl,rfl⟩))
    refine bodyPost_ret (res_cell_tmp2 rfl _ _ w.heap.size 152 _ _ _ rfl (heap_alloc_new w _) Tryz.underlying152 rfl (by kernel_rfl)) rfl ?_
    refine ⟨bel1 w _,.inl ⟨HBAD.out (fun h=>t2 h.2),110,(tx l).extract 0 (p + 1 + b),((p + 1 + b:Nat):Int),?_⟩⟩
    have t2d:decide ((b:Int)≤6) = false:=decide_eq_false (by omega)
    show Ending.returned (.tuple #[_,_,.bool (decide ((b:Int)≤6))]) = _
    rw [t2d]
    rfl
  ·have t1':¬ (p:Int) + (b:Int)≤15:=by omega
   go_wp2_with (first | (go_at_call 144;(with_reducible refine (HD1.out _).mono ?_);rintro e w1 ⟨rfl,rfl⟩) | (go_at_call 144;(with_reducible refine (HD3.out _).mono ?_);rintro e w1 ⟨rfl,rfl⟩) | (go_at_call 143;(with_reducible refine (HI1.out _).mono ?_);rintro e w1 ⟨rfl,rfl⟩) | (go_at_call 143;(with_reducible refine (HDd.out _).mono ?_);rintro e w1 ⟨rfl,rfl⟩))
   refine bodyPost_ret (res_cell_tmp2 rfl _ _ w.heap.size 152 _ _ _ rfl (heap_alloc_new w _) Tryz.underlying152 rfl (by kernel_rfl)) rfl ?_
   exact ⟨bel1 w _,.inl ⟨HBAD.out (fun h=>t1 h.1),_,_,_,rfl⟩⟩
 ·have HV:Hid (numLen l = (p,p,0)):=hid (by
   rw [HN.out,if_neg]
   intro h
   refine q ⟨?_,h⟩
   have:=getD_zero (l:=l) (i:=p + 1) (fun e=>by rw [e] at h;exact absurd h.2 (by decide))
   have:=HS.out
   omega)
  rw [HV.out] at HNL HBAD HGOOD
  have nl:p≤(tx l).size:=by have:=HS.out;omega
  have hmx:max (0:Int) ((p:Int) - (p:Int) - 1) = 0:=by omega
  have hmx2:max (0:Int) (-1) = 0:=by omega
  have hq:∀ K:Prop,(¬ p + 1 < (tx l).size→K)→((q1:p + 1 < (tx l).size)→¬ (((tx l)[p]'(by omega)).toNat:Int) = 46→K)→((q1:p + 1 < (tx l).size)→(((tx l)[p]'(by omega)).toNat:Int) = 46→(∀ W,Calls Tryz.prog 143 #[.int .u8 (((tx l)[p + 1]'q1).toNat:Int)] W fun e w'=>e = .returned (.bool false)∧W = w')→K)→K:=by
   intro K k1 k2 k3
   by_cases q1:p + 1 < (tx l).size
   ·have l1:p + 1 < l.length:=by have:=HS.out;omega
    have e0:=tx_at l p (by omega)
    by_cases q2:l.getD p 0 = 46
    ·refine k3 q1 (toNat_of (e0.trans q2)) (fun W=>?_)
     have q3:isDig (l.getD (p + 1) 0) = false:=by
      cases h:isDig (l.getD (p + 1) 0)
      ·rfl
      ·exact absurd ⟨q1,q2,h⟩ q
     rw [tx_at l (p + 1) l1,←q3]
     exact rdigit _ W
    ·exact k2 q1 (ne_nat (c:=(tx l)[p]'(by omega)) (v:=46) (by rw [e0];exact q2))
   ·exact k1 q1
  clear q HN HD2
  refine hq _ (fun q1=>?_) (fun q1 z1=>?_) (fun q1 z1 hdd=>?_)
  all_goals
   clear hq
   have x1:0≤(p:Int) + 1:=by omega
   try have HDd:=hid hdd
   try clear hdd
   go_enter Tryz.func108,Tryz.ntmps108
   by_cases t1:p≤15
   ·have t2:0≤6:=by decide
    go_wp2_with (first | (go_at_call 144;(with_reducible refine (HD1.out _).mono ?_);rintro e w1 ⟨rfl,rfl⟩) | (go_at_call 143;(with_reducible refine (HI1.out _).mono ?_);rintro e w1 ⟨rfl,rfl⟩) | (go_at_call 143;(with_reducible refine (HDd.out _).mono ?_);rintro e w1 ⟨rfl,rfl⟩))
    have HBW:=bel1 w (.cells #[.int .u8 110,.string ((tx l).extract 0 (p))] 152)
    refine bodyPost_ret (res_cell_tmp2 rfl _ _ w.heap.size 152 _ _ _ rfl (heap_alloc_new w _) Tryz.underlying152 rfl (by kernel_rfl)) rfl ?_
    rw [tx_pre] at HBW
    rw [tx_pre]
    exact ⟨HBW,.inr ⟨_,p,HGOOD.out ⟨t1,t2⟩,rfl⟩⟩
   ·go_wp2_with (first | (go_at_call 144;(with_reducible refine (HD1.out _).mono ?_);rintro e w1 ⟨rfl,rfl⟩) | (go_at_call 143;(with_reducible refine (HI1.out _).mono ?_);rintro e w1 ⟨rfl,rfl⟩) | (go_at_call 143;(with_reducible refine (HDd.out _).mono ?_);rintro e w1 ⟨rfl,rfl⟩))
    refine bodyPost_ret (res_cell_tmp2 rfl _ _ w.heap.size 152 _ _ _ rfl (heap_alloc_new w _) Tryz.underlying152 rfl (by kernel_rfl)) rfl ?_
    exact ⟨bel1 w _,.inl ⟨HBAD.out (fun h=>t1 h.1),_,_,_,rfl⟩⟩
theorem rpiece (l:Bs) (hl:l.length≤1000000) (hpos:0 < l.length) (w:World):Calls Tryz.prog 108 #[.string (tx l)] w (PieceEnd l w):=by
 cases h0:isDig (l.getD 0 0)
 ·cases h1:isLet (l.getD 0 0)
  ·by_cases h39:l.getD 0 0 = 39
   ·exact rpiece_txt l hl h39 w
   ·cases h2:isTwo (l.getD 0 0) (l.getD 1 0)
    ·exact rpiece_one l hl hpos h0 h1 h39 h2 w
    ·exact rpiece_two l hl h2 w
  ·exact rpiece_word l hl h0 h1 w
 ·exact rpiece_num l hl h0 w
def tokV (t:Tok):List Value:=[.int .u8 (kd t.k),.string (tx t.s)]
def toksV (L:List Tok):List Value:=L.flatMap tokV
theorem toksV_app (A B:List Tok):toksV (A ++ B) = toksV A ++ toksV B:=by simp [toksV]
def PiecesEnd (l:Bs) (w:World) (e:Ending) (w':World):Prop:=Below w.heap.size w w'∧
 (((lex l).2 = false∧e = .returned (.tuple #[.slice none 0 0,.bool false]))∨((lex l).2 = true∧∃ v,e = .returned (.tuple #[v,.bool true])∧w'.ownsRow w.heap.size 152 2 v (lex l).1.length (toksV (lex l).1)))
theorem lex_blank (S : Bs) (hne : 0 < S.length) (h : S.getD 0 0 = 32) : lex S = lex (S.drop 1) := by
  have e := lex_at S 0 (Nat.zero_le _)
  have e2 := lex_at (S.drop 1) 0 (Nat.zero_le _)
  have hb : blAt S 0 = blAt (S.drop 1) 0 + 1 := by
    cases S with
    | nil => cases hne
    | cons c t =>
      have hc : c = 32 := by simpa using h
      unfold blAt cntBl
      simp only [List.drop_zero, List.drop_succ_cons]
      rw [List.takeWhile_cons_of_pos (p := fun c => c == 32) (by simp [hc])]
      simp
  rw [List.drop_zero] at e e2
  rw [e, e2, hb]
  by_cases hq : S.length ≤ blAt (S.drop 1) 0 + 1
  · rw [if_pos hq, if_pos (by rw [List.length_drop]; omega)]
  · rw [if_neg hq, if_neg (by rw [List.length_drop]; omega)]
    rw [List.drop_drop, show 1 + blAt (S.drop 1) 0 = blAt (S.drop 1) 0 + 1 by omega]
    cases lex1 (S.drop (blAt (S.drop 1) 0 + 1)) with
    | none => rfl
    | some x =>
      obtain ⟨t, k⟩ := x
      simp only [List.drop_drop]
      rw [show 1 + (blAt (S.drop 1) 0 + k) = blAt (S.drop 1) 0 + 1 + k by omega]
theorem lex_piece (S : Bs) (hne : 0 < S.length) (h : S.getD 0 0 ≠ 32) : lex S = match lex1 S with
    | none => ([], false)
    | some (t, k) => (t :: (lex (S.drop k)).1, (lex (S.drop k)).2) := by
  have e := lex_at S 0 (Nat.zero_le _)
  have hb : blAt S 0 = 0 := by
    cases S with
    | nil => cases hne
    | cons c t =>
      unfold blAt cntBl
      rw [List.drop_zero, List.takeWhile_cons_of_neg (p := fun c => c == 32) (by simpa using h)]
      rfl
  rw [List.drop_zero, hb, if_neg (by omega), List.drop_zero] at e
  rw [e]
  cases lex1 S with
  | none => rfl
  | some x => obtain ⟨t, k⟩ := x; simp only [Nat.zero_add]
theorem info_piece:∃ i0,Tryz.prog.info? 152 = some i0∧i0.zero = some (.agg #[.int .u8 0,.string ⟨#[]⟩])∧i0.size = 2∧i0.bytes = 24:=
 info_parts (show (Tryz.prog.info? 152).map (fun i=>(i.zero,i.size,i.bytes)) = some (some (.agg #[.int .u8 0,.string ⟨#[]⟩]),2,24) by kernel_rfl)
theorem two_cells (w:World) (u v:Value) (T:TypeId):∀ j x,[u,v][j]? = some x→(w.alloc (.cells #[u,v] T)).cell? ((⟨w.heap.size,0,none⟩:Addr).add j) = some x:=fun j x h=>by
 rw [addr_add]
 have hh:=heap_alloc_new w (.cells #[u,v] T)
 match j,h with
 | 0,h=>cases h;unfold World.cell?;simp only;rw [hh];rfl
 | 1,h=>cases h;unfold World.cell?;simp only;rw [hh];rfl
 | j + 2,h=>cases h
theorem two_cells2 (w:World) (o:Obj) (u v:Value) (T:TypeId):∀ j x,[u,v][j]? = some x→((w.alloc o).alloc (.cells #[u,v] T)).cell? ((⟨w.heap.size + 1,0,none⟩:Addr).add j) = some x:=by
 have h:=two_cells (w.alloc o) u v T
 rwa [show (w.alloc o).heap.size = w.heap.size + 1 by simp] at h
theorem rpieces (l:Bs) (hl:l.length≤1000000) (w:World):Calls Tryz.prog 82 #[.string (tx l)] w (PiecesEnd l w):=by
 obtain ⟨i0,hi,hz0,hz1,hz2⟩:=info_piece
 have HI:=hid (And.intro hi (And.intro hz0 (And.intro hz1 hz2)))
 have HL:=hid hl
 clear hi hz0 hz1 hz2 hl
 go_enter Tryz.func82,Tryz.ntmps82
 go_wp2_with fail
 go_loopg [0,4] l.length (fun gh s v wr=>∃ (S:Bs) (D:List Tok),s = .string (tx S)∧S.length≤gh∧D.length + S.length≤l.length∧Hid (lex l = (D ++ (lex S).1,(lex S).2))∧Hid (wr.ownsRow w.heap.size 152 2 v D.length (toksV D))∧Hid (Below w.heap.size w wr))
 case atStart=>exact ⟨l,[],rfl,Nat.le_refl _,by simp,hid (by simp),hid (World.ownsRow_nil _ _ _ _),hid (Below.refl _ _)⟩
 case round=>
  obtain ⟨S,D,rfl,hg,hd,HX,HO,HB⟩:=hrel
  have HS:=hid (tx_size' S)
  have HLL:=HL.out
  by_cases hS:S = []
  ·subst hS
   have b0:(tx []).toList.isEmpty = true:=by rw [tx_toList];rfl
   go_wp2
   go_ret2
   refine ⟨HB.out,.inr ?_⟩
   have hx:=HX.out
   rw [show lex [] = ([],true) from rfl,List.append_nil] at hx
   rw [hx]
   exact ⟨rfl,_,rfl,HO.out⟩
  ·have hpos:0 < S.length:=List.length_pos_iff.2 hS
   have b0:(tx S).toList.isEmpty = false:=by rw [tx_toList];simpa using hS
   have p0:0 < (tx S).size:=by have:=HS.out;omega
   have HX0:=hid (tx_at S 0 hpos)
   have i1:1≤(tx S).size:=by omega
   by_cases q:S.getD 0 0 = 32
   ·have z:(((tx S)[0]'p0).toNat:Int) = 32:=toNat_of (HX0.out.trans q)
    have HXE:Hid ((tx S).extract 1 (tx S).size = tx (S.drop 1)):=hid (by rw [tx_extract,List.take_of_length_le (by rw [List.length_drop,tx_size'];omega)])
    have HX2:Hid (lex l = (D ++ (lex (S.drop 1)).1,(lex (S.drop 1)).2)):=hid (by rw [HX.out,lex_blank S hpos q])
    clear q
    go_wp2
    rw [HXE.out]
    go_roundg (gk - 1)
    case measure=>omega
    case rel=>exact ⟨S.drop 1,D,rfl,by rw [List.length_drop];omega,by rw [List.length_drop];omega,HX2,HO,HB⟩
   ·have z:¬ (((tx S)[0]'p0).toNat:Int) = 32:=ne_nat (c:=(tx S)[0]'p0) (v:=32) (by rw [HX0.out];exact q)
    have HLP:=hid (lex_piece S hpos q)
    have HPC:=hid (fun W=>rpiece S (by omega) hpos W)
    clear q
    go_wp2_with (first | (go_at_call 108;fail))
    go_at_call 108
    refine (HPC.out _).mono ?_
    rintro e w2 ⟨hb2,⟨h1,a,b,n,rfl⟩ | ⟨t,n,h1,rfl⟩⟩
    ·have HB2:=hid (HB.out.trans (below_le hb2 HB.out.size))
     have HF:Hid ((lex l).2 = false):=hid (by rw [HX.out,HLP.out,h1])
     clear hb2 h1
     go_wp2
     go_ret2
     exact ⟨HB2.out.alloc HB2.out.size _,.inl ⟨HF.out,rfl⟩⟩
    ·have HN:=hid (lex1_len h1)
     have HB2:=hid hb2
     have HX2:Hid (lex l = ((D ++ [t]) ++ (lex (S.drop n)).1,(lex (S.drop n)).2)):=hid (by rw [HX.out,HLP.out,h1];simp)
     have HXE:Hid ((tx S).extract n (tx S).size = tx (S.drop n)):=hid (by rw [tx_extract,List.take_of_length_le (by rw [List.length_drop,tx_size'];exact Nat.le_refl _)])
     have HO2:=hid (row_kept HO.out (fun j hj=>hb2.block j (HO.out.lt j hj).2))
     have n1:1≤n:=HN.out.1
     have n2:n≤(tx S).size:=by have:=HN.out.2.1;have:=HS.out;omega
     have i2:(n:Int)≤((tx S).size:Int):=by omega
     clear hb2 h1
     go_wp2_with (first | (at_builtin;go_loud (refine wpList_append_own _ rfl _ _ 117 rfl w.heap.size 152 i0 (.agg #[.int .u8 0,.string ⟨#[]⟩]) 2 24 Tryz.underlying117 HI.out.1 HI.out.2.1 HI.out.2.2.1 HI.out.2.2.2 rfl (by decide) _ _ _ rfl ((HO2.out.alloc _).alloc _) ⟨w2.heap.size + 1,0,none⟩ 1 1 (tokV t) rfl rfl (two_cells2 w2 _ (.int .u8 (kd t.k)) (.string (tx t.s)) 152) (by simp [tokV,Value.oneCell']) (by unfold maxLen;omega) (by omega) (by have:=HB.out.size;have:=HB2.out.size;simp;omega) ?_)))
     intro v' w3 ho1 hg1 _
     have HO3:=hid ho1
     have HB3:Hid (Below w.heap.size w w3):=hid ((((HB.out.trans (below_le HB2.out HB.out.size)).alloc (by have:=HB.out.size;have:=HB2.out.size;omega) _).alloc (by have:=HB.out.size;have:=HB2.out.size;simp;omega) _).grown hg1 (by have:=HB.out.size;have:=HB2.out.size;simp;omega) (fun k e=>(HO.out.lt k e).1))
     clear ho1 hg1
     go_wp2
     rw [HXE.out]
     go_roundg (gk - 1)
     case measure=>omega
     case rel=>
      refine ⟨S.drop n,D ++ [t],rfl,by rw [List.length_drop];omega,by rw [List.length_drop,List.length_append];simp;have:=HN.out.2.1;omega,HX2,hid ?_,HB3⟩
      rw [List.length_append,toksV_app]
      exact HO3.out
end Go.Proofs.YtpcbamcelpcigaaGreat
namespace Go.Proofs.YtpcbamcelpcigaaGreat
open Go.RowKit Go.Shelf
attribute [local go_sem] run_store_float
def TokV (B:Nat) (w:World) (v:Value) (L:List Tok):Prop:=∃ x cap,v = .slice x L.length cap∧L.length≤cap∧(x = none→L = [])∧
 ∀ a,x = some a→∀ i t,L[i]? = some t→a.block < B∧w.cell? (a.add (i * 2)) = some (.int .u8 (kd t.k))∧w.cell? (a.add (i * 2 + 1)) = some (.string (tx t.s))
theorem TokV.kept {B:Nat} {w w':World} {v:Value} {L:List Tok} (h:TokV B w v L) (hk:∀ b,b < B→w'.heap[b]? = w.heap[b]?):TokV B w' v L:=by
 obtain ⟨x,cap,hv,h1,h2,h3⟩:=h
 refine ⟨x,cap,hv,h1,h2,fun a ha i t hi=>?_⟩
 obtain ⟨g1,g2,g3⟩:=h3 a ha i t hi
 exact ⟨g1,cell_same (by rw [add_block];exact hk _ g1) g2,cell_same (by rw [add_block];exact hk _ g1) g3⟩
theorem TokV.below {B n:Nat} {w w':World} {v:Value} {L:List Tok} (h:TokV B w v L) (hb:Below n w w') (hn:B≤n):TokV B w' v L:=h.kept (fun b h1=>hb.block b (by omega))
theorem TokV.agg {B:Nat} {w:World} {v:Value} {L:List Tok} (h:TokV B w v L):∃ x n c,v = .slice x n c:=by
 obtain ⟨x,cap,rfl,_⟩:=h;exact ⟨_,_,_,rfl⟩
theorem kd_eq {a b:Nat} (ha:a = 1∨a = 2∨a = 3∨a = 4) (hb:b = 2∨b = 4):(kd a == kd b) = (a == b):=by
 rcases ha with rfl | rfl | rfl | rfl <;> rcases hb with rfl | rfl <;> decide
def KOk (L:List Tok):Prop:=∀ t ∈ L,(t.k = 1∨t.k = 2∨t.k = 3∨t.k = 4)∧(t.k = 1→NumT t.s)
theorem ris (B : Nat) (v : Value) (L : List Tok) (k : Nat) (hk : k = 2 ∨ k = 4) (str : Bs) (hK : KOk L) (hL : L.length ≤ 1000000) (w : World) (h : TokV B w v L) :
    Calls Tryz.prog 148 #[v, .int .u8 (kd k), .string (tx str)] w fun e w' => e = .returned (.bool (isTok L k str)) ∧ w = w' := by
  obtain ⟨x, cap, rfl, hcap, hx, hc⟩ := h
  cases L with
  | nil =>
    simp only [List.length_nil]
    go_enter Tryz.func148, Tryz.ntmps148
    go_wp2
    go_ret
    exact ⟨rfl, rfl⟩
  | cons t r =>
    obtain ⟨a, rfl⟩ : ∃ a, x = some a := by
      cases x with
      | none => have := hx rfl; cases this
      | some a => exact ⟨a, rfl⟩
    obtain ⟨g1, g2, g3⟩ := hc a rfl 0 t rfl
    have hkt := (hK t (by simp)).1
    have HE := hid (kd_eq hkt hk)
    have HB := hid (tx_beq t.s str)
    simp only [Nat.zero_mul, Nat.zero_add] at g2 g3
    rw [show a.add 0 = a from rfl] at g2
    have g3' : w.cell? ⟨a.block, a.off + 1, none⟩ = some (.string (tx t.s)) := by simpa [Addr.add] using g3
    obtain ⟨N, hN⟩ : ∃ N, N = (t :: r).length := ⟨_, rfl⟩
    have hN1 : 0 < N := by rw [hN]; simp
    rw [← hN] at hL hcap ⊢
    clear hc hx hK hN g3 hkt hk
    by_cases q : kd t.k = kd k
    · have q1 : (t.k == k) = true := by rw [← HE.out, q]; simp
      rw [← q]
      generalize kd t.k = K at g2 ⊢
      clear q HE
      go_enter Tryz.func148, Tryz.ntmps148
      go_wp2
      go_ret
      exact ⟨ret_bool (by simp [isTok, q1, HB.out]), rfl⟩
    · have q1 : (t.k == k) = false := by rw [← HE.out]; simpa using q
      have q2 : (kd t.k == kd k) = false := by simpa using q
      generalize kd t.k = K at g2 q q2 ⊢
      generalize kd k = K2 at q q2 ⊢
      clear HE
      go_enter Tryz.func148, Tryz.ntmps148
      go_wp2
      go_ret
      exact ⟨ret_bool (by simp [isTok, q1]), rfl⟩
end Go.Proofs.YtpcbamcelpcigaaGreat
