/- Own texts, merged. -/
import Derived.WalkKit
import Derived.Test.YtpcbamcelpcigaaGreatMC05
import Derived.Test.YtpcbamcelpcigaaGreatMC00
set_option maxRecDepth 100000
set_option maxHeartbeats 32000000
open Go.Lib (hid)
namespace Go.Proofs.YtpcbamcelpcigaaGreat
open Go.RowKit Go.Shelf
def blAt (s:Bs) (a:Nat):Nat:=a + cntBl (s.drop a)
def QNext (r:Nat) (s:Bs) (b:Nat) (w:World) (e:Ending) (w':World):Prop:=
 But [r] w w'∧((s.length≤b∧e = .returned (.tuple #[])∧Rd w' r s b 0 [])∨
  (b < s.length∧((lex1 (s.drop b) = none∧Pan e)∨(∃ t n,lex1 (s.drop b) = some (t,n)∧e = .returned (.tuple #[])∧Rd w' r s (b + n) t.k t.s))))
theorem lex1_num {l:Bs} (h:isDig (l.getD 0 0) = true):lex1 l = if (numLen l).2.1≤15∧(numLen l).2.2≤6 then some (⟨1,l.take (numLen l).1⟩,(numLen l).1) else none:=by
 cases l with
 | nil=>cases h
 | cons c t=>simp only [lex1];rw [if_pos (by simpa using h)]
theorem lex1_word {l:Bs} (h0:isDig (l.getD 0 0) = false) (h:isLet (l.getD 0 0) = true):lex1 l = some (⟨2,l.take (1 + cntWrd (l.drop 1))⟩,1 + cntWrd (l.drop 1)):=by
 cases l with
 | nil=>cases h
 | cons c t=>simp only [lex1];rw [if_neg (by simpa using h0),if_pos (by simpa using h)];rfl
theorem lex1_text {l : Bs} (h : l.getD 0 0 = 39) : lex1 l = if cntTxt (l.drop 1) < (l.drop 1).length then some (⟨3, (l.drop 1).take (cntTxt (l.drop 1))⟩, cntTxt (l.drop 1) + 2) else none := by
  cases l with
  | nil => cases h
  | cons c t =>
    have h' : c = 39 := by simpa using h
    subst h'
    simp only [lex1]
    rw [if_neg (by decide), if_neg (by decide), if_pos trivial]
    rfl
theorem lex1_sign {l : Bs} (hl : l ≠ []) (h0 : isDig (l.getD 0 0) = false) (h1 : isLet (l.getD 0 0) = false) (h2 : l.getD 0 0 ≠ 39) : lex1 l = if isTwo (l.getD 0 0) (l.getD 1 0) = true then some (⟨4, l.take 2⟩, 2) else if isOne (l.getD 0 0) = true then some (⟨4, l.take 1⟩, 1) else none := by
  cases l with
  | nil => exact absurd rfl hl
  | cons c t =>
    simp only [lex1]
    rw [if_neg (by simpa using h0), if_neg (by simpa using h1), if_neg (by simpa using h2)]
    rfl
def signLen (c d:UInt8):Nat:=if isTwo c d = true then 2 else if isOne c = true then 1 else 0
theorem wsign (r:Nat) (s:Bs) (a k:Nat) (g:Bs) (hs:s.length≤1000000) (ha:a < s.length) (w:World) (h:Rd w r s a k g) :
  Calls Tryz.prog 130 #[.pointer (some ⟨r,0,none⟩)] w fun e w'=>SignEnd r s a g w (signLen (s.getD a 0) (s.getD (a + 1) 0)) e w':=by
 unfold signLen
 cases h2:isTwo (s.getD a 0) (s.getD (a + 1) 0)
 ·rw [if_neg (by decide)];exact wsign1 r s a k g hs ha w h h2
 ·rw [if_pos rfl]
  refine wsign2 r s a k g hs ?_ w h h2
  have h3:s.getD (a + 1) 0 = 61:=by simp [isTwo] at h2;simpa using h2.1
  have:=getD_zero (l:=s) (i:=a + 1) (by rw [h3];decide)
  omega
theorem signLen_le {s:Bs} {a:Nat} (ha:a < s.length):a + signLen (s.getD a 0) (s.getD (a + 1) 0)≤s.length:=by
 unfold signLen
 split
 ·rename_i h2
  have h3:s.getD (a + 1) 0 = 61:=by simp [isTwo] at h2;simpa using h2.1
  have:=getD_zero (l:=s) (i:=a + 1) (by rw [h3];decide)
  omega
 ·split <;> omega
theorem lex1_sign2 {l:Bs} (hl:l≠[]) (h0:isDig (l.getD 0 0) = false) (h1:isLet (l.getD 0 0) = false) (h2:l.getD 0 0≠39) :
  (signLen (l.getD 0 0) (l.getD 1 0)≠0→lex1 l = some (⟨4,l.take (signLen (l.getD 0 0) (l.getD 1 0))⟩,signLen (l.getD 0 0) (l.getD 1 0)))∧(signLen (l.getD 0 0) (l.getD 1 0) = 0→lex1 l = none):=by
 rw [lex1_sign hl h0 h1 h2]
 unfold signLen
 split
 ·exact ⟨fun _=>rfl,fun h=>by cases h⟩
 ·split
  ·exact ⟨fun _=>rfl,fun h=>by cases h⟩
  ·exact ⟨fun h=>absurd rfl h,fun _=>rfl⟩
theorem quiet_eq2 {P:Program} {f:FuncId} {args:Array Value} {w:World} {a n:Nat} {v:Value} (h:Calls P f args (w.drewN (a + n)) fun e w'=>e = .returned v∧w.drewN (a + n) = w'):Calls P f args (w.drewN (a + n)) fun e w''=>e = .returned v∧∃ m,w'' = w.drewN (a + m):=
 h.mono fun _ _ ⟨he,hm⟩=>⟨he,n,hm.symm⟩
theorem wrd_95 {c:UInt8} (h:isWrd c = true) (h1:isLet c = false) (h2:isDig c = false):c = 95:=by
 unfold isWrd at h
 rw [h1,h2] at h
 simpa using h
theorem let_wrd {c:UInt8} (h:isLet c = true):isWrd c = true:=by simp [isWrd,h]
theorem cntWrd_first {l : Bs} (h : isLet (l.getD 0 0) = true) : cntWrd l = 1 + cntWrd (l.drop 1) := by
  cases l with
  | nil => cases h
  | cons c t =>
    have h2 := let_wrd h
    unfold cntWrd
    rw [List.takeWhile_cons_of_pos (p := isWrd) (by simpa using h2), List.length_cons]
    exact Nat.add_comm _ _
theorem qnext_tok {r:Nat} {s:Bs} {p q kk:Nat} {w w':World} {t:Tok} (hp:p < s.length) (hpq:p≤q) (hl:lex1 (s.drop p) = some (t,q - p)) (hk:kk = t.k) (hr:Rd w' r s q kk t.s) (hb:But [r] w w'):QNext r s p w (.returned (.tuple #[])) w':=
 ⟨hb,.inr ⟨hp,.inr ⟨t,q - p,hl,rfl,by rw [show p + (q - p) = q by omega,←hk];exact hr⟩⟩⟩
theorem indexByte_txt (l : Bs) : Lib.indexByte l 39 = if cntTxt l < l.length then (cntTxt l : Int) else -1 := by
  induction l with
  | nil => rfl
  | cons c t ih =>
    unfold cntTxt at ih ⊢
    rw [show Lib.indexByte (c :: t) 39 = if c == 39 then 0 else if Lib.indexByte t 39 == -1 then -1 else Lib.indexByte t 39 + 1 from rfl]
    by_cases h : c = 39
    · subst h; simp
    · have h1 : (c == 39) = false := by simpa using h
      have h2 : (c != 39) = true := by simp [bne, h1]
      rw [h1, if_neg (by decide), ih, List.takeWhile_cons_of_pos (p := fun c => c != 39) h2, List.length_cons, List.length_cons]
      generalize (List.takeWhile (fun c => c != 39) t).length = m
      by_cases hq : m < t.length
      · rw [if_pos hq, if_pos (by omega : m + 1 < t.length + 1)]
        rw [if_neg (by simp)]
        omega
      · rw [if_neg hq, if_pos (by decide : ((-1 : Int) == -1) = true), if_neg (by omega)]
theorem cntBl_le (s:Bs) (a:Nat) (ha:a≤s.length):a≤blAt s a∧blAt s a≤s.length:=by
 have h:=takeWhile_le (fun c=>c == 32) (s.drop a)
 rw [List.length_drop] at h
 unfold blAt cntBl
 omega
theorem wqnext (r:Nat) (s:Bs) (a k:Nat) (g:Bs) (hs:s.length≤1000000) (ha:a≤s.length) (w:World) (h:Rd w r s a k g) :
  Calls Tryz.prog 95 #[.pointer (some ⟨r,0,none⟩)] w fun e w'=>QNext r s (blAt s a) w e w':=by
 have HS:=hid (tx_size' s)
 have HSL:=hid hs
 have HBL:=hid (cntBl_le s a ha)
 obtain ⟨b,hb⟩:∃ b,b = blAt s a:=⟨_,rfl⟩
 have HBV:=hid (show b - a = cntBl (s.drop a) by rw [hb];unfold blAt;omega)
 rw [←hb] at HBL ⊢
 have HR:=hid h
 obtain ⟨c0,c1,c2,c3,fr,hlt⟩:=h.cells
 clear h hb
 go_enter Tryz.func95,Tryz.ntmps95
 go_wp2_with fail
 clear c0 c1 c2 c3 fr
 go_loopg [] (s.length - a) (fun n wr=>∃ p:Nat,a≤p∧p + n = s.length∧p≤b∧Hid (Rd wr r s p k g)∧Hid (But [r] w wr))
 case atStart=>exact ⟨a,by omega,by omega,HBL.out.1,HR,hid (But.refl _ _)⟩
 case round=>
  obtain ⟨p,hap,hp,hpb,HR1,HB1⟩:=hrel
  obtain ⟨c0,c1,c2,c3,fr,hlt⟩:=HR1.out.cells
  have f1:=fr 1
  have HF:=hid fr
  clear fr
  by_cases q1:p < (tx s).size
  ·have q1':p < s.length:=by have:=HS.out;omega
   have HA:=hid (takeWhile_at (fun c=>c == 32) (s.drop a) (p - a) (by have:=HBV.out;unfold cntBl at this;omega) (by simp;omega))
   rw [getD_drop,show a + (p - a) = p by omega] at HA
   have HX:=hid (tx_at s p q1')
   by_cases q2:s.getD p 0 = 32
   ·have z:(((tx s)[p]'q1).toNat:Int) = 32:=toNat_of (HX.out.trans q2)
    have HV:=hid (HA.out.1 (by simpa using q2))
    clear q2 HA
    go_wp2_with fail
    go_quiet (fail)
    go_wp2
    go_roundg (gk - 1)
    case measure=>omega
    case rel=>exact ⟨p + 1,by omega,by omega,by have:=HV.out;have:=HBV.out;unfold cntBl at this;omega,hid ((HR1.out.drewN _).at (p + 1)),hid ((HB1.out.drewN _).cell _ _)⟩
   ·have z:((((tx s)[p]'q1).toNat:Int) == 32) = false:=by
     have:=ne_nat (c:=(tx s)[p]'q1) (v:=32) (by rw [HX.out];exact q2)
     simpa using this
    have HPB:Hid (b = p):=hid (by have:=HA.out.2 (by simpa using q2);have:=HBV.out;unfold cntBl at this;omega)
    have x2:((p:Int) == ((tx s).size:Int)) = false:=by simp;omega
    have x3:(p:Int) < ((tx s).size:Int):=by omega
    clear q2 HA
    obtain ⟨c,hc⟩:∃ c,c = s.getD p 0:=⟨_,rfl⟩
    have HC:=hid hc
    go_wp2_with fail
    go_quiet (fail)
    clear z
    go_wp2_with fail
    go_quiet (fail)
    clear x2
    go_wp2_with fail
    go_quiet (fail)
    clear HBV
    have HLX:Hid (b = p∧p < s.length):=hid ⟨HPB.out,q1'⟩
    have HDR:Hid (s.drop p≠[]):=hid (fun h=>by have:=congrArg List.length h;simp at this;omega)
    have g0:(s.drop p).getD 0 0 = s.getD p 0:=getD_drop s p 0
    cases d1:isDig (s.getD p 0)
    ·have HI1:Hid (∀ W,Calls Tryz.prog 126 #[.int .u8 (((tx s)[p]'q1).toNat:Int)] W fun e w'=>e = .returned (.bool false)∧W = w'):=hid (fun W=>by rw [HX.out,←d1];exact wisDigit _ W)
     cases d2:isLet (s.getD p 0)
     ·have HI2:Hid (∀ W,Calls Tryz.prog 128 #[.int .u8 (((tx s)[p]'q1).toNat:Int)] W fun e w'=>e = .returned (.bool false)∧W = w'):=hid (fun W=>by rw [HX.out,←d2];exact wisLetter _ W)
      by_cases d3:s.getD p 0 = 39
      ·have z:((((tx s)[p]'q1).toNat:Int) == 39) = true:=by
        have:(((tx s)[p]'q1).toNat:Int) = 39:=toNat_of (HX.out.trans d3)
        simpa using this
       have HLEX:=hid (lex1_text (l:=s.drop p) (by rw [g0];exact d3))
       rw [List.drop_drop,List.length_drop] at HLEX
       have HIB:Hid (∀ W,Calls Tryz.prog 129 #[.string ((tx s).extract (p + 1) (tx s).size),.int .u8 39] W fun e w'=>e = .returned (.int .i64 (if cntTxt (s.drop (p + 1)) < s.length - (p + 1) then (cntTxt (s.drop (p + 1)):Int) else -1))∧W = w'):=hid (fun W=>by
        refine (Tryz.strings_IndexByte _ 39 W).mono ?_
        rintro e w' ⟨rfl,rfl⟩
        refine ⟨?_,rfl⟩
        rw [tx_extract,tx_list,List.take_of_length_le (by rw [List.length_drop,tx_size'];omega),show ((39:Int).toNat.toUInt8) = (39:UInt8) from rfl,indexByte_txt,List.length_drop])
       have HNL:=hid (takeWhile_le (fun c=>c != 39) (s.drop (p + 1)))
       rw [List.length_drop] at HNL
       obtain ⟨m,hm⟩:∃ m,m = cntTxt (s.drop (p + 1)):=⟨_,rfl⟩
       rw [←hm] at HIB HLEX
       have HM:=hid hm
       have f2:=HF.out 2
       have f3:=HF.out 3
       have i1:IntKind.i64.wrap ((p:Int) + 1) = (p:Int) + 1:=IntWalk.i64_in _ (by have:=HSL.out;omega)
       have i2:0≤(p:Int) + 1:=by omega
       have i3:((p:Int) + 1).toNat = p + 1:=by omega
       have i4:p + 1≤(tx s).size:=by omega
       have i5:(p:Int) + 1≤((tx s).size:Int):=by omega
       clear d1 d2 d3 g0 hm
       by_cases t1:m < s.length - (p + 1)
       ·rw [if_pos t1] at HIB HLEX
        have HT:=hid t1
        clear t1
        go_wp2_with (first | (go_at_call 126;refine (HI1.out _).mono ?_;rintro e w1 ⟨rfl,rfl⟩) | (go_at_call 128;refine (HI2.out _).mono ?_;rintro e w1 ⟨rfl,rfl⟩))
        go_quiet ((go_at_call 129;exact quiet_eq2 (HIB.out _)))
        have HQ:=hid (show p + 1 + m + 1≤(tx s).size by have h1:=HT.out;have h2:=HS.out;omega)
        obtain ⟨q,hq⟩:∃ q:Nat,(p:Int) + ((m:Int) + 2) = (q:Int):=⟨p + (m + 2),by omega⟩
        have HQ2:=hid (show q = p + (m + 2) by omega)
        have pl:p≤1000000:=by have:=HSL.out;omega
        have ml:m≤1000000:=by have:=HT.out;have:=HSL.out;omega
        have ql:q≤2000002:=by omega
        have j1:IntKind.i64.wrap ((q:Int) - 1) = (q:Int) - 1:=IntWalk.i64_in _ (by omega)
        have j2:0≤(q:Int) - 1:=by omega
        have j3:((q:Int) - 1).toNat = q - 1:=by omega
        have j4:(q:Int) - 1≤((tx s).size:Int):=by have:=HQ.out;omega
        have j5:(p:Int) + 1≤(q:Int) - 1:=by omega
        go_wp2_with fail
        go_region_with (fail)
        clear j1 j2 j3 j4 j5
        all_goals
         go_wp2
         first | go_end0 | refine bodyPost_ret (results_none rfl _ _ _) rfl ?_
         have HQ3:=HQ2.out
         rw [HLX.out.1,tx_extract,show q - 1 - (p + 1) = m by omega]
         refine qnext_tok (q:=q) (t:=⟨3,(s.drop (p + 1)).take m⟩) HLX.out.2 (by omega) ?_ rfl ?_ ?_
         ·rw [HLEX.out,show q - p = m + 2 by omega]
         ·first | exact ((((HR1.out.drewN _).at q).kind 3).got _).drew | exact (((HR1.out.drewN _).at q).kind 3).drew.got _
         ·first | exact ((((HB1.out.drewN _).cell _ _).cell _ _).cell _ _).drew | exact (((HB1.out.drewN _).cell _ _).cell _ _).drew.cell _ _
       ·rw [if_neg t1] at HIB HLEX
        go_wp2_with (first | (go_at_call 126;refine (HI1.out _).mono ?_;rintro e w1 ⟨rfl,rfl⟩) | (go_at_call 128;refine (HI2.out _).mono ?_;rintro e w1 ⟨rfl,rfl⟩))
        go_quiet ((go_at_call 129;exact quiet_eq2 (HIB.out _)))
        go_wp2
        rw [HLX.out.1]
        exact ⟨rfl,HB1.out.drewN _,.inr ⟨HLX.out.2,.inl ⟨HLEX.out,rfl⟩⟩⟩
      ·have z:((((tx s)[p]'q1).toNat:Int) == 39) = false:=by
        have:=ne_nat (c:=(tx s)[p]'q1) (v:=39) (by rw [HX.out];exact d3)
        simpa using this
       have HLEX:=hid (lex1_sign2 (l:=s.drop p) HDR.out (by rw [g0];exact d1) (by rw [g0];exact d2) (by rw [g0];exact d3))
       have HNL:=hid (signLen_le HLX.out.2)
       rw [getD_drop,getD_drop] at HLEX
       simp only [Nat.add_zero] at HLEX
       clear d1 d2 d3 g0
       go_wp2_with (first | (go_at_call 126;refine (HI1.out _).mono ?_;rintro e w1 ⟨rfl,rfl⟩) | (go_at_call 128;refine (HI2.out _).mono ?_;rintro e w1 ⟨rfl,rfl⟩))
       go_at_call 130
       refine (wsign r s p k g HSL.out HLX.out.2 _ (HR1.out.drewN _)).mono ?_
       rintro e w2 ⟨hb2,⟨n1,rfl,hr2⟩ | ⟨n1,rfl⟩⟩
       ·have HB2:=hid ((HB1.out.drewN _).trans hb2)
        have HV:=hid (HLEX.out.1 n1)
        obtain ⟨q,hq⟩:∃ q,q = p + signLen (s.getD p 0) (s.getD (p + 1) 0):=⟨_,rfl⟩
        have HQ:=hid hq
        rw [←hq] at hr2
        have x4:p≤q:=by omega
        have x5:q≤(tx s).size:=by
         have h1:=HNL.out
         have h2:=HS.out
         omega
        have HR2:=hid hr2
        clear hb2 n1 hq c0 c1 c2 c3 f1 z
        obtain ⟨c0',c1',c2',c3',fr',hlt'⟩:=hr2.cells
        have f3:=fr' 3
        clear hr2 fr'
        go_wp2_with fail
        go_region_with (fail)
        all_goals
         go_wp2
         first | go_end0 | refine bodyPost_ret (results_none rfl _ _ _) rfl ?_
         rw [HLX.out.1,tx_extract]
         refine qnext_tok HLX.out.2 x4 (t:=⟨4,(s.drop p).take (q - p)⟩) ?_ rfl ?_ ?_
         ·rw [HV.out];have:=HQ.out;rw [show q - p = signLen (s.getD p 0) (s.getD (p + 1) 0) by omega]
         ·first | exact (HR2.out.got _).drew | exact HR2.out.drew.got _
         ·first | exact (HB2.out.cell _ _).drew | exact HB2.out.drew.cell _ _
       ·go_wp2
        rw [HLX.out.1]
        exact ⟨rfl,(HB1.out.drewN _).trans hb2,.inr ⟨HLX.out.2,.inl ⟨HLEX.out.2 n1,rfl⟩⟩⟩
     ·have HI2:Hid (∀ W,Calls Tryz.prog 128 #[.int .u8 (((tx s)[p]'q1).toNat:Int)] W fun e w'=>e = .returned (.bool true)∧W = w'):=hid (fun W=>by rw [HX.out,←d2];exact wisLetter _ W)
      have HLEX:=hid (lex1_word (l:=s.drop p) (by rw [g0];exact d1) (by rw [g0];exact d2))
      have HCW:=hid (cntWrd_first (l:=s.drop p) (by rw [g0];exact d2))
      rw [←HCW.out] at HLEX
      have HNL:=hid (takeWhile_le isWrd (s.drop p))
      rw [List.length_drop] at HNL
      clear d1 d2 g0
      go_wp2_with (first | (go_at_call 126;refine (HI1.out _).mono ?_;rintro e w1 ⟨rfl,rfl⟩) | (go_at_call 128;refine (HI2.out _).mono ?_;rintro e w1 ⟨rfl,rfl⟩))
      clear c0 c1 c2 c3 f1 HF
      go_loopg [] (s.length - p) (fun n wx=>∃ q:Nat,p≤q∧q + n = s.length∧q - p≤cntWrd (s.drop p)∧Hid (Rd wx r s q k g)∧Hid (But [r] w wx))
      case atStart=>exact ⟨p,by omega,by omega,by omega,hid (HR1.out.drewN _),hid (HB1.out.drewN _)⟩
      case round=>
       obtain ⟨q,hpq,hq,hqw,HR3,HB3⟩:=hrel
       obtain ⟨c0,c1,c2,c3,fr,hlt⟩:=HR3.out.cells
       have f1:=fr 1
       have f2:=fr 2
       have f3:=fr 3
       clear fr
       by_cases y1:q < (tx s).size
       ·have y1':q < s.length:=by have:=HS.out;omega
        have HA:=hid (takeWhile_at isWrd (s.drop p) (q - p) (by unfold cntWrd at hqw;omega) (by simp;omega))
        rw [getD_drop,show p + (q - p) = q by omega] at HA
        have HX3:=hid (tx_at s q y1')
        cases q2:isWrd (s.getD q 0)
        ·have HV:Hid (q - p = cntWrd (s.drop p)):=hid (HA.out.2 q2)
         have w1:isLet (s.getD q 0) = false∧isDig (s.getD q 0) = false∧s.getD q 0≠95:=by simpa [isWrd,and_assoc] using q2
         have HL:Hid (∀ W,Calls Tryz.prog 128 #[.int .u8 (((tx s)[q]'y1).toNat:Int)] W fun e w'=>e = .returned (.bool false)∧W = w'):=hid (fun W=>by rw [HX3.out,←w1.1];exact wisLetter _ W)
         have HD:Hid (∀ W,Calls Tryz.prog 126 #[.int .u8 (((tx s)[q]'y1).toNat:Int)] W fun e w'=>e = .returned (.bool false)∧W = w'):=hid (fun W=>by rw [HX3.out,←w1.2.1];exact wisDigit _ W)
         have z:((((tx s)[q]'y1).toNat:Int) == 95) = false:=by
          have:=ne_nat (c:=(tx s)[q]'y1) (v:=95) (by rw [HX3.out];exact w1.2.2)
          simpa using this
         clear q2 w1 HA
         go_wp2_with fail
         go_quiet (first | (go_at_call 128;exact quiet_eq (HL.out _)) | (go_at_call 126;exact quiet_eq (HD.out _)))
         clear z
         have x5:q≤(tx s).size:=by omega
         have x6:p≤q:=hpq
         go_wp2_with fail
         go_region_with (fail)
         all_goals
          go_wp2
          first | go_end0 | refine bodyPost_ret (results_none rfl _ _ _) rfl ?_
          rw [HLX.out.1,tx_extract]
          refine qnext_tok HLX.out.2 hpq (t:=⟨2,(s.drop p).take (q - p)⟩) ?_ rfl ?_ ?_
          ·rw [HLEX.out,←HV.out]
          ·first | exact (((HR3.out.drewN _).kind 2).got _).drew | exact ((HR3.out.drewN _).kind 2).drew.got _
          ·first | exact (((HB3.out.drewN _).cell _ _).cell _ _).drew | exact ((HB3.out.drewN _).cell _ _).drew.cell _ _
        ·have HV:=hid (HA.out.1 q2)
         cases w1:isLet (s.getD q 0)
         ·have HL:Hid (∀ W,Calls Tryz.prog 128 #[.int .u8 (((tx s)[q]'y1).toNat:Int)] W fun e w'=>e = .returned (.bool false)∧W = w'):=hid (fun W=>by rw [HX3.out,←w1];exact wisLetter _ W)
          cases w2:isDig (s.getD q 0)
          ·have HD:Hid (∀ W,Calls Tryz.prog 126 #[.int .u8 (((tx s)[q]'y1).toNat:Int)] W fun e w'=>e = .returned (.bool false)∧W = w'):=hid (fun W=>by rw [HX3.out,←w2];exact wisDigit _ W)
           have w3:s.getD q 0 = 95:=wrd_95 q2 w1 w2
           have z:((((tx s)[q]'y1).toNat:Int) == 95) = true:=by
            have:(((tx s)[q]'y1).toNat:Int) = 95:=toNat_of (HX3.out.trans w3)
            simpa using this
           clear w1 w2 w3 HA
           clear q2
           go_wp2_with fail
           go_quiet (first | (go_at_call 128;exact quiet_eq (HL.out _)) | (go_at_call 126;exact quiet_eq (HD.out _)))
           go_wp2
           go_roundg (gk - 1)
           case measure=>omega
           case rel=>exact ⟨q + 1,by omega,by omega,by have:=HV.out;unfold cntWrd;omega,hid ((HR3.out.drewN _).at (q + 1)),hid ((HB3.out.drewN _).cell _ _)⟩
          ·have HD:Hid (∀ W,Calls Tryz.prog 126 #[.int .u8 (((tx s)[q]'y1).toNat:Int)] W fun e w'=>e = .returned (.bool true)∧W = w'):=hid (fun W=>by rw [HX3.out,←w2];exact wisDigit _ W)
           clear w1 w2 HA
           clear q2
           go_wp2_with fail
           go_quiet (first | (go_at_call 128;exact quiet_eq (HL.out _)) | (go_at_call 126;exact quiet_eq (HD.out _)))
           go_wp2
           go_roundg (gk - 1)
           case measure=>omega
           case rel=>exact ⟨q + 1,by omega,by omega,by have:=HV.out;unfold cntWrd;omega,hid ((HR3.out.drewN _).at (q + 1)),hid ((HB3.out.drewN _).cell _ _)⟩
         ·have HL:Hid (∀ W,Calls Tryz.prog 128 #[.int .u8 (((tx s)[q]'y1).toNat:Int)] W fun e w'=>e = .returned (.bool true)∧W = w'):=hid (fun W=>by rw [HX3.out,←w1];exact wisLetter _ W)
          clear w1 HA
          clear q2
          go_wp2_with fail
          go_quiet ((go_at_call 128;exact quiet_eq (HL.out _)))
          go_wp2
          go_roundg (gk - 1)
          case measure=>omega
          case rel=>exact ⟨q + 1,by omega,by omega,by have:=HV.out;unfold cntWrd;omega,hid ((HR3.out.drewN _).at (q + 1)),hid ((HB3.out.drewN _).cell _ _)⟩
       ·have x1:decide ((q:Int) < ((tx s).size:Int)) = false:=decide_eq_false (by omega)
        have HV:Hid (q - p = cntWrd (s.drop p)):=hid (by have h1:=HS.out;have h2:=HNL.out;unfold cntWrd at hqw ⊢;omega)
        go_wp2_with fail
        go_quiet (fail)
        clear x1
        have x5:q≤(tx s).size:=by have:=HS.out;omega
        have x6:p≤q:=hpq
        go_wp2_with fail
        go_region_with (fail)
        all_goals
         go_wp2
         first | go_end0 | refine bodyPost_ret (results_none rfl _ _ _) rfl ?_
         rw [HLX.out.1,tx_extract]
         refine qnext_tok HLX.out.2 hpq (t:=⟨2,(s.drop p).take (q - p)⟩) ?_ rfl ?_ ?_
         ·rw [HLEX.out,←HV.out]
         ·first | exact (((HR3.out.drewN _).kind 2).got _).drew | exact ((HR3.out.drewN _).kind 2).drew.got _
         ·first | exact (((HB3.out.drewN _).cell _ _).cell _ _).drew | exact ((HB3.out.drewN _).cell _ _).drew.cell _ _
    ·have HI1:Hid (∀ W,Calls Tryz.prog 126 #[.int .u8 (((tx s)[p]'q1).toNat:Int)] W fun e w'=>e = .returned (.bool true)∧W = w'):=hid (fun W=>by rw [HX.out,←d1];exact wisDigit _ W)
     have HLEX:=hid (lex1_num (l:=s.drop p) (by rw [g0];exact d1))
     have HNL:=hid (numLen_le (s.drop p))
     clear d1 g0
     go_wp2_with (first | (go_at_call 126;refine (HI1.out _).mono ?_;rintro e w1 ⟨rfl,rfl⟩))
     go_at_call 127
     refine (wnumber r s p k g HSL.out HLX.out.2 _ (HR1.out.drewN _)).mono ?_
     rintro e w2 ⟨hb2,⟨n1,n2,rfl,hr2⟩ | ⟨n1,rfl⟩⟩
     ·have HR2:=hid hr2
      have HB2:=hid ((HB1.out.drewN _).trans hb2)
      have HV:=hid (And.intro n1 n2)
      obtain ⟨q,hq⟩:∃ q,q = p + (numLen (s.drop p)).1:=⟨_,rfl⟩
      have HQ:=hid hq
      rw [←hq] at hr2
      have x4:p≤q:=by omega
      have x5:q≤(tx s).size:=by
       have h1:=HNL.out.1
       have h2:=HS.out
       rw [List.length_drop] at h1
       omega
      have HR2:=hid hr2
      clear hb2 n1 n2 hq c0 c1 c2 c3 f1
      obtain ⟨c0',c1',c2',c3',fr',hlt'⟩:=hr2.cells
      have f3:=fr' 3
      clear hr2 fr'
      go_wp2_with fail
      go_region_with (fail)
      all_goals
       go_wp2
       first | go_end0 | refine bodyPost_ret (results_none rfl _ _ _) rfl ?_
       rw [HLX.out.1,tx_extract]
       refine qnext_tok HLX.out.2 x4 (t:=⟨1,(s.drop p).take (q - p)⟩) ?_ rfl ?_ ?_
       ·rw [HLEX.out,if_pos HV.out];have:=HQ.out;rw [show q - p = (numLen (s.drop p)).1 by omega]
       ·first | exact (HR2.out.got _).drew | exact HR2.out.drew.got _
       ·first | exact (HB2.out.cell _ _).drew | exact HB2.out.drew.cell _ _
     ·go_wp2
      rw [HLX.out.1]
      exact ⟨rfl,(HB1.out.drewN _).trans hb2,.inr ⟨HLX.out.2,.inl ⟨by rw [HLEX.out,if_neg n1],rfl⟩⟩⟩
  ·have x1:decide ((p:Int) < ((tx s).size:Int)) = false:=decide_eq_false (by omega)
   have x2:((p:Int) == ((tx s).size:Int)) = true:=by have:=HS.out;simp;omega
   have HPB:Hid (b = p):=hid (by have:=HBL.out;have:=HS.out;omega)
   have f2:=HF.out 2
   have f3:=HF.out 3
   have HP2:=hid (show s.length≤p by have:=HS.out;omega)
   go_wp2_with fail
   go_quiet (fail)
   clear x1
   go_wp2_with fail
   go_quiet (fail)
   go_wp2
   first | go_end0 | refine bodyPost_ret (results_none rfl _ _ _) rfl ?_
   rw [HPB.out]
   exact ⟨((HB1.out.drewN _).cell 2 _).cell 3 _,.inl ⟨HP2.out,rfl,((HR1.out.drewN _).kind 0).got []⟩⟩
theorem lex1_len {l : Bs} {t : Tok} {n : Nat} (h : lex1 l = some (t, n)) : 1 ≤ n ∧ n ≤ l.length ∧ 1 ≤ t.k := by
  cases l with
  | nil => cases h
  | cons c r =>
    simp only [lex1] at h
    split at h
    · rename_i hd
      split at h
      · cases h
        have h1 := (numLen_le (c :: r)).1
        have h2 : 1 ≤ cntDig (c :: r) := by unfold cntDig; rw [List.takeWhile_cons_of_pos (p := isDig) hd]; simp
        refine ⟨?_, h1, Nat.le_refl _⟩
        unfold numLen
        simp only
        split <;> simp only <;> omega
      · cases h
    · split at h
      · cases h
        have := takeWhile_le isWrd r
        unfold cntWrd
        simp
        omega
      · split at h
        · split at h
          · cases h; simp; omega
          · cases h
        · split at h
          · rename_i h2
            cases h
            cases r with
            | nil => exact absurd h2 (by simp [isTwo])
            | cons d r => simp
          · split at h
            · cases h; simp
            · cases h
theorem lexF_fuel : ∀ (n m : Nat) (l : Bs), l.length < n → l.length < m → lexF n l = lexF m l
  | 0, _, _, h, _ => by omega
  | _, 0, _, _, h => by omega
  | n + 1, m + 1, l, h1, h2 => by
    simp only [lexF]
    split
    · rfl
    · rename_i hne
      cases hq : lex1 (l.drop (cntBl l)) with
      | none => rfl
      | some x =>
        obtain ⟨t, k⟩ := x
        have h3 := lex1_len hq
        simp only
        rw [lexF_fuel n m _ (by simp at h3 ⊢; omega) (by simp at h3 ⊢; omega)]
theorem lex_at (s : Bs) (a : Nat) (ha : a ≤ s.length) : lex (s.drop a) = if s.length ≤ blAt s a then ([], true) else match lex1 (s.drop (blAt s a)) with
    | none => ([], false)
    | some (t, k) => (t :: (lex (s.drop (blAt s a + k))).1, (lex (s.drop (blAt s a + k))).2) := by
  have hb := cntBl_le s a ha
  unfold lex
  rw [show lexF ((s.drop a).length + 1) (s.drop a) = (if (s.drop a).drop (cntBl (s.drop a)) = [] then ([], true) else match lex1 ((s.drop a).drop (cntBl (s.drop a))) with
    | none => ([], false)
    | some (t, k) => (t :: (lexF (s.drop a).length (((s.drop a).drop (cntBl (s.drop a))).drop k)).1, (lexF (s.drop a).length (((s.drop a).drop (cntBl (s.drop a))).drop k)).2)) from rfl]
  rw [List.drop_drop, show a + cntBl (s.drop a) = blAt s a from rfl]
  by_cases h : s.length ≤ blAt s a
  · rw [if_pos h, if_pos (List.drop_eq_nil_of_le h)]
  · rw [if_neg h, if_neg (fun e => by have := congrArg List.length e; simp at this; omega)]
    cases hq : lex1 (s.drop (blAt s a)) with
    | none => rfl
    | some x =>
      obtain ⟨t, k⟩ := x
      have h3 := lex1_len hq
      simp only [List.drop_drop]
      rw [lexF_fuel (s.drop a).length ((s.drop (blAt s a + k)).length + 1) _ (by simp at h3 ⊢; omega) (by omega)]
theorem dig_46 {c:UInt8} (h:isDig c = true):c≠46:=by rintro rfl;exact absurd h (by decide)
theorem valF_digs (d : Bs) (hd : ∀ c ∈ d, isDig c = true) (x : Nat × Nat × Bool) : (d.foldl valStep x).2.1 = (if x.2.2 = true then x.2.1 + d.length else x.2.1) ∧ (d.foldl valStep x).2.2 = x.2.2 := by
  induction d generalizing x with
  | nil => simp
  | cons c t ih =>
    have hc := dig_46 (hd c (by simp))
    obtain ⟨h1, h2⟩ := ih (fun c h => hd c (by simp [h])) (valStep x c)
    rw [List.foldl_cons, h1, h2]
    unfold valStep
    rw [if_neg hc]
    refine ⟨?_, rfl⟩
    simp only [List.length_cons]
    split
    · omega
    · rfl
theorem filter_digs (d:Bs) (hd:∀ c ∈ d,isDig c = true):(d.filter (fun c=>c != 46)).length = d.length:=by
 rw [List.filter_eq_self.2 (fun c h=>by simpa [bne_iff_ne] using dig_46 (hd c h))]
theorem numT_lex {l : Bs} (h : (numLen l).2.1 ≤ 15 ∧ (numLen l).2.2 ≤ 6) : NumT (l.take (numLen l).1) := by
  have hall : ∀ l : Bs, ∀ c ∈ l.takeWhile isDig, isDig c = true := fun l c hc => by
    induction l with
    | nil => cases hc
    | cons a t ih =>
      rw [List.takeWhile_cons] at hc
      split at hc
      · rename_i ha
        rcases List.mem_cons.1 hc with rfl | hc
        · exact ha
        · exact ih hc
      · cases hc
  have htk : ∀ l : Bs, l.take (cntDig l) = l.takeWhile isDig := fun l => by
    unfold cntDig
    induction l with
    | nil => rfl
    | cons a t ih =>
      rw [List.takeWhile_cons]
      split
      · rw [List.length_cons, List.take_succ_cons, ih]
      · rfl
  unfold numLen at h ⊢
  simp only at h ⊢
  split
  · rename_i hc
    rw [if_pos hc] at h
    have hlt := getD_zero (l := l) (i := cntDig l) (by rw [hc.1]; decide)
    have e : l.take (cntDig l + 1 + cntDig (l.drop (cntDig l + 1))) = l.takeWhile isDig ++ 46 :: (l.drop (cntDig l + 1)).takeWhile isDig := by
      rw [List.take_add, List.take_add_one, htk, htk, List.getElem?_eq_getElem hlt]
      have : l[cntDig l] = 46 := by
        have := hc.1
        rw [List.getD_eq_getElem?_getD, List.getElem?_eq_getElem hlt] at this
        exact this
      rw [this]
      simp
    simp only
    rw [e]
    have d1 := hall l
    have d2 := hall (l.drop (cntDig l + 1))
    refine ⟨fun c h0 => ?_, ?_, ?_, by rw [List.length_append, List.length_cons]; have h9 : cntDig l + cntDig (l.drop (cntDig l + 1)) ≤ 15 := h.1; have e1 : (l.takeWhile isDig).length = cntDig l := rfl; have e2 : ((l.drop (cntDig l + 1)).takeWhile isDig).length = cntDig (l.drop (cntDig l + 1)) := rfl; omega⟩
    · rcases List.mem_append.1 h0 with h0 | h0
      · exact .inr (d1 c h0)
      · rcases List.mem_cons.1 h0 with rfl | h0
        · exact .inl rfl
        · exact .inr (d2 c h0)
    · unfold valF
      rw [List.foldl_append, List.foldl_cons]
      obtain ⟨h1, h2⟩ := valF_digs _ d1 (0, 0, false)
      obtain ⟨h3, h4⟩ := valF_digs _ d2 (valStep ((l.takeWhile isDig).foldl valStep (0, 0, false)) 46)
      rw [h3]
      unfold valStep at *
      simp only [if_pos] at *
      rw [h1]
      simp
      exact h.2
    · rw [List.filter_append, List.length_append, filter_digs _ d1, List.filter_cons_of_neg (by simp), filter_digs _ d2]
      exact h.1
  · rename_i hc
    rw [if_neg hc] at h
    simp only
    rw [htk]
    have d1 := hall l
    refine ⟨fun c h0 => .inr (d1 c h0), ?_, ?_, by have h9 : cntDig l ≤ 15 := h.1; have e1 : (l.takeWhile isDig).length = cntDig l := rfl; omega⟩
    · unfold valF
      rw [(valF_digs _ d1 (0, 0, false)).1]
      simp
    · rw [filter_digs _ d1]; exact h.1
theorem lex1_num_tok {l : Bs} {t : Tok} {n : Nat} (h : lex1 l = some (t, n)) (hk : t.k = 1) : NumT t.s := by
  cases l with
  | nil => cases h
  | cons c r =>
    simp only [lex1] at h
    split at h
    · split at h
      · rename_i hn
        cases h
        exact numT_lex hn
      · cases h
    · split at h
      · cases h; cases hk
      · split at h
        · split at h
          · cases h; cases hk
          · cases h
        · split at h
          · cases h; cases hk
          · split at h
            · cases h; cases hk
            · cases h
def St (r:Nat) (s:Bs) (ok:Bool) (ts:List Tok) (w:World):Prop:=
 ∃ a k g,a≤s.length∧Rd w r s a k g∧((ts = []∧k = 0∧g = []∧ok = true)∨∃ t rest,ts = t :: rest∧t.k = k∧t.s = g∧1≤k∧lex (s.drop a) = (rest,ok)∧(t.k = 1→NumT t.s))
theorem wqstep (r:Nat) (s:Bs) (ok:Bool) (ts:List Tok) (a k:Nat) (g:Bs) (hs:s.length≤1000000) (ha:a≤s.length) (w:World) (h:Rd w r s a k g) (hl:lex (s.drop a) = (ts,ok)) :
  Calls Tryz.prog 95 #[.pointer (some ⟨r,0,none⟩)] w fun e w'=>But [r] w w'∧((ts = []∧ok = false∧Pan e)∨(¬ (ts = []∧ok = false)∧e = .returned (.tuple #[])∧St r s ok ts w')):=by
 refine (wqnext r s a k g hs ha w h).mono ?_
 rintro e w' ⟨hb,h1⟩
 rw [lex_at s a ha] at hl
 have hbl:=cntBl_le s a ha
 refine ⟨hb,?_⟩
 rcases h1 with ⟨h2,rfl,hr⟩ | ⟨h2,h3⟩
 ·rw [if_pos h2] at hl
  cases hl
  exact .inr ⟨by simp,rfl,_,_,_,hbl.2,hr,.inl ⟨rfl,rfl,rfl,rfl⟩⟩
 ·rw [if_neg (by omega)] at hl
  rcases h3 with ⟨h4,hp⟩ | ⟨t,n,h4,rfl,hr⟩
  ·rw [h4] at hl
   cases hl
   exact .inl ⟨rfl,rfl,hp⟩
  ·rw [h4] at hl
   have h5:=lex1_len h4
   cases hl
   exact .inr ⟨by simp,rfl,_,_,_,by simp at h5;omega,hr,.inr ⟨t,_,rfl,rfl,rfl,h5.2.2,rfl,lex1_num_tok h4⟩⟩
def AdvEnd (r:Nat) (s:Bs) (ok:Bool) (res:Option (List Tok)) (w:World) (e:Ending) (w':World):Prop:=
 But [r] w w'∧((res = none∧Pan e)∨(∃ ts',res = some ts'∧e = .returned (.tuple #[])∧St r s ok ts' w'))
theorem wadv (r:Nat) (s:Bs) (ok:Bool) (ts:List Tok) (hs:s.length≤1000000) (hne:ts≠[]) (w:World) (h:St r s ok ts w) :
  Calls Tryz.prog 95 #[.pointer (some ⟨r,0,none⟩)] w (AdvEnd r s ok (adv ok ts) w):=by
 obtain ⟨a,k,g,ha,hr,⟨h1,_⟩ | ⟨t,rest,rfl,h1,h2,h3,h4,_⟩⟩:=h
 ·exact absurd h1 hne
 ·refine (wqstep r s ok rest a k g hs ha w hr h4).mono ?_
  rintro e w' ⟨hb,⟨h5,h6,hp⟩ | ⟨h5,rfl,hst⟩⟩
  ·exact ⟨hb,.inl ⟨by simp [adv,h5,h6],hp⟩⟩
  ·exact ⟨hb,.inr ⟨rest,by simp only [adv];rw [if_neg h5],rfl,hst⟩⟩
theorem wisT (r:Nat) (s:Bs) (ok:Bool) (ts:List Tok) (kk:Nat) (hk:1≤kk) (str:Bs) (w:World) (h:St r s ok ts w) :
  Calls Tryz.prog 132 #[.pointer (some ⟨r,0,none⟩),.int .i64 kk,.string (tx str)] w fun e w'=>e = .returned (.bool (isTok ts kk str))∧w = w':=by
 obtain ⟨a,k,g,ha,hr,⟨rfl,rfl,rfl,_⟩ | ⟨t,rest,rfl,h1,h2,h3,h4⟩⟩:=h
 ·refine (wrdIs r s a 0 [] kk str w hr).mono ?_
  rintro e w' ⟨rfl,rfl⟩
  refine ⟨ret_bool ?_,rfl⟩
  have e0:((0:Nat) == kk) = false:=by simp;omega
  rw [e0]
  rfl
 ·refine (wrdIs r s a k g kk str w hr).mono ?_
  rintro e w' ⟨rfl,rfl⟩
  refine ⟨ret_bool ?_,rfl⟩
  rw [←h1,←h2]
  rfl
theorem St.kept {r:Nat} {s:Bs} {ok:Bool} {ts:List Tok} {w w':World} (h:St r s ok ts w) (hb:w'.heap[r]? = w.heap[r]?):St r s ok ts w':=by
 obtain ⟨a,k,g,ha,hr,h1⟩:=h
 exact ⟨a,k,g,ha,hb.trans hr,h1⟩
theorem St.lt {r:Nat} {s:Bs} {ok:Bool} {ts:List Tok} {w:World} (h:St r s ok ts w):r < w.heap.size:=by
 obtain ⟨a,k,g,ha,hr,h1⟩:=h
 exact hr.cells.2.2.2.2.2
theorem St.below {r:Nat} {s:Bs} {ok:Bool} {ts:List Tok} {w w':World} (h:St r s ok ts w) (hb:Below w.heap.size w w'):St r s ok ts w':=h.kept (hb.block r h.lt)
theorem wmust (r:Nat) (s:Bs) (ok:Bool) (ts:List Tok) (str:Bs) (hs:s.length≤1000000) (w:World) (h:St r s ok ts w) :
  Calls Tryz.prog 214 #[.pointer (some ⟨r,0,none⟩),.string (tx str)] w (AdvEnd r s ok (must ok str ts) w):=by
 have HIS:=hid (wisT r s ok ts 4 (by omega) str w h)
 have HH:=hid h
 have HSL:=hid hs
 clear h hs
 obtain ⟨res,hres⟩:∃ x,x = must ok str ts:=⟨_,rfl⟩
 rw [←hres]
 unfold must at hres
 cases hq:isTok ts 4 str
 ·rw [hq] at HIS hres
  have HV:Hid (res = none):=hid hres
  clear hq hres
  go_enter Tryz.func214,Tryz.ntmps214
  go_wp2_with (first | (go_at_call 132;refine (HIS.out).mono ?_;rintro e w1 ⟨rfl,rfl⟩))
  go_wp2
  exact ⟨rfl,But.refl _ _,.inl ⟨HV.out,rfl⟩⟩
 ·have HNE:Hid (ts≠[]):=hid (fun e=>by rw [e] at hq;cases hq)
  rw [hq] at HIS hres
  have HV:Hid (res = adv ok ts):=hid hres
  clear hq hres
  go_enter Tryz.func214,Tryz.ntmps214
  go_wp2_with (first | (go_at_call 132;refine (HIS.out).mono ?_;rintro e w1 ⟨rfl,rfl⟩))
  go_at_call 95
  refine (wadv r s ok ts HSL.out HNE.out _ HH.out).mono ?_
  rintro e w2 ⟨hb,⟨h1,rfl⟩ | ⟨ts',h1,rfl,hst⟩⟩
  ·have H1:=hid (And.intro h1 hb)
   clear h1 hb
   go_wp2
   exact ⟨rfl,H1.out.2,.inl ⟨HV.out.trans H1.out.1,rfl⟩⟩
  ·have H1:=hid (And.intro h1 (And.intro hb hst))
   clear h1 hb hst
   go_wp2
   first | go_end0 | refine bodyPost_ret (results_none rfl _ _ _) rfl ?_
   exact ⟨H1.out.2.1,.inr ⟨ts',HV.out.trans H1.out.1,rfl,H1.out.2.2⟩⟩
mutual
def NodeV (A:Nat→Prop) (w:World):Value→Tree→Prop
 | v,.mk op n s l=>∃ x cap,v = .agg #[.string (tx op),.float .f64 n,.string (tx s),.slice x l.length cap]∧l.length≤cap∧(x = none→l = [])∧∀ a,x = some a→(l≠[]→A a.block∧a.block < w.heap.size)∧NodesV A w a 0 l
def NodesV (A:Nat→Prop) (w:World):Addr→Nat→List Tree→Prop
 | _,_,[]=>True
 | a,i,t :: r=>(∃ v0 v1 v2 v3,w.cell? (a.add (i * 4)) = some v0∧w.cell? (a.add (i * 4 + 1)) = some v1∧w.cell? (a.add (i * 4 + 2)) = some v2∧w.cell? (a.add (i * 4 + 3)) = some v3∧NodeV A w (.agg #[v0,v1,v2,v3]) t)∧NodesV A w a (i + 1) r
end
theorem nil_not {α:Type} {l:List α} {j:Nat} (h:j < l.length):l≠[]:=by intro e;rw [e] at h;cases h
theorem add_block (a:Addr) (j:Nat):(a.add j).block = a.block:=by unfold Addr.add;split <;> rfl
theorem cell_lt {w:World} {a:Addr} {v:Value} (h:w.cell? a = some v):a.block < w.heap.size:=by
 unfold World.cell? at h
 rcases Nat.lt_or_ge a.block w.heap.size with h' | h'
 ·exact h'
 ·rw [Array.getElem?_eq_none h'] at h
  cases h
theorem cell_same {w w':World} {a:Addr} {v:Value} (h:w'.heap[a.block]? = w.heap[a.block]?) (hc:w.cell? a = some v):w'.cell? a = some v:=by
 rw [←hc]
 unfold World.cell?
 rw [h]
mutual
theorem NodeV.kept {A B : Nat → Prop} {w w' : World} (hz : w.heap.size ≤ w'.heap.size) (hk : ∀ b, A b → b < w.heap.size → B b ∧ w'.heap[b]? = w.heap[b]?) : ∀ (t : Tree) (v : Value), NodeV A w v t → NodeV B w' v t
  | .mk op n s l, v, h => by
    obtain ⟨x, cap, hv, h1, h2, h3⟩ := h
    refine ⟨x, cap, hv, h1, h2, fun a ha => ?_⟩
    obtain ⟨g1, g3⟩ := h3 a ha
    exact ⟨fun hl => ⟨(hk _ (g1 hl).1 (g1 hl).2).1, Nat.lt_of_lt_of_le (g1 hl).2 hz⟩, NodesV.kept hz hk l a 0 g1 g3⟩
theorem NodesV.kept {A B : Nat → Prop} {w w' : World} (hz : w.heap.size ≤ w'.heap.size) (hk : ∀ b, A b → b < w.heap.size → B b ∧ w'.heap[b]? = w.heap[b]?) : ∀ (l : List Tree) (a : Addr) (i : Nat), (l ≠ [] → A a.block ∧ a.block < w.heap.size) → NodesV A w a i l → NodesV B w' a i l
  | [], _, _, _, _ => trivial
  | t :: r, a, i, hal, h => by
    obtain ⟨ha, hlt⟩ := hal (by intro e; cases e)
    obtain ⟨⟨v0, v1, v2, v3, h0, h1, h2, h3, h4⟩, h5⟩ := h
    have hs : ∀ j, w'.heap[(a.add j).block]? = w.heap[(a.add j).block]? := fun j => by rw [add_block]; exact (hk _ ha hlt).2
    exact ⟨⟨v0, v1, v2, v3, cell_same (hs _) h0, cell_same (hs _) h1, cell_same (hs _) h2, cell_same (hs _) h3, NodeV.kept hz hk t _ h4⟩, NodesV.kept hz hk r a (i + 1) (fun _ => ⟨ha, hlt⟩) h5⟩
end
theorem NodeV.sub {A B:Nat→Prop} {w:World} {v:Value} {t:Tree} (h:NodeV A w v t) (hs:∀ b,A b→b < w.heap.size→B b):NodeV B w v t:=
 NodeV.kept (Nat.le_refl _) (fun b h1 h2=>⟨hs b h1 h2,rfl⟩) t v h
theorem NodeV.but {A:Nat→Prop} {r:Nat} {w w':World} {v:Value} {t:Tree} (h:NodeV A w v t) (hr:¬ A r) (hb:But [r] w w'):NodeV A w' v t:=
 NodeV.kept hb.size (fun b h1 h2=>⟨h1,hb.block b h2 (by simp;exact fun e=>hr (e ▸ h1))⟩) t v h
theorem NodeV.below {A:Nat→Prop} {w w':World} {v:Value} {t:Tree} (h:NodeV A w v t) (hb:Below w.heap.size w w'):NodeV A w' v t:=
 NodeV.kept hb.size (fun b h1 h2=>⟨h1,hb.block b h2⟩) t v h
theorem NodeV.set {A:Nat→Prop} {w:World} {v:Value} {t:Tree} (h:NodeV A w v t) (x:Addr) (u:Value) (hx:¬ A x.block):NodeV A (w.setCell x u) v t:=
 NodeV.kept (by simp) (fun b h1 h2=>⟨h1,Below.heap_setCell _ _ _ _ (fun e=>hx (e ▸ h1))⟩) t v h
theorem NodeV.drewN {A:Nat→Prop} {w:World} {v:Value} {t:Tree} (h:NodeV A w v t) (n:Nat):NodeV A (w.drewN n) v t:=
 NodeV.kept (w:=w) (w':=w.drewN n) (Nat.le_refl w.heap.size) (fun _ h1 _=>⟨h1,rfl⟩) t v h
theorem NodeV.drew {A:Nat→Prop} {w:World} {v:Value} {t:Tree} (h:NodeV A w v t):NodeV A w.drew v t:=
 NodeV.kept (w:=w) (w':=w.drew) (Nat.le_refl w.heap.size) (fun _ h1 _=>⟨h1,rfl⟩) t v h
theorem NodeV.zero (A:Nat→Prop) (w:World):NodeV A w (.agg #[.string ⟨#[]⟩,.float .f64 0,.string ⟨#[]⟩,.slice none 0 0]) (.mk [] 0 [] []):=
 ⟨none,0,rfl,Nat.le_refl _,fun _=>rfl,fun a ha=>by cases ha⟩
end Go.Proofs.YtpcbamcelpcigaaGreat
