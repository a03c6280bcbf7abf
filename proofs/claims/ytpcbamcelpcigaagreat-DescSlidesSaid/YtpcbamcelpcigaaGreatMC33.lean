/- Own texts, merged. -/
import Derived.WalkKit
import Derived.Test.YtpcbamcelpcigaaGreatMC32
import Derived.Test.YtpcbamcelpcigaaGreatMC00
set_option maxRecDepth 100000
set_option maxHeartbeats 32000000
open Go.Lib (hid)
namespace Go.Proofs.YtpcbamcelpcigaaGreat
open Go.RowKit Go.Shelf
def nxtR (l:Bs):Int × Nat × Bool:=
 if lenR (l.getD 0 0).toNat≤l.length∧0 < lenR (l.getD 0 0).toNat then (if begR (l.take (lenR (l.getD 0 0).toNat)) = true then (numR (l.take (lenR (l.getD 0 0).toNat)),lenR (l.getD 0 0).toNat,false) else (65533,1,false))
 else if 0 < lenR (l.getD 0 0).toNat∧begR l = true then (0,0,true) else (65533,1,false)
theorem BytesAt.take {w:World} {b off:Nat} {l:Bs} (h:BytesAt w b off l) (n:Nat):BytesAt w b off (l.take n):=fun j hj=>by
 have hj2:j < l.length:=by simp at hj;omega
 rw [h j hj2,List.getD_eq_getElem?_getD,List.getD_eq_getElem?_getD,List.getElem?_take_of_lt (by simp at hj;omega)]
theorem take_head {l:Bs} {n:Nat} (hn:0 < n):(l.take n).getD 0 0 = l.getD 0 0:=by
 rw [List.getD_eq_getElem?_getD,List.getD_eq_getElem?_getD,List.getElem?_take_of_lt hn]
theorem rnext (b off cap:Nat) (l:Bs) (hl:l.length≤cap) (hl1:1≤l.length) (hl2:l.length≤1000000) (w:World) (h:BytesAt w b off l) (hbl:b < w.heap.size):Calls Tryz.prog 100 #[.slice (some ⟨b,off,none⟩) l.length cap] w (NextEnd (nxtR l) w):=by
 unfold NextEnd
 have HB:=hid h
 have c0:=h 0 (by omega)
 rw [Nat.add_zero] at c0
 have HLE:=hid (rlength (l.getD 0 0).toNat w)
 obtain ⟨N,hN⟩:∃ N,N = lenR (l.getD 0 0).toNat:=⟨_,rfl⟩
 have HV:Hid (nxtR l = if N≤l.length∧0 < N then (if begR (l.take N) = true then (numR (l.take N),N,false) else (65533,1,false)) else if 0 < N∧begR l = true then (0,0,true) else (65533,1,false)):=hid (by rw [hN];rfl)
 have HHD:=hid hN
 rw [←hN] at HLE
 have hN4:N≤4:=by rw [hN];exact lenR_le _
 have HBL:=hid (rbegins b off cap l hl hl1 hl2 w h hbl)
 have HBT:Hid (N≤l.length→0 < N→Calls Tryz.prog 138 #[.slice (some ⟨b,off,none⟩) N cap] w fun e w'=>e = .returned (.bool (begR (l.take N)))∧Below w.heap.size w w'):=hid (fun h1 h2=>by
  have h3:(l.take N).length = N:=by simp;omega
  have h4:=rbegins b off cap (l.take N) (by omega) (by omega) (by omega) w (h.take N) hbl
  rw [h3] at h4
  exact h4)
 have HNT:Hid (N≤l.length→0 < N→∀ W,Below w.heap.size w W→Calls Tryz.prog 139 #[.slice (some ⟨b,off,none⟩) N cap] W fun e w'=>e = .returned (.int .i32 (numR (l.take N)))∧Below W.heap.size W w'):=hid (fun h1 h2 W hW=>by
  have h3:(l.take N).length = N:=by simp;omega
  have h4:=rnumber b off cap (l.take N) (by omega) (by omega) (by rw [take_head h2,h3];exact HHD.out.symm) W ((h.take N).kept hbl hW) (by have:=hW.size;omega)
  rw [h3] at h4
  exact h4)
 obtain ⟨R,hR⟩:∃ R,R = nxtR l:=⟨_,rfl⟩
 rw [←hR] at HV ⊢
 obtain ⟨x,hx⟩:∃ x,x = (l.getD 0 0).toNat:=⟨_,rfl⟩
 rw [←hx] at c0 HLE
 obtain ⟨B1,hB1⟩:∃ B,B = begR (l.take N):=⟨_,rfl⟩
 obtain ⟨B2,hB2⟩:∃ B,B = begR l:=⟨_,rfl⟩
 obtain ⟨M,hM⟩:∃ M,M = numR (l.take N):=⟨_,rfl⟩
 rw [←hB1] at HBT HV
 rw [←hB2] at HBL HV
 rw [←hM] at HNT HV
 obtain ⟨n,hn⟩:∃ n,n = l.length:=⟨_,rfl⟩
 rw [←hn] at hl hl1 HV HBL HBT HNT ⊢
 have i0:¬ (n:Int) = 0:=by omega
 have i0':((n:Int) == 0) = false:=by rw [beq_eq_false_iff_ne];omega
 have i00:(0:Int) < (n:Int):=by omega
 have hc1:0 < cap:=by omega
 clear h hN hR hx hB1 hB2 hM hn hl2 HB HHD
 by_cases hz:N = 0
 ·subst hz
  have HR:Hid (R = (65533,1,false)):=hid (by rw [HV.out,if_neg (by omega),if_neg (by omega)])
  clear HV HBL HBT HNT
  go_enter Tryz.func100,Tryz.ntmps100
  go_wp2_with (first | (go_at_call 137;(with_reducible refine HLE.out.mono ?_);rintro e w' ⟨rfl,rfl⟩))
  go_ret3
  rw [HR.out]
  exact ⟨rfl,Below.refl _ _⟩
 ·have i1:(0:Int) < (N:Int):=by omega
  by_cases hle:N≤n
  ·have i2:(N:Int)≤(n:Int):=by omega
   have i3:¬ (n:Int) < (N:Int):=by omega
   have i4:(0:Int)≤(N:Int):=by omega
   have i5:(N:Int)≤(cap:Int):=by omega
   have HB3:=hid (HBT.out hle (by omega))
   have HN3:=hid (HNT.out hle (by omega))
   have HV2:Hid (R = if B1 = true then (M,N,false) else (65533,1,false)):=hid (by rw [HV.out,if_pos ⟨hle,by omega⟩])
   clear HV HBL HBT HNT hz
   cases B1
   ·have HR:Hid (R = (65533,1,false)):=hid (by rw [HV2.out,if_neg (by simp)])
    go_enter Tryz.func100,Tryz.ntmps100
    go_wp2_with (first | (go_at_call 137;(with_reducible refine HLE.out.mono ?_);rintro e w' ⟨rfl,rfl⟩) | (go_at_call 138;fail))
    go_at_call 138
    refine HB3.out.mono ?_
    rintro e w1 ⟨rfl,hb1⟩
    have HB1:=hid hb1
    clear hb1
    go_wp2
    go_ret3
    rw [HR.out]
    exact ⟨rfl,HB1.out⟩
   ·have HR:Hid (R = (M,N,false)):=hid (by rw [HV2.out,if_pos rfl])
    go_enter Tryz.func100,Tryz.ntmps100
    go_wp2_with (first | (go_at_call 137;(with_reducible refine HLE.out.mono ?_);rintro e w' ⟨rfl,rfl⟩) | (go_at_call 138;fail))
    go_at_call 138
    refine HB3.out.mono ?_
    rintro e w1 ⟨rfl,hb1⟩
    have HB1:=hid hb1
    clear hb1
    go_wp2_with (first | (go_at_call 139;fail))
    go_at_call 139
    refine (HN3.out w1 HB1.out).mono ?_
    rintro e w2 ⟨rfl,hb2⟩
    have HB2:=hid (HB1.out.trans (below_le hb2 HB1.out.size))
    clear hb2
    go_wp2
    go_ret3
    rw [HR.out]
    exact ⟨rfl,HB2.out⟩
  ·have i2:¬ (N:Int)≤(n:Int):=by omega
   have i3:(n:Int) < (N:Int):=by omega
   have HV2:Hid (R = if B2 = true then (0,0,true) else (65533,1,false)):=hid (by rw [HV.out,if_neg (by omega)];cases B2 <;> simp;omega)
   clear HV HBT HNT hz
   cases B2
   ·have HR:Hid (R = (65533,1,false)):=hid (by rw [HV2.out,if_neg (by simp)])
    go_enter Tryz.func100,Tryz.ntmps100
    go_wp2_with (first | (go_at_call 137;(with_reducible refine HLE.out.mono ?_);rintro e w' ⟨rfl,rfl⟩) | (go_at_call 138;fail))
    go_at_call 138
    refine HBL.out.mono ?_
    rintro e w1 ⟨rfl,hb1⟩
    have HB1:=hid hb1
    clear hb1
    go_wp2
    go_ret3
    rw [HR.out]
    exact ⟨rfl,HB1.out⟩
   ·have HR:Hid (R = (0,0,true)):=hid (by rw [HV2.out,if_pos rfl])
    go_enter Tryz.func100,Tryz.ntmps100
    go_wp2_with (first | (go_at_call 137;(with_reducible refine HLE.out.mono ?_);rintro e w' ⟨rfl,rfl⟩) | (go_at_call 138;fail))
    go_at_call 138
    refine HBL.out.mono ?_
    rintro e w1 ⟨rfl,hb1⟩
    have HB1:=hid hb1
    clear hb1
    go_wp2
    go_ret3
    rw [HR.out]
    exact ⟨rfl,HB1.out⟩
theorem num1 (a:UInt8):numR [a] = (a.toNat:Int):=rfl
theorem num2 (a b:UInt8):numR [a,b] = ((a.toNat:Int) - 192) * 64 + (b.toNat % 64:Nat):=rfl
theorem num3 (a b c:UInt8):numR [a,b,c] = (((a.toNat:Int) - 224) * 64 + (b.toNat % 64:Nat)) * 64 + (c.toNat % 64:Nat):=rfl
theorem num4 (a b c d:UInt8):numR [a,b,c,d] = ((((a.toNat:Int) - 240) * 64 + (b.toNat % 64:Nat)) * 64 + (c.toNat % 64:Nat)) * 64 + (d.toNat % 64:Nat):=rfl
theorem t128:(128:UInt8).toNat % 64 = 0:=rfl
theorem t191:(191:UInt8).toNat % 64 = 63:=rfl
theorem tails1 (a:UInt8):tailsR [a] = true:=rfl
theorem tails2 (a b:UInt8):tailsR [a,b] = tailB b:=by simp [tailsR]
theorem tails3 (a b c:UInt8):tailsR [a,b,c] = (tailB b && tailB c):=by simp [tailsR]
theorem tails4 (a b c d:UInt8):tailsR [a,b,c,d] = (tailB b && (tailB c && tailB d)):=by simp [tailsR]
theorem lenR_2 {c:Nat} (h:194≤c) (h2:c < 224):lenR c = 2:=by unfold lenR;rw [if_neg (by omega),if_neg (by omega),if_pos h2]
theorem lenR_3 {c:Nat} (h:224≤c) (h2:c < 240):lenR c = 3:=by unfold lenR;rw [if_neg (by omega),if_neg (by omega),if_neg (by omega),if_pos h2]
theorem lenR_4 {c:Nat} (h:240≤c) (h2:c < 245):lenR c = 4:=by unfold lenR;rw [if_neg (by omega),if_neg (by omega),if_neg (by omega),if_neg (by omega),if_pos h2]
theorem shp_2 {c:Nat} (h:194≤c) (h2:c < 224):shp c = ⟨2,128,191,(c % 32:Nat)⟩:=by unfold shp;rw [if_neg (by omega),if_neg (by omega),if_pos h2]
def lo3 (c:Nat):Nat:=if c = 224 then 160 else 128
def hi3 (c:Nat):Nat:=if c = 237 then 159 else 191
def lo4 (c:Nat):Nat:=if c = 240 then 144 else 128
def hi4 (c:Nat):Nat:=if c = 244 then 143 else 191
theorem shp_3 {c:Nat} (h:224≤c) (h2:c < 240):shp c = ⟨3,lo3 c,hi3 c,(c:Int) - 224⟩:=by
 have hall:∀ c:Fin 240,224≤c.1→shp c.1 = ⟨3,lo3 c.1,hi3 c.1,(c.1:Int) - 224⟩:=by decide +kernel
 exact hall ⟨c,h2⟩ h
theorem shp_4 {c:Nat} (h:240≤c) (h2:c < 245):shp c = ⟨4,lo4 c,hi4 c,(c:Int) - 240⟩:=by
 have hall:∀ c:Fin 245,240≤c.1→shp c.1 = ⟨4,lo4 c.1,hi4 c.1,(c.1:Int) - 240⟩:=by decide +kernel
 exact hall ⟨c,h2⟩ h
theorem beg_of {l:Bs} {n:Nat} (h:lenR (l.getD 0 0).toNat = n) (hl:l.length≤n):begR l = (tailsR l && decide (frR n≤numR (fillB l 191 n)∧numR (fillB l 128 n)≤1114111∧(numR (fillB l 128 n) < 55296∨57343 < numR (fillB l 191 n)))):=by
 rw [begR_eq,h]
 cases ht:tailsR l
 ·rw [if_pos (.inr rfl)];rfl
 ·rw [if_neg (by simp;omega)];rfl
theorem tailB_iff (d:UInt8):tailB d = true↔128≤d.toNat∧d.toNat≤191:=by unfold tailB;rw [decide_eq_true_iff]
theorem beg2_1 (c:UInt8) (h:194≤c.toNat) (h2:c.toNat < 224):begR [c] = true:=by
 rw [beg_of (l:=[c]) (lenR_2 h h2) (by simp),tails1,Bool.true_and,decide_eq_true_iff,show fillB [c] 191 2 = [c,191] from rfl,show fillB [c] 128 2 = [c,128] from rfl,num2,num2,t128,t191]
 simp only [frR]
 simp
 omega
theorem beg2_2 (c d:UInt8) (h:194≤c.toNat) (h2:c.toNat < 224):begR [c,d] = tailB d:=by
 rw [beg_of (l:=[c,d]) (lenR_2 h h2) (by simp),tails2,show fillB [c,d] 191 2 = [c,d] from rfl,show fillB [c,d] 128 2 = [c,d] from rfl,num2,Bool.eq_iff_iff,Bool.and_eq_true,decide_eq_true_iff,tailB_iff]
 simp only [frR]
 simp
 omega
theorem beg3_1 (c:UInt8) (h:224≤c.toNat) (h2:c.toNat < 240):begR [c] = true:=by
 rw [beg_of (l:=[c]) (lenR_3 h h2) (by simp),tails1,Bool.true_and,decide_eq_true_iff,show fillB [c] 191 3 = [c,191,191] from rfl,show fillB [c] 128 3 = [c,128,128] from rfl,num3,num3,t128,t191]
 simp only [frR]
 simp
 omega
theorem beg3_2 (c d:UInt8) (h:224≤c.toNat) (h2:c.toNat < 240):begR [c,d] = decide (lo3 c.toNat≤d.toNat∧d.toNat≤hi3 c.toNat):=by
 rw [beg_of (l:=[c,d]) (lenR_3 h h2) (by simp),tails2,show fillB [c,d] 191 3 = [c,d,191] from rfl,show fillB [c,d] 128 3 = [c,d,128] from rfl,num3,num3,t128,t191,Bool.eq_iff_iff,Bool.and_eq_true,decide_eq_true_iff,decide_eq_true_iff,tailB_iff]
 simp only [frR,lo3,hi3]
 simp
 split <;> split <;> omega
theorem beg3_3 (c d e:UInt8) (h:224≤c.toNat) (h2:c.toNat < 240):begR [c,d,e] = (decide (lo3 c.toNat≤d.toNat∧d.toNat≤hi3 c.toNat) && tailB e):=by
 rw [beg_of (l:=[c,d,e]) (lenR_3 h h2) (by simp),tails3,show fillB [c,d,e] 191 3 = [c,d,e] from rfl,show fillB [c,d,e] 128 3 = [c,d,e] from rfl,num3,Bool.eq_iff_iff,Bool.and_eq_true,Bool.and_eq_true,Bool.and_eq_true,decide_eq_true_iff,decide_eq_true_iff,tailB_iff,tailB_iff]
 simp only [frR,lo3,hi3]
 simp
 split <;> split <;> omega
theorem beg4_1 (c:UInt8) (h:240≤c.toNat) (h2:c.toNat < 245):begR [c] = true:=by
 rw [beg_of (l:=[c]) (lenR_4 h h2) (by simp),tails1,Bool.true_and,decide_eq_true_iff,show fillB [c] 191 4 = [c,191,191,191] from rfl,show fillB [c] 128 4 = [c,128,128,128] from rfl,num4,num4,t128,t191]
 simp only [frR]
 simp
 omega
theorem beg4_2 (c d:UInt8) (h:240≤c.toNat) (h2:c.toNat < 245):begR [c,d] = decide (lo4 c.toNat≤d.toNat∧d.toNat≤hi4 c.toNat):=by
 rw [beg_of (l:=[c,d]) (lenR_4 h h2) (by simp),tails2,show fillB [c,d] 191 4 = [c,d,191,191] from rfl,show fillB [c,d] 128 4 = [c,d,128,128] from rfl,num4,num4,t128,t191,Bool.eq_iff_iff,Bool.and_eq_true,decide_eq_true_iff,decide_eq_true_iff,tailB_iff]
 simp only [frR,lo4,hi4]
 simp
 split <;> split <;> omega
theorem beg4_3 (c d e:UInt8) (h:240≤c.toNat) (h2:c.toNat < 245):begR [c,d,e] = (decide (lo4 c.toNat≤d.toNat∧d.toNat≤hi4 c.toNat) && tailB e):=by
 rw [beg_of (l:=[c,d,e]) (lenR_4 h h2) (by simp),tails3,show fillB [c,d,e] 191 4 = [c,d,e,191] from rfl,show fillB [c,d,e] 128 4 = [c,d,e,128] from rfl,num4,num4,t128,t191,Bool.eq_iff_iff,Bool.and_eq_true,Bool.and_eq_true,Bool.and_eq_true,decide_eq_true_iff,decide_eq_true_iff,tailB_iff,tailB_iff]
 simp only [frR,lo4,hi4]
 simp
 split <;> split <;> omega
theorem beg4_4 (c d e f:UInt8) (h:240≤c.toNat) (h2:c.toNat < 245):begR [c,d,e,f] = (decide (lo4 c.toNat≤d.toNat∧d.toNat≤hi4 c.toNat) && (tailB e && tailB f)):=by
 rw [beg_of (l:=[c,d,e,f]) (lenR_4 h h2) (by simp),tails4,show fillB [c,d,e,f] 191 4 = [c,d,e,f] from rfl,show fillB [c,d,e,f] 128 4 = [c,d,e,f] from rfl,num4,Bool.eq_iff_iff,Bool.and_eq_true,Bool.and_eq_true,Bool.and_eq_true,Bool.and_eq_true,Bool.and_eq_true,decide_eq_true_iff,decide_eq_true_iff,tailB_iff,tailB_iff,tailB_iff]
 simp only [frR,lo4,hi4]
 simp
 split <;> split <;> omega
theorem tl_step (k lo hi:Nat) (c:UInt8) (t:Bs) (r:Int):tl (k + 1) lo hi (c :: t) r = if decide (lo≤c.toNat∧c.toNat≤hi) = true then tl k 128 191 t (r * 64 + (c.toNat % 64:Nat)) else some none:=by
 show (if c.toNat < lo∨hi < c.toNat then some none else tl k 128 191 t (r * 64 + (c.toNat % 64:Nat))) = _
 by_cases h:lo≤c.toNat∧c.toNat≤hi
 ·rw [if_neg (by omega),decide_eq_true h,if_pos rfl]
 ·rw [if_pos (by omega),decide_eq_false h,if_neg (by simp)]
theorem nxtR_of {l:Bs} {n:Nat} (h:lenR (l.getD 0 0).toNat = n) (hn:0 < n):nxtR l = if n≤l.length then (if begR (l.take n) = true then (numR (l.take n),n,false) else (65533,1,false)) else if begR l = true then (0,0,true) else (65533,1,false):=by
 unfold nxtR
 rw [h]
 by_cases h1:n≤l.length
 ·rw [if_pos ⟨h1,hn⟩,if_pos h1]
 ·rw [if_neg (by omega),if_neg h1]
  simp only [hn,true_and]
theorem nxt_of {c:UInt8} {t:Bs} {m lo hi:Nat} {r:Int} (h:shp c.toNat = ⟨m,lo,hi,r⟩) (hm:m≠0):nxt (c :: t) = nxtT m (tl (m - 1) lo hi t r):=by
 show (if (shp c.toNat).m = 0 then (65533,1,false) else nxtT (shp c.toNat).m (tl ((shp c.toNat).m - 1) (shp c.toNat).lo (shp c.toNat).hi t (shp c.toNat).r)) = _
 rw [h,if_neg hm]
theorem tailB_dec (d:UInt8):decide (128≤d.toNat∧d.toNat≤191) = tailB d:=rfl
theorem nxt_eq (l : Bs) (hl : l ≠ []) : nxtR l = nxt l := by
  obtain ⟨c, t, rfl⟩ := List.exists_cons_of_ne_nil hl
  have hc : c.toNat < 256 := UInt8.toNat_lt _
  have hg : ((c :: t).getD 0 0).toNat = c.toNat := rfl
  by_cases h1 : c.toNat < 128
  · have hs : shp c.toNat = ⟨1, 0, 0, c.toNat⟩ := by unfold shp; rw [if_pos h1]
    have hn : lenR c.toNat = 1 := by unfold lenR; rw [if_pos h1]
    rw [nxtR_of (l := c :: t) hn (by omega), nxt_of hs (by omega), if_pos (by simp)]
    have hb : begR [c] = true := by
      rw [beg_of (l := [c]) hn (by simp), tails1, Bool.true_and, decide_eq_true_iff, show fillB [c] 191 1 = [c] from rfl, show fillB [c] 128 1 = [c] from rfl, num1]
      simp [frR]
      omega
    rw [show (c :: t).take 1 = [c] from rfl, if_pos hb, num1]
    simp [tl, nxtT]
  · by_cases h2 : c.toNat < 194
    · have hs : shp c.toNat = ⟨0, 0, 0, 0⟩ := by unfold shp; rw [if_neg h1, if_pos h2]
      have hn : lenR c.toNat = 0 := by unfold lenR; rw [if_neg h1, if_pos h2]
      unfold nxtR
      rw [hg, hn, if_neg (by omega), if_neg (by omega)]
      show _ = (if (shp c.toNat).m = 0 then (65533, 1, false) else _)
      rw [hs, if_pos rfl]
    · by_cases h3 : c.toNat < 224
      · have a1 : 194 ≤ c.toNat := by omega
        rw [nxtR_of (l := c :: t) (lenR_2 a1 h3) (by omega), nxt_of (shp_2 a1 h3) (by omega)]
        cases t with
        | nil => rw [if_neg (by simp), beg2_1 c a1 h3]; rfl
        | cons d t =>
          rw [if_pos (by simp), show (c :: d :: t).take 2 = [c, d] from rfl, beg2_2 c d a1 h3, num2, tl_step, tailB_dec]
          cases tailB d
          · rfl
          · simp [tl, nxtT]
            omega
      · by_cases h4 : c.toNat < 240
        · have a1 : 224 ≤ c.toNat := by omega
          rw [nxtR_of (l := c :: t) (lenR_3 a1 h4) (by omega), nxt_of (shp_3 a1 h4) (by omega)]
          match t with
          | [] => rw [if_neg (by simp), beg3_1 c a1 h4]; rfl
          | [d] =>
            rw [if_neg (by simp), beg3_2 c d a1 h4, tl_step]
            cases decide (lo3 c.toNat ≤ d.toNat ∧ d.toNat ≤ hi3 c.toNat)
            · rfl
            · rfl
          | d :: e :: t =>
            rw [if_pos (by simp), show (c :: d :: e :: t).take 3 = [c, d, e] from rfl, beg3_3 c d e a1 h4, num3, tl_step]
            cases decide (lo3 c.toNat ≤ d.toNat ∧ d.toNat ≤ hi3 c.toNat)
            · rfl
            · rw [if_pos rfl, tl_step, tailB_dec, Bool.true_and]
              cases tailB e <;> rfl
        · by_cases h5 : c.toNat < 245
          · have a1 : 240 ≤ c.toNat := by omega
            rw [nxtR_of (l := c :: t) (lenR_4 a1 h5) (by omega), nxt_of (shp_4 a1 h5) (by omega)]
            match t with
            | [] => rw [if_neg (by simp), beg4_1 c a1 h5]; rfl
            | [d] =>
              rw [if_neg (by simp), beg4_2 c d a1 h5, tl_step]
              cases decide (lo4 c.toNat ≤ d.toNat ∧ d.toNat ≤ hi4 c.toNat)
              · rfl
              · rfl
            | [d, e] =>
              rw [if_neg (by simp), beg4_3 c d e a1 h5, tl_step]
              cases decide (lo4 c.toNat ≤ d.toNat ∧ d.toNat ≤ hi4 c.toNat)
              · rfl
              · rw [if_pos rfl, tl_step, tailB_dec, Bool.true_and]
                cases tailB e <;> rfl
            | d :: e :: f :: t =>
              rw [if_pos (by simp), show (c :: d :: e :: f :: t).take 4 = [c, d, e, f] from rfl, beg4_4 c d e f a1 h5, num4, tl_step]
              cases decide (lo4 c.toNat ≤ d.toNat ∧ d.toNat ≤ hi4 c.toNat)
              · rfl
              · rw [if_pos rfl, tl_step, tailB_dec, Bool.true_and]
                cases tailB e
                · rfl
                · rw [if_pos rfl, tl_step, tailB_dec, Bool.true_and]
                  cases tailB f <;> rfl
          · have hs : shp c.toNat = ⟨0, 0, 0, 0⟩ := by
              unfold shp
              repeat rw [if_neg (by omega)]
            have hn : lenR c.toNat = 0 := by
              unfold lenR
              rw [if_neg h1, if_neg h2, if_neg h3, if_neg h4, if_neg h5]
            unfold nxtR
            rw [hg, hn, if_neg (by omega), if_neg (by omega)]
            show _ = (if (shp c.toNat).m = 0 then (65533, 1, false) else _)
            rw [hs, if_pos rfl]
theorem info_parts21:∃ i0,Tryz.prog.info? 21 = some i0∧i0.zero = some (.int .i32 0)∧i0.size = 1∧i0.bytes = 4:=
 info_parts (show (Tryz.prog.info? 21).map (fun i=>(i.zero,i.size,i.bytes)) = some (some (.int .i32 0),1,4) by kernel_rfl)
theorem info_parts3:∃ i0,Tryz.prog.info? 3 = some i0∧i0.zero = some (.int .i64 0)∧i0.size = 1∧i0.bytes = 8:=
 info_parts (show (Tryz.prog.info? 3).map (fun i=>(i.zero,i.size,i.bytes)) = some (some (.int .i64 0),1,8) by kernel_rfl)
def runV (xs:List (Nat × Int)):List Value:=xs.map fun x=>.int .i32 x.2
def plcV (xs:List (Nat × Int)):List Value:=xs.map fun x=>.int .i64 (x.1:Nat)
structure RnI (w:World) (xs:List (Nat × Int)) (v4 v5:Value) (W:World):Prop where
 r4:W.ownsRow w.heap.size 21 1 v4 xs.length (runV xs)
 r5:W.ownsRow w.heap.size 3 1 v5 xs.length (plcV xs)
 bel:Below w.heap.size w W
theorem own_cells {w:World} {n0:Nat} {e:TypeId} {z n:Nat} {v:Value} {xs:List Value} (h:w.ownsRow n0 e z v n xs):∀ j,v.ownBlock = some j→∃ cur,w.heap[j]? = some (.cells cur e (0,0)):=fun j hj=>by
 rcases h.2 with ⟨hv,_⟩ | ⟨g,cap,cur,hv,_,hg,_⟩
 ·rw [hv] at hj;cases hj
 ·rw [hv] at hj;cases hj;exact ⟨cur,hg⟩
theorem own_apart {w:World} {n0 n0':Nat} {e e':TypeId} {z n z' n':Nat} {v v':Value} {xs xs':List Value} (h:w.ownsRow n0 e z v n xs) (h':w.ownsRow n0' e' z' v' n' xs') (hne:e≠e'):∀ j,v.ownBlock = some j→v'.ownBlock = some j→False:=fun j a b=>by
 obtain ⟨c,hc⟩:=own_cells h j a
 obtain ⟨c',hc'⟩:=own_cells h' j b
 rw [hc] at hc'
 cases hc'
 exact hne rfl
theorem own_kept {w w':World} {n0:Nat} {e:TypeId} {z n:Nat} {v:Value} {xs:List Value} {row:Option Nat} (h:w.ownsRow n0 e z v n xs) (hg:w.grownBy w' row) (hne:∀ j,row = some j→v.ownBlock = some j→False):w'.ownsRow n0 e z v n xs:=
 row_kept h (fun j hj=>hg.block j (h.lt j hj).2 (fun e=>hne j e.symm hj))
theorem RnI.below {w:World} {xs:List (Nat × Int)} {v4 v5:Value} {W W':World} (h:RnI w xs v4 v5 W) (hb:Below W.heap.size W W'):RnI w xs v4 v5 W':=
 ⟨row_kept h.r4 (fun j hj=>hb.block j (h.r4.lt j hj).2),row_kept h.r5 (fun j hj=>hb.block j (h.r5.lt j hj).2),h.bel.trans (below_le hb h.bel.size)⟩
structure RnI1 (w:World) (xs:List (Nat × Int)) (x:Nat × Int) (v4 v5:Value) (W:World):Prop where
 r4:W.ownsRow w.heap.size 21 1 v4 (xs.length + 1) (runV (xs ++ [x]))
 r5:W.ownsRow w.heap.size 3 1 v5 xs.length (plcV xs)
 bel:Below w.heap.size w W
theorem rn_app1 {w W w1:World} {xs:List (Nat × Int)} {x:Nat × Int} {v4 v5 v':Value} {o:Obj} (h:RnI w xs v4 v5 W) (ho:w1.ownsRow w.heap.size 21 1 v' (xs.length + 1) (runV xs ++ [.int .i32 x.2])) (hg:(W.alloc o).grownBy w1 v4.ownBlock):RnI1 w xs x v' v5 w1:=by
 have h4:(W.alloc o).ownsRow w.heap.size 21 1 v4 xs.length (runV xs):=row_kept h.r4 (fun j hj=>Below.heap_alloc _ _ _ (h.r4.lt j hj).2)
 have h5:(W.alloc o).ownsRow w.heap.size 3 1 v5 xs.length (plcV xs):=row_kept h.r5 (fun j hj=>Below.heap_alloc _ _ _ (h.r5.lt j hj).2)
 refine ⟨?_,own_kept h5 hg (own_apart h4 h5 (by decide)),(h.bel.alloc h.bel.size o).grown hg (by have:=h.bel.size;simp;omega) (fun j hj=>(h.r4.lt j hj).1)⟩
 simpa [runV] using ho
theorem rn_app2 {w W w1:World} {xs:List (Nat × Int)} {x:Nat × Int} {v4 v5 v':Value} {o:Obj} (h:RnI1 w xs x v4 v5 W) (ho:w1.ownsRow w.heap.size 3 1 v' (xs.length + 1) (plcV xs ++ [.int .i64 (x.1:Nat)])) (hg:(W.alloc o).grownBy w1 v5.ownBlock):RnI w (xs ++ [x]) v4 v' w1:=by
 have h4:(W.alloc o).ownsRow w.heap.size 21 1 v4 (xs.length + 1) (runV (xs ++ [x])):=row_kept h.r4 (fun j hj=>Below.heap_alloc _ _ _ (h.r4.lt j hj).2)
 have h5:(W.alloc o).ownsRow w.heap.size 3 1 v5 xs.length (plcV xs):=row_kept h.r5 (fun j hj=>Below.heap_alloc _ _ _ (h.r5.lt j hj).2)
 refine ⟨?_,?_,(h.bel.alloc h.bel.size o).grown hg (by have:=h.bel.size;simp;omega) (fun j hj=>(h.r5.lt j hj).1)⟩
 ·rw [List.length_append,List.length_singleton]
  exact own_kept h4 hg (own_apart h5 h4 (by decide))
 ·rw [List.length_append,List.length_singleton]
  simpa [plcV] using ho
def RunesEnd (l:Bs) (w:World) (e:Ending) (w':World):Prop:=∃ v4 v5,e = .returned (.tuple #[v4,v5])∧RnI w (itm l) v4 v5 w'
theorem rrunes (b off cap:Nat) (l:Bs) (hl:l.length≤cap) (hl2:l.length≤1000000) (w:World) (h:BytesAt w b off l) (hbl:b < w.heap.size):Calls Tryz.prog 78 #[.slice (some ⟨b,off,none⟩) l.length cap] w (RunesEnd l w):=by
 obtain ⟨i21,p1,p2,p3,p4⟩:=info_parts21
 obtain ⟨ti3,q1,q2,q3,q4⟩:=info_parts3
 have HP:=hid (And.intro p1 (And.intro p2 (And.intro p3 p4)))
 have HQ:=hid (And.intro q1 (And.intro q2 (And.intro q3 q4)))
 have HB:=hid (And.intro h hbl)
 obtain ⟨n,hn⟩:∃ n,n = l.length:=⟨_,rfl⟩
 have HN:=hid hn
 rw [←hn] at hl hl2 ⊢
 clear h hbl hn p1 p2 p3 p4 q1 q2 q3 q4
 go_enter Tryz.func78,Tryz.ntmps78
 go_wp2
 go_loopw [4,5,6] (fun v4 v5 i wr=>∃ (pre:List (Nat × Int)) (a f:Nat),i = .int .i64 (a:Int)∧a≤n∧n - a≤f∧pre.length≤a∧Hid (itm l = pre ++ itmN f a (l.drop a))∧Hid (RnI w pre v4 v5 wr)) (fun _ _ i _=>n - (intOf i).toNat)
 case atStart=>exact ⟨[],0,n,rfl,by omega,by omega,by simp,hid (by rw [HN.out];rfl),hid ⟨World.ownsRow_nil _ _ _ _,World.ownsRow_nil _ _ _ _,Below.refl _ _⟩⟩
 case round=>
  obtain ⟨pre,a,f,rfl,ha,hf,hpa,HI,HR⟩:=hrel
  obtain ⟨y4,d4,rfl⟩:=ownsRow_is HR.out.r4
  obtain ⟨y5,d5,rfl⟩:=ownsRow_is HR.out.r5
  have i1:(0:Int)≤(a:Int):=by omega
  by_cases hlt:a < n
  ·have i2:(a:Int) < (n:Int):=by omega
   have i3:(a:Int)≤(n:Int):=by omega
   have i4:(n:Int)≤(cap:Int):=by omega
   have hlen:(l.drop a).length = n - a:=by have:=HN.out;simp;omega
   have hne:l.drop a≠[]:=fun e=>by rw [e] at hlen;simp at hlen;omega
   obtain ⟨s1,s2⟩:=stp_n _ hne
   obtain ⟨f',rfl⟩:∃ f',f = f' + 1:=⟨f - 1,by omega⟩
   have hit:=HI.out
   rw [itmN_cons _ _ _ hne] at hit
   have hnx:=rnext b (off + a) (cap - a) (l.drop a) (by omega) (by omega) (by omega) wr ((HB.out.1.drop a).kept HB.out.2 HR.out.bel) (by have:=HR.out.bel.size;have:=HB.out.2;omega)
   rw [nxt_eq _ hne,hlen] at hnx
   have HNX:=hid hnx
   rw [hlen] at s2
   have HIT:=hid hit
   have HSTP:=hid (show stp (l.drop a) = if (nxt (l.drop a)).2.2 = true then (65533,1) else ((nxt (l.drop a)).1,(nxt (l.drop a)).2.1) from rfl)
   obtain ⟨R,hR⟩:∃ R,R = nxt (l.drop a):=⟨_,rfl⟩
   rw [←hR] at HNX HSTP
   obtain ⟨S,hS⟩:∃ S,S = stp (l.drop a):=⟨_,rfl⟩
   rw [←hS] at HSTP s1 s2 HIT
   clear hnx hit hR hS hlen hne
   unfold NextEnd at HNX
   obtain ⟨r0,n0,m0⟩:=R
   obtain ⟨sr,sn⟩:=S
   simp only at HNX HSTP s1 s2 HIT
   have hS2:(sr,sn) = if m0 = true then ((65533:Int),1) else (r0,n0):=HSTP.out
   clear HSTP
   have hL:pre.length≤1000000:=by omega
   cases m0
   ·obtain ⟨rfl,rfl⟩:sr = r0∧sn = n0:=by simpa using hS2
    clear hS2
    go_wp2_with (first | (go_at_call 100;fail))
    go_at_call 100
    refine HNX.out.mono ?_
    rintro e w2 ⟨rfl,hb2⟩
    have H2:=hid (HR.out.below hb2)
    clear hb2 HNX
    go_wp2_with (first | (at_builtin;refine wpList_append_own _ rfl _ _ 111 rfl w.heap.size 21 i21 (.int .i32 0) 1 4 Tryz.underlying111 HP.out.1 HP.out.2.1 HP.out.2.2.1 HP.out.2.2.2 rfl (by decide) _ _ _ rfl (H2.out.r4.alloc _) ⟨w2.heap.size,0,none⟩ 1 1 [.int .i32 sr] rfl rfl (cell_one_new _ _ _) (by simp [Value.oneCell']) (by unfold maxLen;omega) (by omega) (by have:=H2.out.bel.size;simp;omega) ?_;intro v4 w3 ho1 hg1 _;have HA3:=hid (rn_app1 (x:=(a,sr)) H2.out ho1 hg1);clear ho1 hg1) | (at_builtin;go_loud (refine wpList_append_own _ rfl _ _ 38 rfl w.heap.size 3 ti3 (.int .i64 0) 1 8 Tryz.underlying38 HQ.out.1 HQ.out.2.1 HQ.out.2.2.1 HQ.out.2.2.2 rfl (by decide) _ _ _ rfl (HA3.out.r5.alloc _) ⟨w3.heap.size,0,none⟩ 1 1 [.int .i64 (a:Nat)] rfl rfl (cell_one_new _ _ _) (by simp [Value.oneCell']) (by unfold maxLen;omega) (by omega) (by have:=HA3.out.bel.size;simp;omega) ?_);intro v5 w4 ho2 hg2 _;have HS:=hid (rn_app2 HA3.out ho2 hg2);clear ho2 hg2 HA3))
    go_roundw
    case rel=>exact ⟨pre ++ [(a,sr)],a + sn,f',by go_num,by omega,by omega,by simp;omega,hid (by have:=HIT.out;rw [this,List.drop_drop];simp),HS⟩
    case measure=>simp [intOf];omega
   ·obtain ⟨rfl,rfl⟩:sr = 65533∧sn = 1:=by simpa using hS2
    clear hS2
    go_wp2_with (first | (go_at_call 100;fail))
    go_at_call 100
    refine HNX.out.mono ?_
    rintro e w2 ⟨rfl,hb2⟩
    have H2:=hid (HR.out.below hb2)
    clear hb2 HNX
    go_wp2_with (first | (at_builtin;refine wpList_append_own _ rfl _ _ 111 rfl w.heap.size 21 i21 (.int .i32 0) 1 4 Tryz.underlying111 HP.out.1 HP.out.2.1 HP.out.2.2.1 HP.out.2.2.2 rfl (by decide) _ _ _ rfl (H2.out.r4.alloc _) ⟨w2.heap.size,0,none⟩ 1 1 [.int .i32 65533] rfl rfl (cell_one_new _ _ _) (by simp [Value.oneCell']) (by unfold maxLen;omega) (by omega) (by have:=H2.out.bel.size;simp;omega) ?_;intro v4 w3 ho1 hg1 _;have HA3:=hid (rn_app1 (x:=(a,65533)) H2.out ho1 hg1);clear ho1 hg1) | (at_builtin;go_loud (refine wpList_append_own _ rfl _ _ 38 rfl w.heap.size 3 ti3 (.int .i64 0) 1 8 Tryz.underlying38 HQ.out.1 HQ.out.2.1 HQ.out.2.2.1 HQ.out.2.2.2 rfl (by decide) _ _ _ rfl (HA3.out.r5.alloc _) ⟨w3.heap.size,0,none⟩ 1 1 [.int .i64 (a:Nat)] rfl rfl (cell_one_new _ _ _) (by simp [Value.oneCell']) (by unfold maxLen;omega) (by omega) (by have:=HA3.out.bel.size;simp;omega) ?_);intro v5 w4 ho2 hg2 _;have HS:=hid (rn_app2 HA3.out ho2 hg2);clear ho2 hg2 HA3))
    go_roundw
    case rel=>exact ⟨pre ++ [(a,65533)],a + 1,f',by go_num,by omega,by omega,by simp;omega,hid (by have:=HIT.out;rw [this,List.drop_drop];simp),HS⟩
    case measure=>simp [intOf];omega
  ·have i2:¬ (a:Int) < (n:Int):=by omega
   have he:itm l = pre:=by
    have:=HI.out
    rw [List.drop_eq_nil_of_le (by have:=HN.out;omega),itmN_nil,List.append_nil] at this
    exact this
   have HE:Hid (RnI w (itm l) (.slice y4 pre.length d4) (.slice y5 pre.length d5) wr):=hid (by rw [he];exact HR.out)
   clear he
   go_wp2
   go_ret2
   exact ⟨_,_,rfl,HE.out⟩
def RngAt (w:World) (b:Nat) (l:List Int):Prop:=w.heap[b]? = some (.cells (i32s l) 209 (0,0))
theorem rMarks (w:World):Calls Tryz.prog 141 #[] w fun e w'=>e = .returned (.slice (some ⟨w.heap.size,0,none⟩) 28 28)∧w' = w.alloc (.cells (i32s marksL) 209):=by
 go_enter Tryz.func141,Tryz.ntmps141
 go_wp2
 go_ret
 exact ⟨rfl,rfl⟩
theorem rWides (w:World):Calls Tryz.prog 142 #[] w fun e w'=>e = .returned (.slice (some ⟨w.heap.size,0,none⟩) 51 51)∧w' = w.alloc (.cells (i32s widesL) 209):=by
 go_enter Tryz.func142,Tryz.ntmps142
 go_wp2
 go_ret
 exact ⟨rfl,rfl⟩
theorem RngAt.get {w:World} {b:Nat} {l:List Int} (h:RngAt w b l) (j:Nat) (hj:j < l.length):w.cell? ⟨b,j,none⟩ = some (.int .i32 (l.getD j 0)):=by
 unfold RngAt i32s at h
 have:((l.map (Value.int .i32)).toArray)[j]? = some (.int .i32 (l.getD j 0)):=by
  rw [List.getElem?_toArray,List.getElem?_map,List.getElem?_eq_getElem hj,List.getD_eq_getElem?_getD,List.getElem?_eq_getElem hj];rfl
 simpa [World.cell?,h] using this
theorem rin (b N:Nat) (L:List Int) (hL:L.length = 2 * N) (hN:N≤1000) (r:Int) (w:World) (h:RngAt w b L):Calls Tryz.prog 140 #[.slice (some ⟨b,0,none⟩) N N,.int .i32 r] w fun e w'=>e = .returned (.bool (inR L r))∧w = w':=by
 have HB:=hid h
 have HL:=hid hL
 clear h hL
 go_enter Tryz.func140,Tryz.ntmps140
 go_wp2
 go_loopw [5] (fun v wr=>∃ j:Nat,v = .int .i64 (j:Int)∧j≤N∧Hid (∀ q,q < j→¬ (L.getD (2 * q) 0≤r∧r≤L.getD (2 * q + 1) 0))∧w = wr) (fun v _=>N - (intOf v).toNat)
 case atStart=>exact ⟨0,rfl,by omega,hid (fun q h=>by omega),rfl⟩
 case round=>
  obtain ⟨j,rfl,hj,HT,rfl⟩:=hrel
  by_cases hlt:j < N
  ·have c1:=HB.out.get (2 * j) (by have:=HL.out;omega)
   have c2:=HB.out.get (2 * j + 1) (by have:=HL.out;omega)
   rw [Nat.mul_comm 2 j] at c1 c2
   obtain ⟨A,hA⟩:∃ A,A = L.getD (2 * j) 0:=⟨_,rfl⟩
   obtain ⟨B,hB⟩:∃ A,A = L.getD (2 * j + 1) 0:=⟨_,rfl⟩
   have HAB:=hid (And.intro hA hB)
   rw [Nat.mul_comm 2 j] at hA hB
   rw [←hA] at c1
   rw [←hB] at c2
   clear hA hB
   have i1:(0:Int)≤(j:Int):=by omega
   have i2:(j:Int) < (N:Int):=by omega
   by_cases h1:A≤r
   ·by_cases h2:r≤B
    ·have HR:=hid (inR_some (L:=L) (r:=r) j (by have:=HL.out;omega) (by rw [←HAB.out.1,←HAB.out.2];exact ⟨h1,h2⟩))
     go_wp2
     go_ret
     exact ⟨by rw [HR.out];rfl,rfl⟩
    ·have HT2:Hid (∀ q,q < j + 1→¬ (L.getD (2 * q) 0≤r∧r≤L.getD (2 * q + 1) 0)):=hid (fun q hq=>by
      by_cases e:q = j
      ·rw [e,←HAB.out.1,←HAB.out.2];omega
      ·exact HT.out q (by omega))
     go_wp2
     go_roundw
     case rel=>exact ⟨j + 1,by go_num,by omega,HT2,by trivial⟩
     case measure=>simp [intOf];omega
   ·have HT2:Hid (∀ q,q < j + 1→¬ (L.getD (2 * q) 0≤r∧r≤L.getD (2 * q + 1) 0)):=hid (fun q hq=>by
     by_cases e:q = j
     ·rw [e,←HAB.out.1,←HAB.out.2];omega
     ·exact HT.out q (by omega))
    go_wp2
    go_roundw
    case rel=>exact ⟨j + 1,by go_num,by omega,HT2,by trivial⟩
    case measure=>simp [intOf];omega
  ·have i2:¬ (j:Int) < (N:Int):=by omega
   have HR:=hid (inR_none (L:=L) (r:=r) (fun q hq=>HT.out q (by have:=HL.out;omega)))
   go_wp2
   go_ret
   exact ⟨by rw [HR.out];rfl,rfl⟩
theorem rMark (r:Int) (w:World):Calls Tryz.prog 105 #[.int .i32 r] w fun e w'=>e = .returned (.bool (mrk r))∧Below w.heap.size w w':=by
 have HB:=hid ((Below.refl w.heap.size w).alloc (Nat.le_refl _) (.cells (i32s marksL) 209))
 have HI:=hid (rin w.heap.size 28 marksL (by decide) (by omega) r (w.alloc (.cells (i32s marksL) 209)) (heap_alloc_new _ _))
 have HV:=hid (show inR marksL r = mrk r from rfl)
 rw [HV.out] at HI
 obtain ⟨W,hW⟩:∃ W,W = w.alloc (.cells (i32s marksL) 209):=⟨_,rfl⟩
 have HM:Hid (Calls Tryz.prog 141 #[] w fun e w'=>e = .returned (.slice (some ⟨w.heap.size,0,none⟩) 28 28)∧W = w'):=hid ((rMarks w).mono (fun e w' ⟨a,b⟩=>⟨a,by rw [hW,b]⟩))
 rw [←hW] at HB HI
 clear hW HV
 go_enter Tryz.func105,Tryz.ntmps105
 go_wp2_with (first | (go_at_call 141;(with_reducible refine HM.out.mono ?_);rintro e w' ⟨rfl,rfl⟩) | (go_at_call 140;(with_reducible refine HI.out.mono ?_);rintro e w' ⟨rfl,rfl⟩))
 go_ret
 exact ⟨rfl,HB.out⟩
theorem rWide (r:Int) (w:World):Calls Tryz.prog 106 #[.int .i32 r] w fun e w'=>e = .returned (.bool (!mrk r && wid r))∧Below w.heap.size w w':=by
 have HMK:=hid (rMark r w)
 have HI:=hid (fun W:World=>rin W.heap.size 51 widesL (by decide) (by omega) r (W.alloc (.cells (i32s widesL) 209)) (heap_alloc_new _ _))
 have HV:=hid (show inR widesL r = wid r from rfl)
 rw [HV.out] at HI
 obtain ⟨M,hM⟩:∃ M,M = mrk r:=⟨_,rfl⟩
 obtain ⟨D,hD⟩:∃ M,M = wid r:=⟨_,rfl⟩
 rw [←hM] at HMK ⊢
 rw [←hD] at HI ⊢
 clear hM hD HV
 cases M
 ·go_enter Tryz.func106,Tryz.ntmps106
  go_wp2_with (first | (go_at_call 105;fail))
  go_at_call 105
  refine HMK.out.mono ?_
  rintro e w1 ⟨rfl,hb1⟩
  have HB1:=hid hb1
  have HB2:=hid (hb1.alloc hb1.size (.cells (i32s widesL) 209))
  have HI1:=hid (HI.out w1)
  obtain ⟨W,hW⟩:∃ W,W = w1.alloc (.cells (i32s widesL) 209):=⟨_,rfl⟩
  have HM:Hid (Calls Tryz.prog 142 #[] w1 fun e w'=>e = .returned (.slice (some ⟨w1.heap.size,0,none⟩) 51 51)∧W = w'):=hid ((rWides w1).mono (fun e w' ⟨a,b⟩=>⟨a,by rw [hW,b]⟩))
  rw [←hW] at HI1 HB2
  clear hW hb1
  go_wp2_with (first | (go_at_call 142;(with_reducible refine HM.out.mono ?_);rintro e w' ⟨rfl,rfl⟩) | (go_at_call 140;(with_reducible refine HI1.out.mono ?_);rintro e w' ⟨rfl,rfl⟩))
  go_ret
  exact ⟨by simp,HB2.out⟩
 ·go_enter Tryz.func106,Tryz.ntmps106
  go_wp2_with (first | (go_at_call 105;fail))
  go_at_call 105
  refine HMK.out.mono ?_
  rintro e w1 ⟨rfl,hb1⟩
  have HB1:=hid hb1
  clear hb1
  go_wp2
  go_ret
  exact ⟨by simp,HB1.out⟩
theorem rOf (r:Int) (w:World):Calls Tryz.prog 80 #[.int .i32 r] w fun e w'=>e = .returned (.int .i64 (ofW r))∧Below w.heap.size w w':=by
 have HM:=hid (fun W=>rMark r W)
 have HWD:=hid (fun W=>rWide r W)
 have HS:=hid (rIs2 r)
 have HC:=hid (rCtl r)
 have HV:=hid (show ofW r = if isR r = false∨ctl r = true∨mrk r = true then 0 else if wid r = true then 2 else 1 from rfl)
 obtain ⟨V,hV⟩:∃ V,V = ofW r:=⟨_,rfl⟩
 obtain ⟨I,hI⟩:∃ V,V = isR r:=⟨_,rfl⟩
 obtain ⟨C,hC⟩:∃ V,V = ctl r:=⟨_,rfl⟩
 obtain ⟨M,hM⟩:∃ V,V = mrk r:=⟨_,rfl⟩
 obtain ⟨D,hD⟩:∃ V,V = wid r:=⟨_,rfl⟩
 rw [←hV,←hI,←hC,←hM,←hD] at HV
 rw [←hV]
 rw [←hI] at HS
 rw [←hC] at HC
 rw [←hM] at HM
 rw [←hM,←hD] at HWD
 clear hV hI hC hM hD
 cases I
 ·have HR:Hid (V = 0):=hid (by rw [HV.out];simp)
  clear HV
  go_enter Tryz.func80,Tryz.ntmps80
  go_wp2_with (first | (go_at_call 103;(with_reducible refine (HS.out _).mono ?_);rintro e w' ⟨rfl,rfl⟩))
  go_ret
  exact ⟨by rw [HR.out];rfl,Below.refl _ _⟩
 ·cases C
  ·cases M
   ·have HR:Hid (V = if D = true then 2 else 1):=hid (by rw [HV.out];simp)
    clear HV
    go_enter Tryz.func80,Tryz.ntmps80
    go_wp2_with (first | (go_at_call 103;(with_reducible refine (HS.out _).mono ?_);rintro e w' ⟨rfl,rfl⟩) | (go_at_call 104;(with_reducible refine (HC.out _).mono ?_);rintro e w' ⟨rfl,rfl⟩) | (go_at_call 105;fail))
    go_at_call 105
    refine (HM.out _).mono ?_
    rintro e w1 ⟨rfl,hb1⟩
    have HB1:=hid hb1
    clear hb1
    go_wp2_with (first | (go_at_call 106;fail))
    go_at_call 106
    refine (HWD.out _).mono ?_
    rintro e w2 ⟨rfl,hb2⟩
    have HB2:=hid (HB1.out.trans (below_le hb2 HB1.out.size))
    clear hb2
    cases D
    ·go_wp2
     go_ret
     exact ⟨by rw [HR.out];rfl,HB2.out⟩
    ·go_wp2
     go_ret
     exact ⟨by rw [HR.out];rfl,HB2.out⟩
   ·have HR:Hid (V = 0):=hid (by rw [HV.out];simp)
    clear HV
    go_enter Tryz.func80,Tryz.ntmps80
    go_wp2_with (first | (go_at_call 103;(with_reducible refine (HS.out _).mono ?_);rintro e w' ⟨rfl,rfl⟩) | (go_at_call 104;(with_reducible refine (HC.out _).mono ?_);rintro e w' ⟨rfl,rfl⟩) | (go_at_call 105;fail))
    go_at_call 105
    refine (HM.out _).mono ?_
    rintro e w1 ⟨rfl,hb1⟩
    have HB1:=hid hb1
    clear hb1
    go_wp2
    go_ret
    exact ⟨by rw [HR.out];rfl,HB1.out⟩
  ·have HR:Hid (V = 0):=hid (by rw [HV.out];simp)
   clear HV
   go_enter Tryz.func80,Tryz.ntmps80
   go_wp2_with (first | (go_at_call 103;(with_reducible refine (HS.out _).mono ?_);rintro e w' ⟨rfl,rfl⟩) | (go_at_call 104;(with_reducible refine (HC.out _).mono ?_);rintro e w' ⟨rfl,rfl⟩))
   go_ret
   exact ⟨by rw [HR.out];rfl,Below.refl _ _⟩
theorem rMark3 (r:Int) (w:World):Calls Tryz.prog 81 #[.int .i32 r] w fun e w'=>e = .returned (.bool (isMk r))∧Below w.heap.size w w':=by
 have HO:=hid (rOf r w)
 have HS:=hid (rIs r)
 have HC:=hid (rCtl3 r)
 have HV:=hid (show isMk r = (decide (ofW r = 0) && !ctl r && isR r) from rfl)
 obtain ⟨V,hV⟩:∃ V,V = isMk r:=⟨_,rfl⟩
 obtain ⟨O,hO⟩:∃ V,V = ofW r:=⟨_,rfl⟩
 obtain ⟨I,hI⟩:∃ V,V = isR r:=⟨_,rfl⟩
 obtain ⟨C,hC⟩:∃ V,V = ctl r:=⟨_,rfl⟩
 rw [←hV,←hO,←hI,←hC] at HV
 rw [←hV]
 rw [←hO] at HO
 rw [←hI] at HS
 rw [←hC] at HC
 clear hV hO hI hC
 by_cases h0:O = 0
 ·subst h0
  cases I
  ·have HR:Hid (V = false):=hid (by rw [HV.out];simp)
   go_enter Tryz.func81,Tryz.ntmps81
   go_wp2_with (first | (go_at_call 80;fail))
   go_at_call 80
   refine HO.out.mono ?_
   rintro e w1 ⟨rfl,hb1⟩
   have HB1:=hid hb1
   clear hb1 HV
   go_wp2_with (first | (go_at_call 101;(with_reducible refine (HS.out _).mono ?_);rintro e w' ⟨rfl,rfl⟩))
   go_ret
   exact ⟨ret_bool HR.out.symm,HB1.out⟩
  ·have HR:Hid (V = !C):=hid (by rw [HV.out];simp)
   go_enter Tryz.func81,Tryz.ntmps81
   go_wp2_with (first | (go_at_call 80;fail))
   go_at_call 80
   refine HO.out.mono ?_
   rintro e w1 ⟨rfl,hb1⟩
   have HB1:=hid hb1
   clear hb1 HV
   go_wp2_with (first | (go_at_call 101;(with_reducible refine (HS.out _).mono ?_);rintro e w' ⟨rfl,rfl⟩) | (go_at_call 107;(with_reducible refine (HC.out _).mono ?_);rintro e w' ⟨rfl,rfl⟩))
   go_ret
   exact ⟨ret_bool HR.out.symm,HB1.out⟩
 ·have HR:Hid (V = false):=hid (by rw [HV.out,decide_eq_false h0];simp)
  have hq:(O == 0) = false:=by rw [beq_eq_false_iff_ne];exact h0
  go_enter Tryz.func81,Tryz.ntmps81
  go_wp2_with (first | (go_at_call 80;fail))
  go_at_call 80
  refine HO.out.mono ?_
  rintro e w1 ⟨rfl,hb1⟩
  have HB1:=hid hb1
  clear hb1 HV
  go_wp2
  go_ret
  exact ⟨ret_bool HR.out.symm,HB1.out⟩
end Go.Proofs.YtpcbamcelpcigaaGreat
