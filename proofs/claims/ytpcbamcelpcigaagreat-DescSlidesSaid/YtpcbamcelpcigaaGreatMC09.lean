/- Own texts, merged. -/
import Derived.WalkKit
import Derived.Test.YtpcbamcelpcigaaGreatShelfB
import Derived.BigQuiet
import Derived.Deep.QuietTactic
import Derived.Test.YtpcbamcelpcigaaGreatMC05
import Derived.Test.YtpcbamcelpcigaaGreatMC08
import Derived.Test.YtpcbamcelpcigaaGreatMC00
set_option maxRecDepth 100000
set_option maxHeartbeats 32000000
open Go.Lib (hid)
namespace Go.Proofs.YtpcbamcelpcigaaGreat
open Go.RowKit Go.Shelf
attribute [local go_sem] run_store_float
def namedP (ok : Bool) (R : List Tok → Option (Tree × List Tok)) (ts : List Tok) (x : Bs) : Option (Tree × List Tok) :=
  if x = wor ∨ x = wand ∨ x = wnot then none
  else match adv ok ts with
  | none => none
  | some r =>
    if x = wlen ∨ x = wabs then (match inside ok R r with
      | none => none
      | some (a, r') => some (one x a, r'))
    else if x = whas then hasP ok R r
    else some (.mk wname 0 x [], r)
theorem tx_ne {a b:Bs} (h:a≠b):((tx a).toList == b) = false:=by rw [tx_toList];simpa using h
theorem tx_same (a:Bs):((tx a).toList == a) = true:=by rw [tx_toList];simp
theorem node_leaf (A:Nat→Prop) (w:World) (op x:Bs) (n:Nat):NodeV A w (.agg #[.string (tx op),.float .f64 n,.string (tx x),.slice none 0 0]) (.mk op n x []):=
 ⟨none,0,rfl,Nat.le_refl _,fun _=>rfl,fun a ha=>by cases ha⟩
theorem wnamed_bad (V:Bs→Nat) (s:Bs) (ok:Bool) (n:Nat) (x:Bs) (hx:x = wor∨x = wand∨x = wnot) (r:Nat) (ts:List Tok) (w:World) (hst:St r s ok ts w) :
  Calls Tryz.prog 212 #[.pointer (some ⟨r,0,none⟩),.string (tx x)] w (PEnd r s ok (namedP ok (P V ok n .or) ts x) w):=by
 have HI:=hid (RI.start (v0:=.string ⟨#[]⟩) (v1:=.float .f64 0) (v2:=.string ⟨#[]⟩) (v3:=.slice none 0 0) hst)
 have HV:Hid (namedP ok (P V ok n .or) ts x = none):=hid (by unfold namedP;rw [if_pos hx])
 rw [HV.out]
 clear hst HV
 rcases hx with rfl | rfl | rfl
 ·have b1:=tx_same wor
  unfold wor at b1 ⊢
  generalize tx [111,114] = T at b1 ⊢
  go_enter Tryz.func212,Tryz.ntmps212
  go_wp2
  exact ⟨rfl,HI.out.bt,.inl ⟨rfl,rfl⟩⟩
 ·have b1:=tx_same wand
  have b2:((tx wand).toList == [111,114]) = false:=tx_ne (by decide)
  unfold wand at b1 b2 ⊢
  generalize tx [97,110,100] = T at b1 b2 ⊢
  go_enter Tryz.func212,Tryz.ntmps212
  go_wp2
  exact ⟨rfl,HI.out.bt,.inl ⟨rfl,rfl⟩⟩
 ·have b1:=tx_same wnot
  have b2:((tx wnot).toList == [111,114]) = false:=tx_ne (by decide)
  have b3:((tx wnot).toList == [97,110,100]) = false:=tx_ne (by decide)
  unfold wnot at b1 b2 b3 ⊢
  generalize tx [110,111,116] = T at b1 b2 b3 ⊢
  go_enter Tryz.func212,Tryz.ntmps212
  go_wp2
  exact ⟨rfl,HI.out.bt,.inl ⟨rfl,rfl⟩⟩
theorem wnamed_name (V:Bs→Nat) (s:Bs) (ok:Bool) (hs:s.length≤1000000) (n:Nat) (x:Bs) (hx:x≠wor∧x≠wand∧x≠wnot∧x≠wlen∧x≠wabs∧x≠whas) (r:Nat) (ts:List Tok) (w:World) (hne:ts≠[]) (hst:St r s ok ts w) :
  Calls Tryz.prog 212 #[.pointer (some ⟨r,0,none⟩),.string (tx x)] w (PEnd r s ok (namedP ok (P V ok n .or) ts x) w):=by
 have HI:=hid (RI.start (v0:=.string ⟨#[]⟩) (v1:=.float .f64 0) (v2:=.string ⟨#[]⟩) (v3:=.slice none 0 0) hst)
 have HV:Hid (namedP ok (P V ok n .or) ts x = match adv ok ts with | none=>none | some r=>some (.mk wname 0 x [],r)):=hid (by
  unfold namedP
  rw [if_neg (fun h=>h.elim hx.1 (fun h=>h.elim hx.2.1 hx.2.2.1))]
  cases adv ok ts with
  | none=>rfl
  | some r=>simp only;rw [if_neg (fun h=>h.elim hx.2.2.2.1 hx.2.2.2.2.1),if_neg hx.2.2.2.2.2])
 obtain ⟨res,hres⟩:∃ y,y = namedP ok (P V ok n .or) ts x:=⟨_,rfl⟩
 rw [←hres] at HV ⊢
 have HA:=hid (fun W h=>wadv r s ok ts hs hne W h)
 have b1:((tx x).toList == [111,114]) = false:=tx_ne hx.1
 have b2:((tx x).toList == [97,110,100]) = false:=tx_ne hx.2.1
 have b3:((tx x).toList == [110,111,116]) = false:=tx_ne hx.2.2.1
 have b4:((tx x).toList == [108,101,110]) = false:=tx_ne hx.2.2.2.1
 have b5:((tx x).toList == [97,98,115]) = false:=tx_ne hx.2.2.2.2.1
 have b6:((tx x).toList == [104,97,115]) = false:=tx_ne hx.2.2.2.2.2
 clear hst hres hx hne hs
 go_enter Tryz.func212,Tryz.ntmps212
 go_wp2_with (first | (go_at_call 95;fail))
 clear b1 b2 b3 b4 b5 b6
 generalize w.alloc (.cells #[.string ⟨#[]⟩,.float .f64 0,.string ⟨#[]⟩,.slice none 0 0] 87) = W0 at HI ⊢
 refine (HA.out W0 HI.out.st).mono ?_
 rintro e w3 ⟨hb3,⟨h1,rfl⟩ | ⟨t1,h1,rfl,hst3⟩⟩
 ·have HB:=hid (And.intro hb3 h1)
  clear hb3 h1
  go_wp2
  exact ⟨rfl,HI.out.bt.trans HB.out.1,.inl ⟨by rw [HV.out,HB.out.2],rfl⟩⟩
 have HI3:=hid (HI.out.but hb3 hst3)
 have HT:=hid h1
 obtain ⟨z0,z1,z2,z3,hz⟩:=HI3.out.res
 have HZ:=hid hz
 obtain ⟨b0,b1,b2,b3,bf⟩:=hz.cells
 have f0:=bf 0
 have f1:=bf 1
 have f2:=bf 2
 have f3:=bf 3
 clear hz bf hb3 h1 hst3
 go_wp2
 rw [HV.out,HT.out]
 exact bodyPost_ret (node_res rfl _ _ w.heap.size _ _ _ _ rfl HZ.out.put.heap) rfl (RI.done HI3.out (node_leaf _ _ wname x 0))
end Go.Proofs.YtpcbamcelpcigaaGreat
namespace Go.Proofs.YtpcbamcelpcigaaGreat
open Go.RowKit Go.Shelf
theorem rwithin (n lo hi:Int) (w:World):Calls Tryz.prog 33 #[.int .i64 n,.int .i64 lo,.int .i64 hi] w fun e w'=>e = .returned (.bool (decide (lo≤n∧n≤hi)))∧w = w':=by
 by_cases a:lo≤n
 ·by_cases b:n≤hi
  ·have h:decide (lo≤n∧n≤hi) = true:=by simp [a,b]
   have h1:decide (lo≤n) = true:=by simp [a]
   have h2:decide (n≤hi) = true:=by simp [b]
   rw [h]
   clear h
   go_enter Tryz.func33,Tryz.ntmps33
   go_wp2
   go_ret
   exact ⟨rfl,rfl⟩
  ·have h:decide (lo≤n∧n≤hi) = false:=by simp [b]
   have h1:decide (lo≤n) = true:=by simp [a]
   have h2:decide (n≤hi) = false:=by simp [b]
   rw [h]
   clear h
   go_enter Tryz.func33,Tryz.ntmps33
   go_wp2
   go_ret
   exact ⟨rfl,rfl⟩
 ·have h:decide (lo≤n∧n≤hi) = false:=by simp [a]
  have h1:decide (lo≤n) = false:=by simp [a]
  rw [h]
  clear h
  go_enter Tryz.func33,Tryz.ntmps33
  go_wp2
  go_ret
  exact ⟨rfl,rfl⟩
theorem sign_cases (c:UInt8) :
  (¬ 97≤(c.toNat:Int)∧(c.toNat:Int)≤122∧¬ 48≤(c.toNat:Int)∧(c.toNat:Int)≤57∧((c.toNat:Int) == 95) = false∧ltrA c = false∧othA c = false)∨
  (¬ 97≤(c.toNat:Int)∧(c.toNat:Int)≤122∧48≤(c.toNat:Int)∧(c.toNat:Int)≤57∧((c.toNat:Int) == 95) = false∧ltrA c = false∧othA c = true)∨
  (¬ 97≤(c.toNat:Int)∧(c.toNat:Int)≤122∧48≤(c.toNat:Int)∧¬ (c.toNat:Int)≤57∧((c.toNat:Int) == 95) = false∧ltrA c = false∧othA c = false)∨
  (¬ 97≤(c.toNat:Int)∧(c.toNat:Int)≤122∧48≤(c.toNat:Int)∧¬ (c.toNat:Int)≤57∧((c.toNat:Int) == 95) = true∧ltrA c = false∧othA c = true)∨
  (97≤(c.toNat:Int)∧(c.toNat:Int)≤122∧48≤(c.toNat:Int)∧¬ (c.toNat:Int)≤57∧((c.toNat:Int) == 95) = false∧ltrA c = true∧othA c = false)∨
  (97≤(c.toNat:Int)∧¬ (c.toNat:Int)≤122∧48≤(c.toNat:Int)∧¬ (c.toNat:Int)≤57∧((c.toNat:Int) == 95) = false∧ltrA c = false∧othA c = false):=by
 unfold ltrA othA
 by_cases h1:c.toNat < 48
 ·refine .inl ⟨by omega,by omega,by omega,by omega,by simp;omega,by simp;omega,by simp;omega⟩
 by_cases h2:c.toNat≤57
 ·refine .inr (.inl ⟨by omega,by omega,by omega,by omega,by simp;omega,by simp;omega,by simp;omega⟩)
 by_cases h3:c.toNat = 95
 ·refine .inr (.inr (.inr (.inl ⟨by omega,by omega,by omega,by omega,by simp;omega,by simp;omega,by simp;omega⟩)))
 by_cases h4:c.toNat < 97
 ·refine .inr (.inr (.inl ⟨by omega,by omega,by omega,by omega,by simp;omega,by simp;omega,by simp;omega⟩))
 by_cases h5:c.toNat≤122
 ·refine .inr (.inr (.inr (.inr (.inl ⟨by omega,by omega,by omega,by omega,by simp;omega,by simp;omega,by simp;omega⟩))))
 ·refine .inr (.inr (.inr (.inr (.inr ⟨by omega,by omega,by omega,by omega,by simp;omega,by simp;omega,by simp;omega⟩))))
theorem kw_cases (l:Bs) :
  (l ∈ kwds∧((tx l).toList == [111,114]) = true)∨
  (l ∈ kwds∧((tx l).toList == [111,114]) = false∧((tx l).toList == [97,110,100]) = true)∨
  (l ∈ kwds∧((tx l).toList == [111,114]) = false∧((tx l).toList == [97,110,100]) = false∧((tx l).toList == [110,111,116]) = true)∨
  (l ∈ kwds∧((tx l).toList == [111,114]) = false∧((tx l).toList == [97,110,100]) = false∧((tx l).toList == [110,111,116]) = false∧((tx l).toList == [108,101,110]) = true)∨
  (l ∈ kwds∧((tx l).toList == [111,114]) = false∧((tx l).toList == [97,110,100]) = false∧((tx l).toList == [110,111,116]) = false∧((tx l).toList == [108,101,110]) = false∧((tx l).toList == [104,97,115]) = true)∨
  (l ∈ kwds∧((tx l).toList == [111,114]) = false∧((tx l).toList == [97,110,100]) = false∧((tx l).toList == [110,111,116]) = false∧((tx l).toList == [108,101,110]) = false∧((tx l).toList == [104,97,115]) = false∧((tx l).toList == [97,98,115]) = true)∨
  (l ∉ kwds∧((tx l).toList == [111,114]) = false∧((tx l).toList == [97,110,100]) = false∧((tx l).toList == [110,111,116]) = false∧((tx l).toList == [108,101,110]) = false∧((tx l).toList == [104,97,115]) = false∧((tx l).toList == [97,98,115]) = false):=by
 by_cases e0:l = [111,114]
 ·exact .inl ⟨by rw [e0];decide,by rw [e0];exact tx_same _⟩
 by_cases e1:l = [97,110,100]
 ·exact .inr (.inl ⟨by rw [e1];decide,tx_ne e0,by rw [e1];exact tx_same _⟩)
 by_cases e2:l = [110,111,116]
 ·exact .inr (.inr (.inl ⟨by rw [e2];decide,tx_ne e0,tx_ne e1,by rw [e2];exact tx_same _⟩))
 by_cases e3:l = [108,101,110]
 ·exact .inr (.inr (.inr (.inl ⟨by rw [e3];decide,tx_ne e0,tx_ne e1,tx_ne e2,by rw [e3];exact tx_same _⟩)))
 by_cases e4:l = [104,97,115]
 ·exact .inr (.inr (.inr (.inr (.inl ⟨by rw [e4];decide,tx_ne e0,tx_ne e1,tx_ne e2,tx_ne e3,by rw [e4];exact tx_same _⟩))))
 by_cases e5:l = [97,98,115]
 ·exact .inr (.inr (.inr (.inr (.inr (.inl ⟨by rw [e5];decide,tx_ne e0,tx_ne e1,tx_ne e2,tx_ne e3,tx_ne e4,by rw [e5];exact tx_same _⟩)))))
 ·exact .inr (.inr (.inr (.inr (.inr (.inr ⟨by simp [kwds,e0,e1,e2,e3,e4,e5],tx_ne e0,tx_ne e1,tx_ne e2,tx_ne e3,tx_ne e4,tx_ne e5⟩)))))
theorem name_len {l:Bs} (h:decide (1≤l.length∧l.length≤16) = false):nameP l = false:=by unfold nameP;rw [h];rfl
theorem name_bad {l:Bs} {i:Nat} (hi:i < l.length) (h:signA l i = false):nameP l = false:=by
 unfold nameP
 have:(List.range l.length).all (signA l) = false:=by rw [List.all_eq_false];exact ⟨i,List.mem_range.2 hi,by rw [h];simp⟩
 rw [this];simp
theorem name_end {l:Bs} (h0:decide (1≤l.length∧l.length≤16) = true) (h:∀ i,i < l.length→signA l i = true):nameP l = decide (l ∉ kwds):=by
 unfold nameP
 have:(List.range l.length).all (signA l) = true:=by rw [List.all_eq_true];exact fun i hi=>h i (List.mem_range.1 hi)
 rw [this,h0];simp
theorem dName (l : Bs) (w : World) : Calls Tryz.prog 16 #[.string (tx l)] w fun e w' => e = .returned (.bool (nameP l)) ∧ w = w' := by
  have HS := hid (tx_size' l)
  have HT := hid (fun i (hi : i < l.length) => tx_at l i hi)
  have HW : Hid (∀ W, Calls Tryz.prog 27 #[.int .i64 ((tx l).size : Nat), .int .i64 1, .int .i64 16] W fun e w' => e = .returned (.bool (decide (1 ≤ l.length ∧ l.length ≤ 16))) ∧ W = w') := hid (fun W => by
    have h := dwithin ((tx l).size : Nat) 1 16 W
    rw [tx_size'] at h ⊢
    rw [show decide (1 ≤ l.length ∧ l.length ≤ 16) = decide ((1 : Int) ≤ (l.length : Int) ∧ (l.length : Int) ≤ 16) from by rw [decide_eq_decide]; omega]
    exact h)
  cases hd : decide (1 ≤ l.length ∧ l.length ≤ 16)
  · rw [hd] at HW
    rw [name_len hd]
    clear hd
    go_enter Tryz.func16, Tryz.ntmps16
    go_wp2_with (first | (go_at_call 27; refine (HW.out _).mono ?_; rintro e w1 ⟨rfl, rfl⟩))
    go_ret
    exact ⟨rfl, rfl⟩
  · rw [hd] at HW
    have HBAD := hid (fun i (hi : i < l.length) (h : signA l i = false) => name_bad hi h)
    have HEND := hid (fun (h : ∀ i, i < l.length → signA l i = true) => name_end hd h)
    have HLN : Hid (l.length ≤ 16) := hid (by simp at hd; omega)
    obtain ⟨R, hR⟩ : ∃ R, R = nameP l := ⟨_, rfl⟩
    rw [← hR] at HBAD HEND ⊢
    clear hd hR
    go_enter Tryz.func16, Tryz.ntmps16
    go_wp2_with (first | (go_at_call 27; refine (HW.out _).mono ?_; rintro e w1 ⟨rfl, rfl⟩))
    go_loop [3] (fun i => ∃ j : Nat, i = .int .i64 j ∧ j ≤ l.length ∧ Hid (∀ i, i < j → signA l i = true)) (fun i => l.length - (intOf i).toNat)
    case atStart => exact ⟨0, rfl, Nat.zero_le _, hid (fun i hi => absurd hi (by omega))⟩
    case round =>
      obtain ⟨j, rfl, hj, hc⟩ := hrel
      have jl : j ≤ 1000000 := by have := HLN.out; omega
      by_cases q1 : j < (tx l).size
      · have q1' : j < l.length := by have := HS.out; omega
        have hx := HT.out j q1'
        obtain ⟨c, hcd⟩ : ∃ c, c = l.getD j 0 := ⟨_, rfl⟩
        rw [← hcd] at hx
        have HSG : Hid (signA l j = (ltrA c || (decide (j ≠ 0) && othA c))) := hid (by unfold signA; rw [← hcd])
        clear hcd
        by_cases j0 : j = 0
        · subst j0
          rcases sign_cases c with ⟨t1, t2, t3, t4, t5, ha, hb⟩ | ⟨t1, t2, t3, t4, t5, ha, hb⟩ | ⟨t1, t2, t3, t4, t5, ha, hb⟩ | ⟨t1, t2, t3, t4, t5, ha, hb⟩ | ⟨t1, t2, t3, t4, t5, ha, hb⟩ | ⟨t1, t2, t3, t4, t5, ha, hb⟩
          all_goals rw [ha, hb] at HSG; clear ha hb
          case inr.inr.inr.inr.inl =>
            have HN := hid (fun i (hi : i < 0 + 1) => show signA l i = true from by obtain rfl : i = 0 := (by omega); exact HSG.out)
            go_wp2
            go_round
            case rel => exact ⟨1, by go_num, by omega, hid HN.out⟩
            case measure => simp [intOf]; omega
          all_goals
            have HR : Hid (R = false) := hid (HBAD.out 0 q1' HSG.out)
            clear HBAD
            go_wp2
            go_ret
            exact ⟨ret_bool HR.out.symm, rfl⟩
        · have hj0 : ((j : Int) == 0) = false := by simpa using (show ¬ ((j : Int) = 0) by omega)
          rw [decide_eq_true j0] at HSG
          clear j0
          rcases sign_cases c with ⟨t1, t2, t3, t4, t5, ha, hb⟩ | ⟨t1, t2, t3, t4, t5, ha, hb⟩ | ⟨t1, t2, t3, t4, t5, ha, hb⟩ | ⟨t1, t2, t3, t4, t5, ha, hb⟩ | ⟨t1, t2, t3, t4, t5, ha, hb⟩ | ⟨t1, t2, t3, t4, t5, ha, hb⟩
          all_goals rw [ha, hb] at HSG; clear ha hb
          all_goals
            first
              | (have HSG2 : Hid (signA l j = false) := hid HSG.out
                 have HR : Hid (R = false) := hid (HBAD.out j q1' HSG2.out)
                 clear HBAD
                 go_wp2
                 go_ret
                 exact ⟨ret_bool HR.out.symm, rfl⟩)
              | (have HN := hid (fun i (hi : i < j + 1) => show signA l i = true from by
                   rcases Nat.lt_or_ge i j with z | z
                   · exact hc.out i z
                   · obtain rfl : i = j := (by omega)
                     exact HSG.out)
                 go_wp2
                 go_round
                 case rel => exact ⟨j + 1, by go_num, by omega, hid HN.out⟩
                 case measure => simp [intOf]; omega)
      · have HR := hid (HEND.out (fun i hi => hc.out i (by have := HS.out; omega)))
        clear HEND HBAD
        rcases kw_cases l with ⟨hk, b1⟩ | ⟨hk, b1, b2⟩ | ⟨hk, b1, b2, b3⟩ | ⟨hk, b1, b2, b3, b4⟩ | ⟨hk, b1, b2, b3, b4, b5⟩ | ⟨hk, b1, b2, b3, b4, b5, b6⟩ | ⟨hk, b1, b2, b3, b4, b5, b6⟩
        case inr.inr.inr.inr.inr.inr =>
          have HR2 : Hid (R = true) := hid (by rw [HR.out]; simpa using hk)
          clear hk HR
          go_wp2
          go_ret
          exact ⟨ret_bool HR2.out.symm, rfl⟩
        all_goals
          have HR2 : Hid (R = false) := hid (by rw [HR.out]; simpa using hk)
          clear hk HR
          go_wp2
          go_ret
          exact ⟨ret_bool HR2.out.symm, rfl⟩
end Go.Proofs.YtpcbamcelpcigaaGreat
namespace Go.Proofs.YtpcbamcelpcigaaGreat
open Go.RowKit Go.Shelf Go.Lib
def TxV (W:World) (v:Value) (L:List Bs):Prop:=L.length≤1000000∧(v = .slice none 0 0∧L = []∨∃ g o c,v = .slice (some ⟨g,o,none⟩) L.length c∧L.length≤c∧g < W.heap.size∧∀ i,i < L.length→W.cell? ⟨g,o + i,none⟩ = some (.string (tx (L.getD i []))))
theorem TxV.old {W:World} {v:Value} {L:List Bs} (h:TxV W v L):∃ x c,v = .slice x L.length c∧L.length≤c∧L.length≤1000000∧(L≠[]→∃ g o,x = some ⟨g,o,none⟩∧g < W.heap.size∧∀ i,i < L.length→W.cell? ⟨g,o + i,none⟩ = some (.string (tx (L.getD i [])))):=by
 obtain ⟨h1,⟨rfl,rfl⟩ | ⟨g,o,c,rfl,h2,h3,h4⟩⟩:=h
 ·exact ⟨none,0,rfl,Nat.le_refl _,by simp,fun h=>absurd rfl h⟩
 ·exact ⟨_,c,rfl,h2,h1,fun _=>⟨g,o,rfl,h3,h4⟩⟩
theorem TxV.below {W W':World} {v:Value} {L:List Bs} (h:TxV W v L) (hB:Below W.heap.size W W'):TxV W' v L:=by
 obtain ⟨h1,⟨rfl,rfl⟩ | ⟨g,o,c,rfl,h2,h3,h4⟩⟩:=h
 ·exact ⟨h1,.inl ⟨rfl,rfl⟩⟩
 ·exact ⟨h1,.inr ⟨g,o,c,rfl,h2,Nat.lt_of_lt_of_le h3 hB.size,fun i hi=>(hB.cell (p:=⟨g,o + i,none⟩) h3).trans (h4 i hi)⟩⟩
theorem TxV.nil (W:World):TxV W (.slice none 0 0) []:=⟨by simp,.inl ⟨rfl,rfl⟩⟩
theorem TxV.of_row {W:World} {b:Nat} {v:Value} {L:List Bs} (h:W.ownsRow b 9 1 v L.length (strs L)) (hL:L.length≤1000000):TxV W v L:=by
 have hcl:=fun g (hg:v.ownBlock = some g)=>h.cells hg
 rcases h.2 with ⟨hv,h0⟩ | ⟨g,cap,cur,hv,_,hg,hnc,_⟩
 ·exact ⟨hL,.inl ⟨hv,List.length_eq_zero_iff.1 h0⟩⟩
 ·subst hv
  refine ⟨hL,.inr ⟨g,0,cap,rfl,hnc,(Array.getElem?_eq_some_iff.1 hg).1,fun i hi=>?_⟩⟩
  rw [Nat.zero_add,h.cellAt i (by omega),strs,List.getElem?_map,List.getElem?_eq_getElem hi,List.getD_eq_getElem?_getD,List.getElem?_eq_getElem hi]
  rfl
theorem wclone {W : World} {x : Option Addr} {c : Nat} {L : List Bs} (h : TxV W (.slice x L.length c) L) (hL : L.length ≤ 1000) : Calls Tryz.prog 87 #[.slice x L.length c] W fun e w' => ∃ y cap, e = .returned (.slice y L.length cap) ∧ w'.ownsRow W.heap.size 9 1 (.slice y L.length cap) L.length (strs L) ∧ Below W.heap.size W w' := by
  by_cases h0 : L = []
  · subst h0
    cases x with
    | none =>
      refine (Tryz.slices_Clone_string_nil 0 c W).mono ?_
      rintro e w' ⟨rfl, rfl⟩
      exact ⟨none, 0, rfl, World.ownsRow_nil _ _ _ _, Below.refl _ _⟩
    | some a =>
      refine (Tryz.slices_Clone_string_zero a c W).mono ?_
      rintro e w' ⟨v, rfl, hv, _, hb⟩
      obtain ⟨y, cap, rfl⟩ := ownsRow_is hv
      exact ⟨y, cap, rfl, hv, hb⟩
  · obtain ⟨x', c', he, hc, _, hg⟩ := h.old
    obtain ⟨rfl, rfl⟩ : x = x' ∧ c = c' := by simpa using he
    obtain ⟨g, o, rfl, hgl, hget⟩ := hg h0
    refine (Tryz.slices_Clone_string g o L.length c (L.map tx) W (by simp) (by omega) (fun j hj => ?_)).mono ?_
    · have hj' : j < L.length := by simpa using hj
      rw [hget j hj', List.getD_eq_getElem?_getD, List.getD_eq_getElem?_getD, List.getElem?_map, List.getElem?_eq_getElem hj']
      rfl
    · rintro e w' ⟨v, rfl, hv, _, hb⟩
      obtain ⟨y, cap, rfl⟩ := ownsRow_is hv
      refine ⟨y, cap, rfl, ?_, hb⟩
      have e1 : ((L.map tx).take L.length).map Value.string = strs L := by simp [strs, List.take_of_length_le]
      rw [e1] at hv
      exact hv
theorem sorted_below {W wc:World} {B q n:Nat} {T:Array Bs} {os:Array Obj} (hb:Below B W wc) (hB:B≤W.heap.size) (hq:B≤q):Below B W (Sort.grow (Sort.putRow encStr (Sort.ahead wc n) q 0 T) os):=by
 refine hb.trans ⟨rfl,rfl,rfl,by simp,fun k hk=>?_⟩
 rw [Sort.heap_grow_old _ _ (by have:=hb.size;simp;omega)]
 simp only [Sort.putRow,Sort.mapBlock,Sort.heap_ahead,Array.getElem?_modify]
 rw [if_neg (by omega)]
theorem sorted_cells {wc:World} {q n:Nat} {L T:List Bs} {os:Array Obj} (hH:Sort.Holds encStr wc q 0 L.toArray) (hq:q < wc.heap.size) (hl:T.length = L.length) (j:Nat) (hj:j < T.length) :
  (Sort.grow (Sort.putRow encStr (Sort.ahead wc n) q 0 T.toArray) os).cell? ⟨q,j,none⟩ = some (.string (tx (T.getD j []))):=by
 rw [Sort.cell?_grow _ _ _ (by simpa using hq)]
 have:=Sort.cell?_putRow encStr (Sort.ahead wc n) q 0 L.toArray T.toArray hH (by simpa using hl) j (by simpa using hj)
 rw [Nat.zero_add] at this
 rw [this,List.getD_eq_getElem?_getD,List.getElem?_eq_getElem hj]
 rw [getElem!_pos _ _ (by simpa using hj)]
 rfl
theorem holds_of_row {W:World} {base q cap:Nat} {L:List Bs} (h:W.ownsRow base 9 1 (.slice (some ⟨q,0,none⟩) L.length cap) L.length (strs L)):Sort.Holds encStr W q 0 L.toArray:=by
 have h2:=h.2
 rcases h2 with ⟨hv,h0⟩ | ⟨g,cap',cur,hv,_,hg,hnc,_,hcs,_⟩
 ·simp at hv
 ·obtain ⟨rfl,rfl⟩:q = g∧cap = cap':=by simpa using hv
  intro j hj
  have hj':j < L.length:=by simpa using hj
  have h3:=h.cellAt j (by omega)
  rw [Nat.zero_add]
  refine ⟨?_,by simp [World.frozen?,hg]⟩
  rw [getElem!_pos L.toArray j hj,h3,strs,List.getElem?_map,List.getElem?_eq_getElem hj']
  rfl
theorem wsort {W:World} {base cap:Nat} {y:Option Addr} {D:List Bs} (h:W.ownsRow base 9 1 (.slice y D.length cap) D.length (strs D)) (hD:D.length≤1000) (hb0:base≤W.heap.size) :
  Calls Tryz.prog 88 #[.slice y D.length cap] W fun e w'=>e = .returned (.tuple #[])∧Below base W w'∧∀ j,j < D.length→∃ q,y = some ⟨q,0,none⟩∧D.length≤cap∧w'.cell? ⟨q,j,none⟩ = some (.string (tx ((D.mergeSort fun x y=>decide (x≤y)).getD j []))):=by
 by_cases h0:D = []
 ·subst h0
  refine (Tryz.slices_Sort_string_none y cap W).mono ?_
  rintro e w' ⟨rfl,rfl⟩
  exact ⟨rfl,Below.refl _ _,fun j hj=>by simp at hj⟩
 ·have hp:0 < D.length:=List.length_pos_iff.2 h0
  have hh:=h
  rcases h.2 with ⟨hv,h1⟩ | ⟨g,cap',cur,hv,hge,hg,hnc,_⟩
  ·omega
  ·obtain ⟨rfl,rfl⟩:y = some ⟨g,0,none⟩∧cap = cap':=by simpa using hv
   have hlt:g < W.heap.size:=(Array.getElem?_eq_some_iff.1 hg).1
   have hH:=holds_of_row hh
   refine (Tryz.slices_Sort_string g 0 cap D W hH hlt (by omega)).mono ?_
   rintro e w' ⟨rfl,n,os,rfl⟩
   refine ⟨rfl,sorted_below (Below.refl _ _) hb0 hge,fun j hj=>⟨g,rfl,hnc,?_⟩⟩
   exact sorted_cells hH hlt (List.mergeSort_perm D _).length_eq j (by rw [(List.mergeSort_perm D _).length_eq];exact hj)
def lexB (a b:Bs):Bool:=decide (a≤b)
def srtS (L:List Bs):List Bs:=L.mergeSort fun x y=>decide (x≤y)
theorem srt_len (L:List Bs):(srtS L).length = L.length:=(List.mergeSort_perm L _).length_eq
theorem srt_sorted (L:List Bs):(srtS L).Pairwise (fun a b=>a≤b):=by
 have h:=List.pairwise_mergeSort (le:=fun x y:Bs=>decide (x≤y)) (by
  intro a b c h1 h2
  simp only [decide_eq_true_eq] at h1 h2 ⊢
  exact List.le_trans h1 h2) (by
  intro a b
  simp only [Bool.or_eq_true,decide_eq_true_eq]
  exact List.le_total a b) L
 exact h.imp (fun h=>by simpa using h)
theorem srt_nodup (L:List Bs):(srtS L).Nodup↔L.Nodup:=(List.mergeSort_perm L _).nodup_iff
theorem nodup_adj : ∀ (S : List Bs), S.Pairwise (fun a b => a ≤ b) → (∀ i, 1 ≤ i → i < S.length → S.getD i [] ≠ S.getD (i - 1) []) → S.Nodup
  | [], _, _ => List.nodup_nil
  | [a], _, _ => by simp
  | a :: b :: r, hs, h => by
    have hs2 := List.pairwise_cons.1 hs
    have ih := nodup_adj (b :: r) hs2.2 (fun i hi hl => by
      have := h (i + 1) (by omega) (by simpa using hl)
      obtain ⟨j, rfl⟩ : ∃ j, i = j + 1 := ⟨i - 1, by omega⟩
      simpa using this)
    have hab : b ≠ a := by simpa using h 1 (by omega) (by simp)
    rw [List.nodup_cons]
    refine ⟨fun hm => ?_, ih⟩
    have h1 := hs2.1 b (by simp)
    rcases List.mem_cons.1 hm with e | e
    · exact hab e.symm
    · have h2 := (List.pairwise_cons.1 hs2.2).1 a e
      exact hab (List.le_antisymm h2 h1)
theorem adj_nodup {S:List Bs} (h:S.Nodup) {i:Nat} (h1:1≤i) (hi:i < S.length):S.getD i []≠S.getD (i - 1) []:=by
 rw [List.getD_eq_getElem?_getD,List.getD_eq_getElem?_getD,List.getElem?_eq_getElem hi,List.getElem?_eq_getElem (by omega)]
 simp only [Option.getD_some]
 intro e
 exact List.pairwise_iff_getElem.1 h (i - 1) i (by omega) hi (by omega) e.symm
theorem opts_len {L:List Bs} (h:decide (1≤L.length∧L.length≤256) = false):optsP L = false:=by unfold optsP;rw [h];rfl
theorem opts_label {L:List Bs} {i:Nat} (hi:i < L.length) (h:labelP (L.getD i []) = false):optsP L = false:=by
 unfold optsP
 have:L.all labelP = false:=by
  rw [List.all_eq_false]
  refine ⟨L[i],List.getElem_mem hi,?_⟩
  rw [List.getD_eq_getElem?_getD,List.getElem?_eq_getElem hi] at h
  simp only [Option.getD_some] at h
  rw [h];simp
 rw [this];simp
theorem opts_twin {L:List Bs} {i:Nat} (h1:1≤i) (hi:i < L.length) (h:(srtS L).getD i [] = (srtS L).getD (i - 1) []):optsP L = false:=by
 unfold optsP
 have:decide L.Nodup = false:=by
  rw [decide_eq_false_iff_not]
  intro hn
  exact adj_nodup ((srt_nodup L).2 hn) h1 (by rw [srt_len];exact hi) h
 rw [this];simp
theorem opts_end {L:List Bs} (h0:decide (1≤L.length∧L.length≤256) = true) (hl:∀ i,i < L.length→labelP (L.getD i []) = true) (ht:∀ i,1≤i→i < L.length→(srtS L).getD i []≠(srtS L).getD (i - 1) []):optsP L = true:=by
 unfold optsP
 rw [h0,Bool.true_and,Bool.and_eq_true,decide_eq_true_eq,List.all_eq_true]
 refine ⟨fun x hx=>?_,(srt_nodup L).1 (nodup_adj _ (srt_sorted L) (fun i h1 h2=>ht i h1 (by rw [srt_len] at h2;exact h2)))⟩
 obtain ⟨i,hi,rfl⟩:=List.getElem_of_mem hx
 have:=hl i hi
 rw [List.getD_eq_getElem?_getD,List.getElem?_eq_getElem hi] at this
 exact this
end Go.Proofs.YtpcbamcelpcigaaGreat
namespace Go.Proofs.YtpcbamcelpcigaaGreat
open Go.RowKit Go.Shelf
theorem doptions (L:List Bs) (hL:L.length≤1000) (hs:∀ i,i < L.length→(L.getD i []).length≤900000) (x:Option Addr) (c:Nat) (w:World) (h:TxV w (.slice x L.length c) L) :
  Calls Tryz.prog 64 #[.slice x L.length c] w fun e w'=>e = .returned (.bool (optsP L))∧Below w.heap.size w w':=by
 have HV:=hid h
 have HCL:=hid (fun (W:World) (h:TxV W (.slice x L.length c) L)=>wclone h hL)
 have HST:=hid (fun (W:World) (base:Nat) (y:Option Addr) (cap:Nat) (h:W.ownsRow base 9 1 (.slice y L.length cap) L.length (strs L)) (hb:base≤W.heap.size)=>wsort h hL hb)
 have HLB:=hid (fun i (hi:i < L.length) W=>dlabel (L.getD i []) (hs i hi) W)
 have HW:Hid (∀ W,Calls Tryz.prog 27 #[.int .i64 (L.length:Nat),.int .i64 1,.int .i64 256] W fun e w'=>e = .returned (.bool (decide (1≤L.length∧L.length≤256)))∧W = w'):=hid (fun W=>by
  have h:=dwithin (L.length:Nat) 1 256 W
  rw [show decide (1≤L.length∧L.length≤256) = decide ((1:Int)≤(L.length:Int)∧(L.length:Int)≤256) from by rw [decide_eq_decide];omega]
  exact h)
 have HOL:=hid (fun i (hi:i < L.length) (h:labelP (L.getD i []) = false)=>opts_label hi h)
 have HOT:=hid (fun i (h1:1≤i) (hi:i < L.length) (h:(srtS L).getD i [] = (srtS L).getD (i - 1) [])=>opts_twin h1 hi h)
 have HOL0:=hid (fun h=>opts_len (L:=L) h)
 have HOE:=hid (fun h=>opts_end (L:=L) h)
 obtain ⟨R,hR⟩:∃ R,R = optsP L:=⟨_,rfl⟩
 rw [←hR] at HOL HOT HOL0 HOE ⊢
 obtain ⟨n,hn⟩:∃ n,n = L.length:=⟨_,rfl⟩
 rw [←hn] at HV HCL HST HLB HW HOL HOT HOL0 HOE hL ⊢
 have HN:=hid hn
 clear hR hn h hs
 cases hd:decide (1≤n∧n≤256)
 ·rw [hd] at HW
  have HR:=hid (HOL0.out hd)
  clear hd HOL HOT HOL0 HOE
  go_enter Tryz.func64,Tryz.ntmps64
  go_wp2_with (first | (go_at_call 27;refine (HW.out _).mono ?_;rintro e w1 ⟨rfl,rfl⟩))
  go_ret
  exact ⟨ret_bool HR.out.symm,Below.refl _ _⟩
 ·rw [hd] at HW
  have HOE2:=hid (HOE.out hd)
  have hn1:1≤n∧n≤256:=by simpa using hd
  obtain ⟨xx,cc,hxc,hcap,_,hgx⟩:=HV.out.old
  have hcap2:n≤c:=by
   have e:xx = x∧c = cc:=by simp at hxc;exact ⟨hxc.1.symm,hxc.2.2⟩
   rw [e.2,HN.out];exact hcap
  obtain ⟨g,o,rfl⟩:∃ g o,x = some ⟨g,o,none⟩:=by
   have e:xx = x:=by simp at hxc;exact hxc.1.symm
   obtain ⟨g,o,h1,_⟩:=hgx (by intro e;have:=HN.out;rw [e] at this;simp at this;omega)
   exact ⟨g,o,by rw [←e];exact h1⟩
  have HG:Hid (∀ W,TxV W (.slice (some ⟨g,o,none⟩) n c) L→∀ i,i < n→W.cell? ⟨g,o + i,none⟩ = some (.string (tx (L.getD i [])))):=hid (fun W hW i hi=>by
   obtain ⟨x2,c2,he,_,_,hg⟩:=hW.old
   obtain ⟨g2,o2,h1,_,h2⟩:=hg (by intro e;have:=HN.out;rw [e] at this;simp at this;omega)
   rw [h1] at he
   obtain ⟨⟨rfl,rfl⟩,_⟩:(g = g2∧o = o2)∧c = c2:=by simp at he;exact ⟨he.1,he.2.2⟩
   exact h2 i (by rw [←HN.out];exact hi))
  clear hd HOL0 HOE hxc hcap hgx
  go_enter Tryz.func64,Tryz.ntmps64
  go_wp2_with (first | (go_at_call 27;refine (HW.out _).mono ?_;rintro e w1 ⟨rfl,rfl⟩))
  go_loopw [13] (fun i wr=>∃ k:Nat,i = .int .i64 k∧k≤n∧Hid ((∀ i,i < k→labelP (L.getD i []) = true)∧Below w.heap.size w wr)) (fun i _=>n - (intOf i).toNat)
  case atStart=>exact ⟨0,rfl,Nat.zero_le _,hid ⟨fun i hi=>absurd hi (by omega),Below.refl _ _⟩⟩
  case round=>
   obtain ⟨k,rfl,hk,HI⟩:=hrel
   by_cases hlt:k < n
   ·have ck:=HG.out wr (HV.out.below HI.out.2) k hlt
    have i1:(0:Int)≤(k:Int):=by omega
    have i2:(k:Int) < (n:Int):=by omega
    have HLK:=hid (fun W=>HLB.out k hlt W)
    have HBK:=hid (HOL.out k hlt)
    have HNK:Hid (labelP (L.getD k []) = true→∀ i,i < k + 1→labelP (L.getD i []) = true):=hid (fun hq i hi=>by
     rcases Nat.lt_or_ge i k with z | z
     ·exact HI.out.1 i z
     ·obtain rfl:i = k:=by omega
      exact hq)
    have HBW:=hid HI.out.2
    obtain ⟨T,hT⟩:∃ T,T = tx (L.getD k []):=⟨_,rfl⟩
    rw [←hT] at ck HLK
    obtain ⟨B,hB⟩:∃ B,B = labelP (L.getD k []):=⟨_,rfl⟩
    rw [←hB] at HLK HBK HNK
    clear hT hB HI HLB HOL HOT HOE2 HG HV HCL HST HW
    cases B
    ·have HR:=hid (HBK.out rfl)
     clear HBK HNK
     go_wp2_with (first | (go_at_call 28;refine (HLK.out _).mono ?_;rintro e w2 ⟨rfl,hb2⟩))
     go_ret
     exact ⟨ret_bool HR.out.symm,HBW.out.trans (below_le hb2 HBW.out.size)⟩
    ·have HN2:=hid (HNK.out rfl)
     clear HBK HNK
     go_wp2_with (first | (go_at_call 28;refine (HLK.out _).mono ?_;rintro e w2 ⟨rfl,hb2⟩))
     go_roundw
     case rel=>exact ⟨k + 1,by go_num,by omega,hid ⟨HN2.out,HBW.out.trans (below_le hb2 HBW.out.size)⟩⟩
     case measure=>simp [intOf];omega
   ·obtain rfl:k = n:=by omega
    have HLA:=hid HI.out.1
    have HBW:=hid HI.out.2
    have HVR:=hid (HV.out.below HI.out.2)
    have HCR:=hid (HCL.out wr HVR.out)
    have HOE3:=hid (HOE2.out HLA.out)
    clear HI HLB HOL HOE2 HG HV HCL HW hlt hk HLA
    go_wp2_with (first | (go_at_call 87;fail))
    go_at_call 87
    refine HCR.out.mono ?_
    rintro e w2 ⟨y,cap,rfl,ho,hb2⟩
    have HS2:=hid (HST.out w2 _ y cap ho hb2.size)
    have HB2:=hid (HBW.out.trans (below_le hb2 HBW.out.size))
    have HWR:=hid HBW.out.size
    clear HCR HST HBW HVR ho hb2
    go_wp2_with (first | (go_at_call 88;fail))
    go_at_call 88
    refine HS2.out.mono ?_
    rintro e w3 ⟨rfl,hb3,hc3⟩
    have HB3:Hid (Below w.heap.size w w3):=hid (HB2.out.trans (below_le hb3 HWR.out))
    obtain ⟨q,rfl,hcp,_⟩:=hc3 0 (by omega)
    have HC3:Hid (∀ j,j < k→w3.cell? ⟨q,j,none⟩ = some (.string (tx ((srtS L).getD j [])))):=hid (fun j hj=>by
     obtain ⟨q2,h1,_,h2⟩:=hc3 j hj
     obtain rfl:q = q2:=by simpa using h1
     exact h2)
    clear HS2 HB2 hb3 hc3 HWR
    go_wp2
    go_loopw [6] (fun i wq=>∃ j:Nat,i = .int .i64 ((j:Int) + 1)∧j + 1≤k∧Hid ((∀ i,1≤i→i < j + 1→(srtS L).getD i []≠(srtS L).getD (i - 1) [])∧Below w.heap.size w wq∧∀ j,j < k→wq.cell? ⟨q,j,none⟩ = some (.string (tx ((srtS L).getD j [])))))  (fun i _=>k - (intOf i).toNat)
    case atStart=>exact ⟨0,rfl,hn1.1,hid ⟨fun i h1 h2=>absurd h2 (by omega),HB3.out,HC3.out⟩⟩
    case round=>
     obtain ⟨j,rfl,hjk,HJ⟩:=hrel
     by_cases hlt:j + 1 < k
     ·have ca:=HJ.out.2.2 (j + 1) hlt
      have cb:=HJ.out.2.2 j (by omega)
      have HBQ:=hid HJ.out.2.1
      have HCQ:=hid HJ.out.2.2
      have HPR:=hid HJ.out.1
      obtain ⟨a,ha⟩:∃ a,a = (srtS L).getD (j + 1) []:=⟨_,rfl⟩
      obtain ⟨b,hb⟩:∃ b,b = (srtS L).getD j []:=⟨_,rfl⟩
      have HTE:=hid (tx_beq a b)
      have HTW:Hid (a = b→R = false):=hid (fun e=>HOT.out (j + 1) (by omega) hlt (by rw [Nat.add_sub_cancel,←ha,←hb];exact e))
      have HNX:Hid (a≠b→∀ i,1≤i→i < j + 1 + 1→(srtS L).getD i []≠(srtS L).getD (i - 1) []):=hid (fun hne i h1 h2=>by
       rcases Nat.lt_or_ge i (j + 1) with z | z
       ·exact HPR.out i h1 z
       ·obtain rfl:i = j + 1:=by omega
        rw [Nat.add_sub_cancel,←ha,←hb]
        exact hne)
      rw [←ha] at ca
      rw [←hb] at cb
      have HBD:Hid (∀ d,Below w.heap.size w (wr.drewN d)):=hid (fun d=>HBQ.out.trans ⟨rfl,rfl,rfl,Nat.le_refl _,fun _ _=>rfl⟩)
      generalize tx a = A at ca HTE
      generalize tx b = B at cb HTE
      have i1:(0:Int)≤(j:Int) + 1:=by omega
      have i2:(j:Int) + 1 < (k:Int):=by omega
      have i3:(0:Int)≤(j:Int):=by omega
      have i4:(j:Int) < (k:Int):=by omega
      clear HJ HC3 HB3 HOE3 HOT HPR ha hb HBQ
      by_cases hab:a = b
      ·have HR:=hid (HTW.out hab)
       have ht:=HTE.out
       rw [decide_eq_true hab] at ht
       clear hab HTW HNX HTE
       go_wp2
       go_quiet (fail)
       go_wp2
       go_ret
       exact ⟨ret_bool HR.out.symm,HBD.out _⟩
      ·have HN2:=hid (HNX.out hab)
       have ht:=HTE.out
       rw [decide_eq_false hab] at ht
       clear hab HTW HNX HTE
       go_wp2
       go_quiet (fail)
       go_wp2
       go_roundw
       case rel=>exact ⟨j + 1,by go_num,by omega,hid ⟨HN2.out,HBD.out _,fun i hi=>HCQ.out i hi⟩⟩
       case measure=>simp [intOf];omega
     ·have HR:=hid (HOE3.out (fun i h1 h2=>HJ.out.1 i h1 (by omega)))
      have HBQ:=hid HJ.out.2.1
      clear HJ HC3 HB3 HOE3 HOT
      go_wp2
      go_ret
      exact ⟨ret_bool HR.out.symm,HBQ.out⟩
end Go.Proofs.YtpcbamcelpcigaaGreat
