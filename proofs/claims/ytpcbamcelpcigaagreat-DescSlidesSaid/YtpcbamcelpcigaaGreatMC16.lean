/- Own texts, merged. -/
import Derived.WalkKit
import Derived.Defers
import Derived.Recover
import Derived.Tactics2
import Derived.Laws.Pointers
import Derived.Test.YtpcbamcelpcigaaGreatMC15
import Derived.Test.YtpcbamcelpcigaaGreatMC00
set_option maxRecDepth 100000
set_option maxHeartbeats 32000000
open Go.Lib (hid)
namespace Go.Proofs.YtpcbamcelpcigaaGreat
open Go.RowKit Go.Shelf
attribute [local go_sem] run_store_float
theorem P_atom (V:Bs→Nat) (ok:Bool) (n:Nat) (t:Tok) (rest:List Tok):P V ok (n + 1) .atom (t :: rest) =
  if t.k = 1 then (match adv ok (t :: rest) with | none=>none | some r=>some (.mk wnum (V t.s) [] [],r))
  else if t.k = 3 then (match adv ok (t :: rest) with | none=>none | some r=>some (.mk wtext 0 t.s [],r))
  else if t.k = 2 then namedP ok (P V ok n .or) (t :: rest) t.s
  else inside ok (P V ok n .or) (t :: rest):=by
 simp only [P,namedP]
 rfl
theorem wnamed (V:Bs→Nat) (s:Bs) (ok:Bool) (hs:s.length≤1000000) (n:Nat) (H:∀ k,k≤n→PC V s ok 96 .or 11 k) (x:Bs) (r:Nat) (ts:List Tok) (w:World) (hn:12 * ts.length≤n + 1) (hne:ts≠[]) (hst:St r s ok ts w) :
  Calls Tryz.prog 212 #[.pointer (some ⟨r,0,none⟩),.string (tx x)] w (PEnd r s ok (namedP ok (P V ok n .or) ts x) w):=by
 by_cases h1:x = wor∨x = wand∨x = wnot
 ·exact wnamed_bad V s ok n x h1 r ts w hst
 ·by_cases h2:x = wlen∨x = wabs
  ·exact wnamed_one V s ok hs n H x h2 r ts w hn hne hst
  ·by_cases h3:x = whas
   ·subst h3;exact wnamed_has V s ok hs n H r ts w hn hne hst
   ·exact wnamed_name V s ok hs n x ⟨fun h=>h1 (.inl h),fun h=>h1 (.inr (.inl h)),fun h=>h1 (.inr (.inr h)),fun h=>h2 (.inl h),fun h=>h2 (.inr h),h3⟩ r ts w hne hst
theorem handed {w W0 W2:World} {r:Nat} {s:Bs} {ok:Bool} {ts:List Tok} {a:Tree} {v:Value} (HI:RI w r s ok w.heap.size ts W0) (hv:NodeV (fun b=>W0.heap.size≤b) W2 v a):NodeV (fun b=>w.heap.size≤b∧b≠w.heap.size) W2 v a:=
 hv.sub (fun b h _=>by have h1:=HI.bt.size;have h2:=HI.lt0;have h3:W0.heap.size≤b:=h;show _∧_;omega)
theorem watom_step (s:Bs) (ok:Bool) (hs:s.length≤1000000) (n:Nat) (H:∀ k,k≤n→PC valV s ok 96 .or 11 k):PC valV s ok 210 .atom 1 (n + 1):=by
 intro r ts w hn hst
 have HI:=hid (RI.start (v0:=.string ⟨#[]⟩) (v1:=.float .f64 0) (v2:=.string ⟨#[]⟩) (v3:=.slice none 0 0) hst)
 have HST:=hid hst
 have HN:=hid hn
 have HSL:=hid hs
 have HIN:=hid (fun t1 (W:World) h1 h=>winside_step valV s ok hs n H r t1 W h1 h)
 have HNM:=hid (fun x t1 (W:World) h1 h2 h=>wnamed valV s ok hs n H x r t1 W h1 h2 h)
 obtain ⟨res,hres⟩:∃ x,x = P valV ok (n + 1) .atom ts:=⟨_,rfl⟩
 rw [←hres]
 have HR:=hid hres
 clear hst hn hs H hres
 obtain ⟨k,g,hcells,hk⟩:∃ (k:Nat) (g:Bs),(∃ a,Rd (w.alloc (.cells #[.string ⟨#[]⟩,.float .f64 0,.string ⟨#[]⟩,.slice none 0 0] 87)) r s a k g)∧((k = 0∧ts = [])∨∃ t rest,ts = t :: rest∧t.k = k∧t.s = g∧1≤k∧(k = 1→NumT g)):=by
  obtain ⟨a,k,g,ha,hr,⟨h1,h2,h3,_⟩ | ⟨t,rest,h1,h2,h3,h4,h5,h6⟩⟩:=HI.out.st
  ·exact ⟨k,g,⟨a,hr⟩,.inl ⟨h2,h1⟩⟩
  ·exact ⟨k,g,⟨a,hr⟩,.inr ⟨t,rest,h1,h2,h3,h4,fun h=>h3 ▸ h6 (h2.trans h)⟩⟩
 obtain ⟨a,hrd⟩:=hcells
 obtain ⟨c0,c1,c2,c3,_,_⟩:=hrd.cells
 clear c0 c1 hrd
 have HK:=hid hk
 clear hk
 by_cases k1:k = 1
 ·subst k1
  obtain ⟨t,rest,hts,htk,htg,_,hnt⟩:∃ t rest,ts = t :: rest∧t.k = 1∧t.s = g∧1≤1∧NumT g:=by
   rcases HK.out with ⟨h,_⟩ | ⟨t,rest,h1,h2,h3,h4,h5⟩
   ·cases h
   ·exact ⟨t,rest,h1,h2,h3,h4,h5 rfl⟩
  have HV:Hid (res = match adv ok ts with | none=>none | some r=>some (.mk wnum (valV g) [] [],r)):=hid (by rw [HR.out,hts,P_atom,if_pos htk,htg])
  have HA:=hid (fun W h=>wadv r s ok ts HSL.out (by rw [hts];simp) W h)
  have HVAL:=hid (fun W=>wvalue g hnt W)
  clear hts htk htg hnt
  go_enter Tryz.func210,Tryz.ntmps210
  go_wp2_with (first | (go_at_call 95;fail))
  generalize w.alloc (.cells #[.string ⟨#[]⟩,.float .f64 0,.string ⟨#[]⟩,.slice none 0 0] 87) = W0 at HI ⊢
  refine (HA.out W0 HI.out.st).mono ?_
  rintro e w3 ⟨hb3,⟨h1,rfl⟩ | ⟨t1,h1,rfl,hst3⟩⟩
  ·have HB:=hid (And.intro hb3 h1)
   clear hb3 h1
   go_wp2
   exact ⟨rfl,HI.out.bt.trans HB.out.1,.inl ⟨by rw [HV.out,HB.out.2],rfl⟩⟩
  have HI3:=hid (HI.out.but hb3 hst3)
  have HT:=hid h1
  obtain ⟨z0,z1,z2,z3,hz⟩:=HI3.out.res
  have HZ:=hid hz
  obtain ⟨b0,b1,b2,b3,bf⟩:=hz.cells
  have f0:=bf 0
  have f1:=bf 1
  have f2:=bf 2
  have f3:=bf 3
  clear hz bf hb3 h1 hst3
  go_wp2_with (first | (go_at_call 211;refine (HVAL.out _).mono ?_;rintro e w4 ⟨rfl,rfl⟩))
  go_wp2
  rw [HV.out,HT.out]
  exact bodyPost_ret (node_res rfl _ _ w.heap.size _ _ _ _ rfl HZ.out.put.heap) rfl (RI.done HI3.out (node_leaf _ _ wnum [] _))
 by_cases k3:k = 3
 ·subst k3
  obtain ⟨t,rest,hts,htk,htg,_,_⟩:∃ t rest,ts = t :: rest∧t.k = 3∧t.s = g∧1≤3∧(3 = 1→NumT g):=by
   rcases HK.out with ⟨h,_⟩ | h
   ·cases h
   ·exact h
  have HV:Hid (res = match adv ok ts with | none=>none | some r=>some (.mk wtext 0 g [],r)):=hid (by rw [HR.out,hts,P_atom,if_neg (by rw [htk];decide),if_pos htk,htg])
  have HA:=hid (fun W h=>wadv r s ok ts HSL.out (by rw [hts];simp) W h)
  clear hts htk htg k1
  go_enter Tryz.func210,Tryz.ntmps210
  go_wp2_with (first | (go_at_call 95;fail))
  generalize w.alloc (.cells #[.string ⟨#[]⟩,.float .f64 0,.string ⟨#[]⟩,.slice none 0 0] 87) = W0 at HI ⊢
  refine (HA.out W0 HI.out.st).mono ?_
  rintro e w3 ⟨hb3,⟨h1,rfl⟩ | ⟨t1,h1,rfl,hst3⟩⟩
  ·have HB:=hid (And.intro hb3 h1)
   clear hb3 h1
   go_wp2
   exact ⟨rfl,HI.out.bt.trans HB.out.1,.inl ⟨by rw [HV.out,HB.out.2],rfl⟩⟩
  have HI3:=hid (HI.out.but hb3 hst3)
  have HT:=hid h1
  obtain ⟨z0,z1,z2,z3,hz⟩:=HI3.out.res
  have HZ:=hid hz
  obtain ⟨b0,b1,b2,b3,bf⟩:=hz.cells
  have f0:=bf 0
  have f1:=bf 1
  have f2:=bf 2
  have f3:=bf 3
  clear hz bf hb3 h1 hst3
  go_wp2
  rw [HV.out,HT.out]
  exact bodyPost_ret (node_res rfl _ _ w.heap.size _ _ _ _ rfl HZ.out.put.heap) rfl (RI.done HI3.out (node_leaf _ _ wtext g 0))
 by_cases k2:k = 2
 ·subst k2
  obtain ⟨t,rest,hts,htk,htg,_,_⟩:∃ t rest,ts = t :: rest∧t.k = 2∧t.s = g∧1≤2∧(2 = 1→NumT g):=by
   rcases HK.out with ⟨h,_⟩ | h
   ·cases h
   ·exact h
  have HV:Hid (res = namedP ok (P valV ok n .or) ts g):=hid (by rw [HR.out,hts,P_atom,if_neg (by rw [htk];decide),if_neg (by rw [htk];decide),if_pos htk,htg])
  have HC:=hid (fun W h=>HNM.out g ts W (by have:=HN.out;omega) (by rw [hts];simp) h)
  clear hts htk htg k1 k3
  go_enter Tryz.func210,Tryz.ntmps210
  go_wp2_with (first | (go_at_call 212;fail))
  generalize w.alloc (.cells #[.string ⟨#[]⟩,.float .f64 0,.string ⟨#[]⟩,.slice none 0 0] 87) = W0 at HI ⊢
  refine (HC.out W0 HI.out.st).mono ?_
  rintro e w2 ⟨hb2,⟨h1,rfl⟩ | ⟨a,ts1,v,h1,rfl,hv,hst1⟩⟩
  ·have HB:=hid (And.intro hb2 h1)
   clear hb2 h1
   go_wp2
   exact ⟨rfl,HI.out.bt.trans HB.out.1,.inl ⟨HV.out.trans HB.out.2,rfl⟩⟩
  have HI2:=hid (HI.out.but hb2 hst1)
  have HB:=hid (And.intro (handed HI.out hv) h1)
  obtain ⟨o1,n1,s1,x1,l1,c1,rfl⟩:=hv.agg
  obtain ⟨z0,z1,z2,z3,hz⟩:=HI2.out.res
  have HZ:=hid hz
  obtain ⟨b0,b1,b2,b3,bf⟩:=hz.cells
  have f0:=bf 0
  have f1:=bf 1
  have f2:=bf 2
  have f3:=bf 3
  clear hb2 h1 hv hst1 hz bf
  go_wp2
  rw [HV.out,HB.out.2]
  exact bodyPost_ret (node_res rfl _ _ w.heap.size _ _ _ _ rfl HZ.out.put.heap) rfl (RI.done HI2.out HB.out.1)
 have HV:Hid (res = inside ok (P valV ok n .or) ts):=hid (by
  rw [HR.out]
  rcases HK.out with ⟨_,h⟩ | ⟨t,rest,h1,h2,_⟩
  ·rw [h];simp only [P];rfl
  ·rw [h1,P_atom,if_neg (by rw [h2];exact k1),if_neg (by rw [h2];exact k3),if_neg (by rw [h2];exact k2)])
 have HC:=hid (fun W h=>HIN.out ts W (by have:=HN.out;omega) h)
 have y1:((k:Int) == 1) = false:=by simp;omega
 have y2:((k:Int) == 3) = false:=by simp;omega
 have y3:((k:Int) == 2) = false:=by simp;omega
 clear k1 k2 k3
 go_enter Tryz.func210,Tryz.ntmps210
 go_wp2_with (first | (go_at_call 213;fail))
 generalize w.alloc (.cells #[.string ⟨#[]⟩,.float .f64 0,.string ⟨#[]⟩,.slice none 0 0] 87) = W0 at HI ⊢
 refine (HC.out W0 HI.out.st).mono ?_
 rintro e w2 ⟨hb2,⟨h1,rfl⟩ | ⟨a,ts1,v,h1,rfl,hv,hst1⟩⟩
 ·have HB:=hid (And.intro hb2 h1)
  clear hb2 h1
  go_wp2
  exact ⟨rfl,HI.out.bt.trans HB.out.1,.inl ⟨HV.out.trans HB.out.2,rfl⟩⟩
 have HI2:=hid (HI.out.but hb2 hst1)
 have HB:=hid (And.intro (handed HI.out hv) h1)
 obtain ⟨o1,n1,s1,x1,l1,c1,rfl⟩:=hv.agg
 obtain ⟨z0,z1,z2,z3,hz⟩:=HI2.out.res
 have HZ:=hid hz
 obtain ⟨b0,b1,b2,b3,bf⟩:=hz.cells
 have f0:=bf 0
 have f1:=bf 1
 have f2:=bf 2
 have f3:=bf 3
 clear hb2 h1 hv hst1 hz bf
 go_wp2
 rw [HV.out,HB.out.2]
 exact bodyPost_ret (node_res rfl _ _ w.heap.size _ _ _ _ rfl HZ.out.put.heap) rfl (RI.done HI2.out HB.out.1)
theorem wnot_step (V : Bs → Nat) (s : Bs) (ok : Bool) (hs : s.length ≤ 1000000) (n : Nat) (H : ∀ k, k ≤ n → PC V s ok 171 .not 7 k) (HA : ∀ k, k ≤ n → PC V s ok 190 .sum 6 k) : PC V s ok 171 .not 7 (n + 1) := by
  intro r ts w hn hst
  have HI := hid (RI.start (v0 := .string ⟨#[]⟩) (v1 := .float .f64 0) (v2 := .string ⟨#[]⟩) (v3 := .slice none 0 0) hst)
  have HN := hid hn
  have HSL := hid hs
  have HH := hid H
  have HHA := hid HA
  obtain ⟨res, hres⟩ : ∃ x, x = P V ok (n + 1) .not ts := ⟨_, rfl⟩
  rw [← hres]
  have HR := hid hres
  have HIS : Hid (Calls Tryz.prog 132 #[.pointer (some ⟨r, 0, none⟩), .int .i64 2, .string ⟨#[110, 111, 116]⟩] (w.alloc (.cells #[.string ⟨#[]⟩, .float .f64 0, .string ⟨#[]⟩, .slice none 0 0] 87)) fun e w' => e = .returned (.bool (isTok ts 2 wnot)) ∧ (w.alloc (.cells #[.string ⟨#[]⟩, .float .f64 0, .string ⟨#[]⟩, .slice none 0 0] 87)) = w') := hid (wisT r s ok ts 2 (by omega) wnot _ HI.out.st)
  clear hst hn hs H HA hres
  go_enter Tryz.func171, Tryz.ntmps171
  cases hq : isTok ts 2 wnot
  · rw [hq] at HIS
    have HV : Hid (res = match P V ok n .sum ts with
      | none => none
      | some (a, r) => match r with
        | [] => some (a, r)
        | t :: _ => if t.k = 4 ∧ isCmp t.s = true then
            match adv ok r with
            | none => none
            | some t1 => match P V ok n .sum t1 with
              | none => none
              | some (b, r') => some (two t.s a b, r')
          else some (a, r)) := hid (by rw [HR.out]; simp only [P]; rw [hq]; rfl)
    clear hq HR
    go_wp2_with (first | (go_at_call 132; refine (HIS.out).mono ?_; rintro e w5 ⟨rfl, rfl⟩))
    clear HIS
    generalize w.alloc (.cells #[.string ⟨#[]⟩, .float .f64 0, .string ⟨#[]⟩, .slice none 0 0] 87) = W0 at HI ⊢
    go_at_call 190
    refine (HHA.out n (Nat.le_refl _) r ts _ (by have := HN.out; omega) HI.out.st).mono ?_
    rintro e w2 ⟨hb2, ⟨h1, rfl⟩ | ⟨a, ts1, v, h1, rfl, hv, hst1⟩⟩
    · have HB := hid (And.intro hb2 h1)
      clear hb2 h1
      go_wp2
      exact ⟨rfl, HI.out.bt.trans HB.out.1, .inl ⟨by rw [HV.out, HB.out.2], rfl⟩⟩
    have HI2 := hid (HI.out.but hb2 hst1)
    have HND := hid ((handed HI.out hv).sub (B := fun b => w.heap.size ≤ b ∧ b ≠ w.heap.size ∧ b < w2.heap.size) (fun b h h0 => ⟨h.1, h.2, h0⟩))
    have HLT2 := hid (P_len V ok n .sum ts a ts1 h1).1
    have HV2 := hid HV.out
    simp only [h1] at HV2
    obtain ⟨o1, n1, s1, x1, l1, c1, rfl⟩ := hv.agg
    clear hb2 h1 hv hst1 HV
    have HI4 : Hid (RI w r s ok w.heap.size ts1 (w2.alloc (.cells #[.string o1, .float .f64 n1, .string s1, .slice x1 l1 c1] 87))) := hid (HI2.out.below ((Below.refl _ _).alloc (Nat.le_refl _) _))
    have HND4 := hid (HND.out.below ((Below.refl _ _).alloc (Nat.le_refl _) (.cells #[.string o1, .float .f64 n1, .string s1, .slice x1 l1 c1] 87)))
    have HG4 : Hid (NB (w2.alloc (.cells #[.string o1, .float .f64 n1, .string s1, .slice x1 l1 c1] 87)) w2.heap.size (.agg #[.string o1, .float .f64 n1, .string s1, .slice x1 l1 c1])) := hid ⟨_, _, _, _, rfl, heap_alloc_new _ _⟩
    have HLG := hid (And.intro (show r < w2.heap.size from HI2.out.st.lt) (show w.heap.size < w2.heap.size from HI2.out.lt0))
    obtain ⟨k, g, ⟨ra, hrd⟩, hk⟩ : ∃ (k : Nat) (g : Bs), (∃ a, Rd (w2.alloc (.cells #[.string o1, .float .f64 n1, .string s1, .slice x1 l1 c1] 87)) r s a k g) ∧ ((k = 0 ∧ ts1 = []) ∨ ∃ t rest, ts1 = t :: rest ∧ t.k = k ∧ t.s = g) := by
      obtain ⟨a, k, g, ha, hr, ⟨h1, h2, h3, _⟩ | ⟨t, rest, h1, h2, h3, h4, h5, h6⟩⟩ := HI4.out.st
      · exact ⟨k, g, ⟨a, hr⟩, .inl ⟨h2, h1⟩⟩
      · exact ⟨k, g, ⟨a, hr⟩, .inr ⟨t, rest, h1, h2, h3⟩⟩
    obtain ⟨_, _, rc2, rc3, _, _⟩ := hrd.cells
    have HK := hid hk
    clear hk hrd
    by_cases hc : k = 4 ∧ isCmp g = true
    · obtain ⟨rfl, hcm⟩ := hc
      obtain ⟨t, rest, hts, htk, htg⟩ : ∃ t rest, ts1 = t :: rest ∧ t.k = 4 ∧ t.s = g := by
        rcases HK.out with ⟨h, _⟩ | h
        · cases h
        · exact h
      have HV3 : Hid (res = match adv ok ts1 with
            | none => none
            | some t1 => match P V ok n .sum t1 with
              | none => none
              | some (b, r') => some (two g a b, r')) := hid (by
        rw [HV2.out, hts]
        simp only
        rw [if_pos ⟨htk, by rw [htg]; exact hcm⟩, htg])
      have HA := hid (fun W h => wadv r s ok ts1 HSL.out (by rw [hts]; simp) W h)
      have hg6 : g = [61] ∨ g = [33, 61] ∨ g = [60] ∨ g = [60, 61] ∨ g = [62] ∨ g = [62, 61] := by simpa [isCmp] using hcm
      have hT : (((tx g).toList == [61]) = true) ∨ (((tx g).toList == [61]) = false ∧ ((tx g).toList == [33, 61]) = true) ∨ (((tx g).toList == [61]) = false ∧ ((tx g).toList == [33, 61]) = false ∧ ((tx g).toList == [60]) = true) ∨ (((tx g).toList == [61]) = false ∧ ((tx g).toList == [33, 61]) = false ∧ ((tx g).toList == [60]) = false ∧ ((tx g).toList == [60, 61]) = true) ∨ (((tx g).toList == [61]) = false ∧ ((tx g).toList == [33, 61]) = false ∧ ((tx g).toList == [60]) = false ∧ ((tx g).toList == [60, 61]) = false ∧ ((tx g).toList == [62]) = true) ∨ (((tx g).toList == [61]) = false ∧ ((tx g).toList == [33, 61]) = false ∧ ((tx g).toList == [60]) = false ∧ ((tx g).toList == [60, 61]) = false ∧ ((tx g).toList == [62]) = false ∧ ((tx g).toList == [62, 61]) = true) := by
        rcases hg6 with rfl | rfl | rfl | rfl | rfl | rfl
        · exact .inl (tx_same _)
        · exact .inr (.inl (⟨tx_ne (by decide), tx_same _⟩))
        · exact .inr (.inr (.inl (⟨tx_ne (by decide), tx_ne (by decide), tx_same _⟩)))
        · exact .inr (.inr (.inr (.inl (⟨tx_ne (by decide), tx_ne (by decide), tx_ne (by decide), tx_same _⟩))))
        · exact .inr (.inr (.inr (.inr (.inl (⟨tx_ne (by decide), tx_ne (by decide), tx_ne (by decide), tx_ne (by decide), tx_same _⟩)))))
        · exact .inr (.inr (.inr (.inr (.inr (⟨tx_ne (by decide), tx_ne (by decide), tx_ne (by decide), tx_ne (by decide), tx_ne (by decide), tx_same _⟩)))))
      clear hts htk htg hcm hg6
      rcases hT with h1 | ⟨h1, h2⟩ | ⟨h1, h2, h3⟩ | ⟨h1, h2, h3, h4⟩ | ⟨h1, h2, h3, h4, h5⟩ | ⟨h1, h2, h3, h4, h5, h6⟩
      all_goals
        go_wp2_with (first | (go_at_call 95; fail))
        generalize w2.alloc (.cells #[.string o1, .float .f64 n1, .string s1, .slice x1 l1 c1] 87) = W4 at HI4 HND4 HG4 ⊢
        generalize w2.heap.size = gg at HND4 HG4 HLG ⊢
        refine (HA.out W4 HI4.out.st).mono ?_
        rintro e w5 ⟨hb3, ⟨h1, rfl⟩ | ⟨t1, h1, rfl, hst3⟩⟩
        · have HB := hid (And.intro hb3 h1)
          clear hb3 h1
          go_wp2
          exact ⟨rfl, HI4.out.bt.trans HB.out.1, .inl ⟨by rw [HV3.out, HB.out.2], rfl⟩⟩
        have HI5 := hid (HI4.out.but hb3 hst3)
        have HT5 := hid h1
        have HLT := hid (adv_len h1).1
        have HND5 := hid (HND4.out.but (by have := HI4.out.lt; intro h; omega) hb3)
        have HG5 := hid (HG4.out.but hb3 (by have := HLG.out; omega))
        obtain ⟨a0, a1, a2, a3, bf⟩ := HG5.out.cells
        clear bf hb3 h1 hst3
        go_wp2_with fail
        refine wp_region_any (by kernel_rfl) ?_
        change wpAny _ _ _ _ _ _ _ (World.drew _)
        refine wpAny_take (i := 0) (v := _) rfl (by kernel_rfl) (by kernel_rfl) (by kernel_rfl) (fun _ _ _ h => h) (Or.inl ⟨by rfl, by intro w; go_simp; try (with_reducible rfl)⟩) ?_
        refine wpAny_take (i := 2) (v := _) rfl (by kernel_rfl) (by kernel_rfl) (by kernel_rfl) (fun _ _ _ h => h) (Or.inl ⟨by rfl, by intro w; go_simp; try (with_reducible rfl)⟩) ?_
        refine wpAny_ready (rs := [1, 3]) (by kernel_rfl) (by simp) ?_
        refine AllReady.cons rfl (fun K hK => ?_) (AllReady.cons rfl (fun K hK => ?_) AllReady.nil)
        · go_simp
          refine hK _ _ ?_
          clear hK K
          refine wpAny_ready (rs := [3]) (by kernel_rfl) (by simp) ?_
          refine AllReady.cons rfl (fun K hK => ?_) AllReady.nil
          go_simp
          go_wp2_with (first | (go_at_call 190; fail))
          refine (HHA.out n (Nat.le_refl _) r t1 _ (by have := HN.out; have := HLT.out; have := HLT2.out; omega) HI5.out.st.drew).mono ?_
          rintro e w6 ⟨hb6, ⟨h1, rfl⟩ | ⟨b, ts2, vb, h1, rfl, hvb, hst6⟩⟩
          · exact ⟨rfl, HI5.out.bt.drew.trans hb6, .inl ⟨by rw [HV3.out, HT5.out]; simp only; rw [h1], rfl⟩⟩
          have HB6 : Hid (But [r] w5 w6) := hid ((But.refl _ _).drew.trans hb6)
          have HI6 := hid (HI5.out.but HB6.out hst6)
          have HVE := hid h1
          have HNE6 := hid (hvb.sub (B := fun b => w.heap.size ≤ b ∧ b ≠ w.heap.size) (fun b h h0 => by have h1 := HI5.out.bt.size; have h2 := HI5.out.lt0; have h3 : w5.heap.size ≤ b := h; show _ ∧ _; omega))
          have HND6 := hid ((HND5.out.but (by have := HI4.out.lt; intro h; omega) HB6.out).sub (B := fun b => w.heap.size ≤ b ∧ b ≠ w.heap.size) (fun b h _ => ⟨h.1, h.2.1⟩))
          obtain ⟨o2, n2, s2, x2, l2, c2, rfl⟩ := hvb.agg
          clear a0 a1 a2 a3 hb6 h1 hvb hst6
          have HG6 := hid (HG5.out.but HB6.out (by have := HLG.out; omega))
          obtain ⟨a0, a1, a2, a3, bf⟩ := HG6.out.cells
          clear bf
          refine hK _ _ ?_
          clear hK K
          refine wpAny_ready (rs := [4]) (by kernel_rfl) (by simp) ?_
          refine AllReady.cons rfl (fun K hK => ?_) AllReady.nil
          go_simp
          go_wp2_with (first | (go_at_call 133; fail))
          refine (wpair (fun b => w.heap.size ≤ b ∧ b ≠ w.heap.size) g _ _ a b _ ?_ HND6.out HNE6.out).mono ?_
          · intro b hb; have h1 := HI6.out.lt0; have h2 := HI6.out.bt.size; show _ ∧ _; omega
          rintro e w7 ⟨v7, rfl, hv7, hb7⟩
          have HI7 := hid (HI6.out.below hb7)
          have HV7 := hid hv7
          obtain ⟨o6, n6, s6, x6, l6, c6, rfl⟩ := hv7.agg
          clear a0 a1 a2 a3 hv7 hb7
          obtain ⟨z0, z1, z2, z3, hz⟩ := HI7.out.res
          have HZ := hid hz
          obtain ⟨b0, b1, b2, b3, bf⟩ := hz.cells
          have f0 := bf 0
          have f1 := bf 1
          have f2 := bf 2
          have f3 := bf 3
          clear hz bf
          refine hK _ _ ?_
          clear hK K
          refine wpAny_ready (rs := [5]) (by kernel_rfl) (by simp) ?_
          refine AllReady.cons rfl (fun K hK => ?_) AllReady.nil
          go_simp
          refine hK _ _ ?_
          clear hK K
          refine wpAny_done (by kernel_rfl) ?_ _
          go_wp2
          rw [HV3.out, HT5.out]
          simp only
          rw [HVE.out]
          exact bodyPost_ret (node_res rfl _ _ w.heap.size _ _ _ _ rfl HZ.out.put.heap) rfl (RI.done HI7.out HV7.out)
        · go_simp
          go_wp2_with (first | (go_at_call 190; fail))
          refine (HHA.out n (Nat.le_refl _) r t1 _ (by have := HN.out; have := HLT.out; have := HLT2.out; omega) HI5.out.st.drew).mono ?_
          rintro e w6 ⟨hb6, ⟨h1, rfl⟩ | ⟨b, ts2, vb, h1, rfl, hvb, hst6⟩⟩
          · exact ⟨rfl, HI5.out.bt.drew.trans hb6, .inl ⟨by rw [HV3.out, HT5.out]; simp only; rw [h1], rfl⟩⟩
          have HB6 : Hid (But [r] w5 w6) := hid ((But.refl _ _).drew.trans hb6)
          have HI6 := hid (HI5.out.but HB6.out hst6)
          have HVE := hid h1
          have HNE6 := hid (hvb.sub (B := fun b => w.heap.size ≤ b ∧ b ≠ w.heap.size) (fun b h h0 => by have h1 := HI5.out.bt.size; have h2 := HI5.out.lt0; have h3 : w5.heap.size ≤ b := h; show _ ∧ _; omega))
          have HND6 := hid ((HND5.out.but (by have := HI4.out.lt; intro h; omega) HB6.out).sub (B := fun b => w.heap.size ≤ b ∧ b ≠ w.heap.size) (fun b h _ => ⟨h.1, h.2.1⟩))
          obtain ⟨o2, n2, s2, x2, l2, c2, rfl⟩ := hvb.agg
          clear a0 a1 a2 a3 hb6 h1 hvb hst6
          have HG6 := hid (HG5.out.but HB6.out (by have := HLG.out; omega))
          obtain ⟨a0, a1, a2, a3, bf⟩ := HG6.out.cells
          clear bf
          refine hK _ _ ?_
          clear hK K
          refine wpAny_ready (rs := [1]) (by kernel_rfl) (by simp) ?_
          refine AllReady.cons rfl (fun K hK => ?_) AllReady.nil
          go_simp
          refine hK _ _ ?_
          clear hK K
          refine wpAny_ready (rs := [4]) (by kernel_rfl) (by simp) ?_
          refine AllReady.cons rfl (fun K hK => ?_) AllReady.nil
          go_simp
          go_wp2_with (first | (go_at_call 133; fail))
          refine (wpair (fun b => w.heap.size ≤ b ∧ b ≠ w.heap.size) g _ _ a b _ ?_ HND6.out HNE6.out).mono ?_
          · intro b hb; have h1 := HI6.out.lt0; have h2 := HI6.out.bt.size; show _ ∧ _; omega
          rintro e w7 ⟨v7, rfl, hv7, hb7⟩
          have HI7 := hid (HI6.out.below hb7)
          have HV7 := hid hv7
          obtain ⟨o6, n6, s6, x6, l6, c6, rfl⟩ := hv7.agg
          clear a0 a1 a2 a3 hv7 hb7
          obtain ⟨z0, z1, z2, z3, hz⟩ := HI7.out.res
          have HZ := hid hz
          obtain ⟨b0, b1, b2, b3, bf⟩ := hz.cells
          have f0 := bf 0
          have f1 := bf 1
          have f2 := bf 2
          have f3 := bf 3
          clear hz bf
          refine hK _ _ ?_
          clear hK K
          refine wpAny_ready (rs := [5]) (by kernel_rfl) (by simp) ?_
          refine AllReady.cons rfl (fun K hK => ?_) AllReady.nil
          go_simp
          refine hK _ _ ?_
          clear hK K
          refine wpAny_done (by kernel_rfl) ?_ _
          go_wp2
          rw [HV3.out, HT5.out]
          simp only
          rw [HVE.out]
          exact bodyPost_ret (node_res rfl _ _ w.heap.size _ _ _ _ rfl HZ.out.put.heap) rfl (RI.done HI7.out HV7.out)
    · have HV3 : Hid (res = some (a, ts1)) := hid (by
        rw [HV2.out]
        rcases HK.out with ⟨_, h⟩ | ⟨t, rest, h1, h2, h3⟩
        · rw [h]
        · rw [h1]
          simp only
          rw [if_neg (by rw [h2, h3]; exact hc)])
      obtain ⟨z0, z1, z2, z3, hz⟩ := HI4.out.res
      have HZ := hid hz
      obtain ⟨b0, b1, b2, b3, bf⟩ := hz.cells
      obtain ⟨a0, a1, a2, a3, _⟩ := HG4.out.cells
      have f0 := bf 0
      have f1 := bf 1
      have f2 := bf 2
      have f3 := bf 3
      clear hz bf
      by_cases k4 : k = 4
      · subst k4
        have hg : g ≠ [61] ∧ g ≠ [33, 61] ∧ g ≠ [60] ∧ g ≠ [60, 61] ∧ g ≠ [62] ∧ g ≠ [62, 61] := by
          have : isCmp g = false := by
            cases h : isCmp g
            · rfl
            · exact absurd ⟨rfl, h⟩ hc
          simpa [isCmp, not_or] using this
        have t1 : ((tx g).toList == [61]) = false := tx_ne hg.1
        have t2 : ((tx g).toList == [33, 61]) = false := tx_ne hg.2.1
        have t3 : ((tx g).toList == [60]) = false := tx_ne hg.2.2.1
        have t4 : ((tx g).toList == [60, 61]) = false := tx_ne hg.2.2.2.1
        have t5 : ((tx g).toList == [62]) = false := tx_ne hg.2.2.2.2.1
        have t6 : ((tx g).toList == [62, 61]) = false := tx_ne hg.2.2.2.2.2
        clear hg hc
        go_wp2
        rw [HV3.out]
        exact bodyPost_ret (node_res rfl _ _ w.heap.size _ _ _ _ rfl HZ.out.put.heap) rfl (RI.done HI4.out (HND4.out.sub (fun b h _ => ⟨h.1, h.2.1⟩)))
      · have y : ((k : Int) != 4) = true := by simp; omega
        clear k4 hc
        go_wp2
        rw [HV3.out]
        exact bodyPost_ret (node_res rfl _ _ w.heap.size _ _ _ _ rfl HZ.out.put.heap) rfl (RI.done HI4.out (HND4.out.sub (fun b h _ => ⟨h.1, h.2.1⟩)))
  · have HNE : Hid (ts ≠ []) := hid (fun e => by rw [e] at hq; cases hq)
    rw [hq] at HIS
    have HV : Hid (res = match adv ok ts with
      | none => none
      | some t1 => match P V ok n .not t1 with
        | none => none
        | some (b, r) => some (one wnot b, r)) := hid (by rw [HR.out]; simp only [P]; rw [if_pos hq]; rfl)
    clear hq HR
    go_wp2_with (first | (go_at_call 132; refine (HIS.out).mono ?_; rintro e w5 ⟨rfl, rfl⟩))
    clear HIS
    generalize w.alloc (.cells #[.string ⟨#[]⟩, .float .f64 0, .string ⟨#[]⟩, .slice none 0 0] 87) = W0 at HI ⊢
    go_at_call 95
    refine (wadv r s ok ts HSL.out HNE.out _ HI.out.st).mono ?_
    rintro e w3 ⟨hb3, ⟨h1, rfl⟩ | ⟨t1, h1, rfl, hst3⟩⟩
    · have HB := hid (And.intro hb3 h1)
      clear hb3 h1
      go_wp2
      exact ⟨rfl, HI.out.bt.trans HB.out.1, .inl ⟨by rw [HV.out, HB.out.2], rfl⟩⟩
    · have HI3 := hid (HI.out.but hb3 hst3)
      have HT := hid h1
      have HLT := hid (adv_len h1).1
      clear hb3 h1 hst3
      go_wp2_with (first | (go_at_call 171; fail))
      go_at_call 171
      refine (HH.out n (Nat.le_refl _) r t1 _ (by have := HN.out; have := HLT.out; omega) HI3.out.st).mono ?_
      rintro e w2 ⟨hb2, ⟨h1, rfl⟩ | ⟨a, ts1, v, h1, rfl, hv, hst1⟩⟩
      · have HB := hid (And.intro hb2 h1)
        clear hb2 h1
        go_wp2
        exact ⟨rfl, HI3.out.bt.trans HB.out.1, .inl ⟨by rw [HV.out, HT.out]; simp only; rw [HB.out.2], rfl⟩⟩
      · have HI2 := hid (HI3.out.but hb2 hst1)
        have HB := hid (And.intro hv h1)
        have HL0 := hid HI3.out.lt0
        clear hb2 h1 hv hst1
        go_wp2_with (first | (go_at_call 189; fail))
        refine (wsingle (fun b => w.heap.size ≤ b ∧ b ≠ w.heap.size) wnot v a _ ?_ ?_).mono ?_
        · intro b hb; have h1 := HI2.out.lt0; have h2 := HI2.out.bt.size; show _ ∧ _; omega
        · exact HB.out.1.sub (fun b h _ => by have h1 := HI3.out.bt.size; have h2 := HL0.out; have h3 : w3.heap.size ≤ b := h; show _ ∧ _; omega)
        rintro e w6 ⟨v6, rfl, hv6, hb6⟩
        have HI6 := hid (HI2.out.below hb6)
        have HV6 := hid hv6
        obtain ⟨o1, n1, s1, x1, l1, c1, rfl⟩ := hv6.agg
        obtain ⟨z0, z1, z2, z3, hz⟩ := HI6.out.res
        have HZ := hid hz
        obtain ⟨b0, b1, b2, b3, bf⟩ := hz.cells
        have f0 := bf 0
        have f1 := bf 1
        have f2 := bf 2
        have f3 := bf 3
        clear hz bf hv6 hb6
        go_wp2
        rw [HV.out, HT.out]
        simp only
        rw [HB.out.2]
        exact bodyPost_ret (node_res rfl _ _ w.heap.size _ _ _ _ rfl HZ.out.put.heap) rfl (RI.done HI6.out HV6.out)
end Go.Proofs.YtpcbamcelpcigaaGreat
namespace Go.Proofs.YtpcbamcelpcigaaGreat
open Go.RowKit Go.Shelf
theorem wparts (s : Bs) (ok : Bool) (hs : s.length ≤ 1000000) : ∀ n k, k ≤ n →
    PC valV s ok 96 .or 11 k ∧ PC valV s ok 131 .and 9 k ∧ PC valV s ok 171 .not 7 k ∧ PC valV s ok 190 .sum 6 k ∧
    PC valV s ok 202 .prod 4 k ∧ PC valV s ok 207 .signed 2 k ∧ PC valV s ok 210 .atom 1 k := by
  intro n
  induction n with
  | zero =>
    intro k hk
    obtain rfl : k = 0 := by omega
    exact ⟨fun r ts w h => by omega, fun r ts w h => by omega, fun r ts w h => by omega, fun r ts w h => by omega, fun r ts w h => by omega, fun r ts w h => by omega, fun r ts w h => by omega⟩
  | succ n ih =>
    intro k hk
    by_cases h : k ≤ n
    · exact ih k h
    · obtain rfl : k = n + 1 := by omega
      exact ⟨wor_step valV s ok hs n (fun k h => (ih k h).2.1), wand_step valV s ok hs n (fun k h => (ih k h).2.2.1), wnot_step valV s ok hs n (fun k h => (ih k h).2.2.1) (fun k h => (ih k h).2.2.2.1),
        wsum_step valV s ok hs n (fun k h => (ih k h).2.2.2.2.1), wproduct_step valV s ok hs n (fun k h => (ih k h).2.2.2.2.2.1), wsigned_step valV s ok hs n (fun k h => (ih k h).2.2.2.2.2.1) (fun k h => (ih k h).2.2.2.2.2.2),
        watom_step s ok hs n (fun k h => (ih k h).1)⟩
theorem wreadOr (s:Bs) (ok:Bool) (hs:s.length≤1000000) (n r:Nat) (ts:List Tok) (w:World) (hn:12 * ts.length + 11≤n) (hst:St r s ok ts w) :
  Calls Tryz.prog 96 #[.pointer (some ⟨r,0,none⟩)] w (PEnd r s ok (P valV ok n .or ts) w):=
 (wparts s ok hs n n (Nat.le_refl _)).1 r ts w hn hst
end Go.Proofs.YtpcbamcelpcigaaGreat
namespace Go.Proofs.YtpcbamcelpcigaaGreat
open Go.RowKit Go.Shelf
attribute [local go_sem] run_store_float
def readP (l:Bs):Option Tree:=
 if (lex l).1 = []∧(lex l).2 = false then none
 else match P valV (lex l).2 (12 * (lex l).1.length + 11) .or (lex l).1 with
 | some (t,[])=>some t
 | _=>none
abbrev zeroN:Value:=.agg #[.string ⟨#[]⟩,.float .f64 0,.string ⟨#[]⟩,.slice none 0 0]
theorem catch_yes (g h:Nat) (z b:Value) (pv:Value) (older:List PanicEntry) (w:World) (hg:NB w g z) (hb:w.heap[h]? = some (.cells #[b] 4 (0,0))) (hgh:g≠h) :
  CallsD Tryz.prog 94 #[.pointer (some ⟨g,0,none⟩),.pointer (some ⟨h,0,none⟩)] (.panicking ({ v:=.iface 142 pv,recovered:=false } :: older)) w fun e u' w'=>
   e = .returned (.tuple #[])∧u' = .panicking ({ v:=.iface 142 pv,recovered:=true } :: older)∧w' = (putN w g (.string ⟨#[]⟩) (.float .f64 0) (.string ⟨#[]⟩) (.slice none 0 0)).setCell ⟨h,0,none⟩ (.bool false):=by
 refine callsD_of_wpS Tryz.func94 rfl fun c₀ cs hu=>?_
 apply wpS_seq
 apply wpS_region
 simp [wpOpsS,go_sem,recoverD,hu,Tryz.ntmps94,Exit.thenS]
 refine wpS_cond (t:=true) (by simp [Act.eval,Array.replicate]) ?_
 simp only [if_true]
 apply wpS_region
 obtain ⟨v0,v1,v2,v3,rfl,hh⟩:=hg
 obtain ⟨c0,c1,c2,c3,cf⟩:=NB.cells (v0:=v0) (v1:=v1) (v2:=v2) (v3:=v3) ⟨_,_,_,_,rfl,hh⟩
 have d0:w.cell? ⟨h,0,none⟩ = some b:=by simp [World.cell?,hb]
 have df:w.frozen? ⟨h,0,none⟩ = false:=by simp [World.frozen?,hb]
 have hgh2:h≠g:=fun e=>hgh e.symm
 simp [wpOpsS,go_sem,c0,c1,c2,c3,cf,d0,df,bodyPostS,results,Tryz.results94]
 rfl
theorem catch_no (g h:Nat) (w:World) :
  CallsD Tryz.prog 94 #[.pointer (some ⟨g,0,none⟩),.pointer (some ⟨h,0,none⟩)] .returning w fun e u' w'=>e = .returned (.tuple #[])∧u' = .returning∧w' = w:=by
 refine callsD_of_wpS Tryz.func94 rfl fun c₀ cs hu=>?_
 apply wpS_seq
 apply wpS_region
 simp [wpOpsS,go_sem,recoverD,hu,Tryz.ntmps94,Exit.thenS]
 refine wpS_cond (t:=false) (by simp [Act.eval,Array.replicate]) ?_
 simp only [Bool.false_eq_true,if_false]
 refine wpS_of_wp (wp_skip ?_)
 cases c₀
 simp_all [bodyPostS,results,Tryz.results94]
theorem alloc_new1 (w:World) (o1 o2:Obj):((w.alloc o1).alloc o2).heap[w.heap.size + 1]? = some o2:=by
 have h:=heap_alloc_new (w.alloc o1) o2
 rwa [show (w.alloc o1).heap.size = w.heap.size + 1 by simp] at h
theorem alloc_new2 (w:World) (o1 o2 o3:Obj):(((w.alloc o1).alloc o2).alloc o3).heap[w.heap.size + 2]? = some o3:=by
 have h:=heap_alloc_new ((w.alloc o1).alloc o2) o3
 rwa [show ((w.alloc o1).alloc o2).heap.size = w.heap.size + 2 by simp] at h
theorem read_res (tmps:Array Value) (w:World) (g h:Nat) (v0 v1 v2 v3 b:Value) (hp:tmps.getD 2 undef = .pointer (some ⟨g,0,none⟩)) (hq:tmps.getD 3 undef = .pointer (some ⟨h,0,none⟩))
  (hg:w.heap[g]? = some (.cells #[v0,v1,v2,v3] 87 (0,0))) (hb:w.heap[h]? = some (.cells #[b] 4 (0,0))):(results Tryz.f74 tmps).run Tryz.prog w = .ok (.tuple #[.agg #[v0,v1,v2,v3],b]) w:=by
 have hp':tmps[2]?.getD undef = .pointer (some ⟨g,0,none⟩):=by simpa using hp
 have hq':tmps[3]?.getD undef = .pointer (some ⟨h,0,none⟩):=by simpa using hq
 have d0:w.cell? ⟨h,0,none⟩ = some b:=by simp [World.cell?,hb]
 have hl:=run_loadVar_row (P:=Tryz.prog) w g 87 87 #[v0,v1,v2,v3] (0,0) _ hg Tryz.underlying87 rfl (by kernel_rfl)
 have hl2:(loadVar 4 ⟨h,0,none⟩).run Tryz.prog w = .ok b w:=by simp [go_sem,d0]
 simp [results,Tryz.results74,hp',hq',asAddr,hl,hl2]
theorem below_but {n r:Nat} {w a b:World} (h:Below n w a) (k:But [r] a b) (hr:n≤r) (hn:n≤a.heap.size):Below n w b:=
 ⟨k.os.trans h.os,k.tape.trans h.tape,k.output.trans h.output,Nat.le_trans h.size k.size,fun j hj=>(k.block j (by omega) (by simp;omega)).trans (h.block j hj)⟩
theorem below_put {n g:Nat} {w a:World} {v0 v1 v2 v3:Value} (h:Below n w a) (hg:n≤g):Below n w (putN a g v0 v1 v2 v3):=
 (((h.setCell (show n≤(⟨g,0,none⟩:Addr).block from hg) v0).setCell (show n≤(⟨g,1,none⟩:Addr).block from hg) v1).setCell (show n≤(⟨g,2,none⟩:Addr).block from hg) v2).setCell (show n≤(⟨g,3,none⟩:Addr).block from hg) v3
def ReadEnd (l:Bs) (w:World) (e:Ending) (w':World):Prop:=Below w.heap.size w w'∧
 ((readP l = none∧e = .returned (.tuple #[zeroN,.bool false]))∨∃ t v,readP l = some t∧e = .returned (.tuple #[v,.bool true])∧NodeV (fun b=>w.heap.size≤b) w' v t)
def readW (l:Bs) (w:World):World:=((w.alloc (.cells #[.string ⟨#[]⟩,.float .f64 0,.string ⟨#[]⟩,.slice none 0 0] 87)).alloc (.cells #[.bool false] 4)).alloc (.cells #[.string (tx l),.int .i64 0,.int .i64 0,.string ⟨#[]⟩] 139)
theorem wread (l:Bs) (hl:l.length≤1000000) (w:World):Calls Tryz.prog 74 #[.string (tx l)] w (ReadEnd l w):=by
 have hmf:∀ (fn:Fn) (first cap:Array Value) (w:World),(Instr.makeFunc fn first cap).run Tryz.prog w = .ok (.func fn first cap) w:=fun _ _ _ _=>rfl
 have HR:Hid (Rd (readW l w) (w.heap.size + 2) l 0 0 []):=hid (alloc_new2 w _ _ _)
 have HNX:Hid (Calls Tryz.prog 95 #[.pointer (some ⟨w.heap.size + 2,0,none⟩)] (readW l w) fun e w'=>But [w.heap.size + 2] (readW l w) w'∧(((lex l).1 = []∧(lex l).2 = false∧Pan e)∨(¬ ((lex l).1 = []∧(lex l).2 = false)∧e = .returned (.tuple #[])∧St (w.heap.size + 2) l (lex l).2 (lex l).1 w'))):=
  hid (wqstep (w.heap.size + 2) l (lex l).2 (lex l).1 0 0 [] hl (Nat.zero_le _) (readW l w) HR.out (by simp))
 have HL:=hid hl
 have HP:Hid (readP l = if (lex l).1 = []∧(lex l).2 = false then none
   else match P valV (lex l).2 (12 * (lex l).1.length + 11) .or (lex l).1 with
   | some (t,[])=>some t
   | _=>none):=hid rfl
 have HOR:=hid (fun W h=>wreadOr l (lex l).2 hl (12 * (lex l).1.length + 11) (w.heap.size + 2) (lex l).1 W (Nat.le_refl _) h)
 have HG:Hid (NB (readW l w) w.heap.size zeroN∧(readW l w).heap[w.heap.size + 1]? = some (.cells #[.bool false] 4 (0,0))∧Below w.heap.size w (readW l w)∧(readW l w).heap.size = w.heap.size + 3):=hid (by
  refine ⟨⟨_,_,_,_,rfl,?_⟩,?_,?_,by simp [readW]⟩
  ·unfold readW
   rw [heap_alloc_old _ _ (by simp;omega),heap_alloc_old _ _ (by simp)]
   exact heap_alloc_new _ _
  ·unfold readW
   rw [heap_alloc_old _ _ (by simp)]
   exact alloc_new1 w _ _
  ·exact (((Below.refl _ _).alloc (Nat.le_refl _) _).alloc (by simp) _).alloc (by simp;omega) _)
 unfold readW at HNX HG
 clear hl HR
 go_enter_defers Tryz.func74,Tryz.ntmps74
 go_wp2_with (first | (go_at_call 95;fail))
 refine (HNX.out).mono ?_
 rintro e w1 ⟨hb1,⟨h1,h2,rfl⟩ | ⟨h1,rfl,hst1⟩⟩
 ·have hz:=HG.out.1.but hb1 (by omega)
  have hf:=hb1.heap HG.out.2.1 (by simp)
  refine leaves_cons (f:=94) (args:=#[.pointer (some ⟨w.heap.size,0,none⟩),.pointer (some ⟨w.heap.size + 1,0,none⟩)]) (by simp) rfl ?_
  refine (catch_yes w.heap.size (w.heap.size + 1) zeroN (.bool false) _ [] _ hz hf (by omega)).mono ?_
  rintro e u' w2 ⟨rfl,rfl,rfl⟩
  simp only [settle]
  have hz2:=hz.put (v0:=.string ⟨#[]⟩) (v1:=.float .f64 0) (v2:=.string ⟨#[]⟩) (v3:=.slice none 0 0)
  refine ⟨_,read_res _ _ w.heap.size (w.heap.size + 1) _ _ _ _ _ rfl rfl ((set_other (by omega)).trans hz2.heap) (set_block ((putN_other (by omega)).trans hf) _),?_⟩
  refine ⟨?_,.inl ⟨by rw [HP.out,if_pos ⟨h1,h2⟩],rfl⟩⟩
  exact (below_put (below_but HG.out.2.2.1 hb1 (by omega) (by have:=HG.out.2.2.2;omega)) (Nat.le_refl _)).setCell (by simp) _
 ·have H1:=hid (And.intro h1 (And.intro hb1 hst1))
  have HZ1:=hid (HG.out.1.but hb1 (by omega))
  have HF1:=hid (hb1.heap HG.out.2.1 (by simp))
  clear h1 hb1 hst1
  go_wp2_with (first | (go_at_call 96;fail))
  go_at_call 96
  refine (HOR.out _ H1.out.2.2).mono ?_
  rintro e w2 ⟨hb2,⟨h2,rfl⟩ | ⟨t,ts',v,h2,rfl,hv,hst2⟩⟩
  ·have hz:=HZ1.out.but hb2 (by omega)
   have hf:=hb2.heap HF1.out (by simp)
   refine leaves_cons (f:=94) (args:=#[.pointer (some ⟨w.heap.size,0,none⟩),.pointer (some ⟨w.heap.size + 1,0,none⟩)]) (by simp) rfl ?_
   refine (catch_yes w.heap.size (w.heap.size + 1) zeroN (.bool false) _ [] _ hz hf (by omega)).mono ?_
   rintro e u' w3 ⟨rfl,rfl,rfl⟩
   simp only [settle]
   have hz2:=hz.put (v0:=.string ⟨#[]⟩) (v1:=.float .f64 0) (v2:=.string ⟨#[]⟩) (v3:=.slice none 0 0)
   refine ⟨_,read_res _ _ w.heap.size (w.heap.size + 1) _ _ _ _ _ rfl rfl ((set_other (by omega)).trans hz2.heap) (set_block ((putN_other (by omega)).trans hf) _),?_⟩
   refine ⟨?_,.inl ⟨by rw [HP.out,if_neg H1.out.1,h2],rfl⟩⟩
   exact (below_put (below_but HG.out.2.2.1 (H1.out.2.1.trans hb2) (by omega) (by have:=HG.out.2.2.2;omega)) (Nat.le_refl _)).setCell (by simp) _
  ·have HZ2:=hid (HZ1.out.but hb2 (by omega))
   have HF2:=hid (hb2.heap HF1.out (by simp))
   have HB2:=hid (And.intro h2 (below_but HG.out.2.2.1 (H1.out.2.1.trans hb2) (by omega) (by have:=HG.out.2.2.2;omega)))
   have HV2:=hid (hv.sub (B:=fun b=>w.heap.size≤b∧b≠w.heap.size∧b≠w.heap.size + 1) (fun b h _=>by have h1:=H1.out.2.1.size;have h2:=HG.out.2.2.2;have h3:w1.heap.size≤b:=h;show _∧_∧_;omega))
   obtain ⟨o1,n1,s1,x1,l1,c1,rfl⟩:=hv.agg
   obtain ⟨k,⟨a,g,hrd⟩,hk⟩:∃ (k:Nat),(∃ a g,Rd w2 (w.heap.size + 2) l a k g)∧((k = 0∧ts' = [])∨(1≤k∧ts'≠[])):=by
    obtain ⟨a,k,g,ha,hr,⟨h1,h2,h3,_⟩ | ⟨t,rest,h1,h2,h3,h4,h5,h6⟩⟩:=hst2
    ·exact ⟨k,⟨a,g,hr⟩,.inl ⟨h2,h1⟩⟩
    ·exact ⟨k,⟨a,g,hr⟩,.inr ⟨h4,by rw [h1];simp⟩⟩
   obtain ⟨_,_,rc2,_,_,_⟩:=hrd.cells
   obtain ⟨b0,b1,b2,b3,bf⟩:=HZ2.out.cells
   have f0:=bf 0
   have f1:=bf 1
   have f2:=bf 2
   have f3:=bf 3
   clear hb2 h2 hv hst2 bf hrd
   rcases hk with ⟨rfl,hts⟩ | ⟨k1,hts⟩
   ·have HTS:=hid hts
    clear hts
    have d0:w2.cell? ⟨w.heap.size + 1,0,none⟩ = some (.bool false):=by simp [World.cell?,HF2.out]
    have df:w2.frozen? ⟨w.heap.size + 1,0,none⟩ = false:=by simp [World.frozen?,HF2.out]
    go_wp2
    refine leaves_cons (f:=94) (args:=#[.pointer (some ⟨w.heap.size,0,none⟩),.pointer (some ⟨w.heap.size + 1,0,none⟩)]) (by simp) rfl ?_
    refine (catch_no w.heap.size (w.heap.size + 1) _).mono ?_
    rintro e u' w3 ⟨rfl,rfl,rfl⟩
    simp only [Leaves,settle]
    have hz2:=(HZ2.out.put (v0:=.string o1) (v1:=.float .f64 n1) (v2:=.string s1) (v3:=.slice x1 l1 c1)).put (v0:=.string o1) (v1:=.float .f64 n1) (v2:=.string s1) (v3:=.slice x1 l1 c1)
    have hf2:(putN (putN w2 w.heap.size (.string o1) (.float .f64 n1) (.string s1) (.slice x1 l1 c1)) w.heap.size (.string o1) (.float .f64 n1) (.string s1) (.slice x1 l1 c1)).heap[w.heap.size + 1]? = some (.cells #[.bool false] 4 (0,0)):=(putN_other (by omega)).trans ((putN_other (by omega)).trans HF2.out)
    refine ⟨_,read_res _ _ w.heap.size (w.heap.size + 1) _ _ _ _ _ rfl rfl ((set_other (by omega)).trans hz2.heap) (set_block hf2 _),?_⟩
    refine ⟨(below_put (below_put HB2.out.2 (Nat.le_refl _)) (Nat.le_refl _)).setCell (by simp) _,.inr ⟨t,_,by rw [HP.out,if_neg H1.out.1,HB2.out.1,HTS.out],rfl,?_⟩⟩
    exact (NodeV.kept (by rw [putN_size,putN_size];exact Nat.le_refl _) (fun b h1 _=>⟨h1,(putN_other h1.2.1).trans (putN_other h1.2.1)⟩) t _ HV2.out).set _ _ (fun h=>h.2.2 rfl) |>.sub (fun b h _=>h.1)
   ·have HTS:=hid hts
    have y:((k:Int) != 0) = true:=by simp;omega
    clear hts k1
    go_wp2
    refine leaves_cons (f:=94) (args:=#[.pointer (some ⟨w.heap.size,0,none⟩),.pointer (some ⟨w.heap.size + 1,0,none⟩)]) (by simp) rfl ?_
    have hz:=HZ2.out.put (v0:=.string o1) (v1:=.float .f64 n1) (v2:=.string s1) (v3:=.slice x1 l1 c1)
    have hf:(putN w2 w.heap.size (.string o1) (.float .f64 n1) (.string s1) (.slice x1 l1 c1)).heap[w.heap.size + 1]? = some (.cells #[.bool false] 4 (0,0)):=(putN_other (by omega)).trans HF2.out
    refine (catch_yes w.heap.size (w.heap.size + 1) _ (.bool false) _ [] _ hz hf (by omega)).mono ?_
    rintro e u' w3 ⟨rfl,rfl,rfl⟩
    simp only [settle]
    have hz2:=hz.put (v0:=.string ⟨#[]⟩) (v1:=.float .f64 0) (v2:=.string ⟨#[]⟩) (v3:=.slice none 0 0)
    refine ⟨_,read_res _ _ w.heap.size (w.heap.size + 1) _ _ _ _ _ rfl rfl ((set_other (by omega)).trans hz2.heap) (set_block ((putN_other (by omega)).trans hf) _),?_⟩
    refine ⟨(below_put (below_put HB2.out.2 (Nat.le_refl _)) (Nat.le_refl _)).setCell (by simp) _,.inl ⟨?_,rfl⟩⟩
    rw [HP.out,if_neg H1.out.1,HB2.out.1]
    cases hq:ts' with
    | nil=>exact absurd hq HTS.out
    | cons _ _=>rfl
end Go.Proofs.YtpcbamcelpcigaaGreat
