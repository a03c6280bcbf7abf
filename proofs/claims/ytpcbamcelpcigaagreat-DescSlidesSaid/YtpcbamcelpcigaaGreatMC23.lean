/- Own texts, merged. -/
import Derived.WalkKit
import Derived.Test.YtpcbamcelpcigaaGreatMC22
import Derived.Test.YtpcbamcelpcigaaGreatMC00
set_option maxRecDepth 100000
set_option maxHeartbeats 32000000
open Go.Lib (hid)
namespace Go.Proofs.YtpcbamcelpcigaaGreat
open Go.RowKit Go.Shelf
attribute [local go_sem] run_store_float
theorem REnd.drew {B:Nat} {res:Option (Tree × List Tok)} {w W:World} {e:Ending} (h:REnd B res w e W):REnd B res w e W.drew:=by
 obtain ⟨hb,v,he,o,n,s,x,l,c',y,m,d,bad,t,hv,hn,hc⟩:=h
 refine ⟨hb.drew,v,he,o,n,s,x,l,c',y,m,d,bad,t,hv,hn.drew,?_⟩
 rcases hc with h1 | ⟨h1,ts,h3,h4,h5⟩
 ·exact .inl h1
 ·exact .inr ⟨h1,ts,h3,h4.drew,h5⟩
theorem ratom_w0 (B n:Nat) (t:Tok) (r:List Tok) (hk:t.k = 2) (ho:t.s = wor) (v:Value) (w:World) (hl:(t :: r).length≤1000000) (hB:B≤w.heap.size) (hK:KOk (t :: r)) (hv:TokV B w v (t :: r)):Calls Tryz.prog 173 #[v] w (REnd B (P valV true (n + 1) .atom (t :: r)) w):=by
 have HRN:Hid (P valV true (n + 1) .atom (t :: r) = none):=hid (by rw [atom_word n t r hk,if_pos (by rw [ho];decide)])
 obtain ⟨res,hres⟩:∃ y,y = P valV true (n + 1) .atom (t :: r):=⟨_,rfl⟩
 rw [←hres] at HRN ⊢
 have HAI:=hid (AI.start (K:=119) (S:=t.s) hv hB)
 have HB:=hid hB
 have HIS:=hid (fun W (h:TokV B W v (t :: r))=>ris B v (t :: r) 4 (.inr rfl) [40] hK hl W h)
 have hq:isTok (t :: r) 4 [40] = false:=by simp [isTok,hk]
 rw [hq] at HIS
 have HK:=hid hK.tail
 obtain ⟨x,tn,tc,rfl⟩:=hv.agg
 obtain ⟨hpos,a,rfl,hab0,c0,c1⟩:=tok_first hv
 have hab:a.block < w.heap.size:=by omega
 have q3:((tn:Int) == 0) = false:=by simp;omega
 rw [hk,show kd 2 = 119 from rfl] at c0
 obtain ⟨y2,m2,d2,hsl,_⟩:=tok_slice hv
 have HSL:Hid (∀ W,TokV B W (.slice (some a) tn tc) (t :: r)→TokV B W (.slice y2 m2 d2) r):=hid (fun W hW=>by
  obtain ⟨y3,m3,d3,h1,h2⟩:=tok_slice hW
  have h3:=(hsl W).symm.trans (h1 W)
  cases h3
  exact h2)
 have b0:((tx t.s).toList == [111,114]) = true:=by rw [ho];exact tx_same _
 clear hres hK hB hk hab0 hl hq ho hv
 generalize t.s = S at c1 HAI b0
 go_enter Tryz.func173,Tryz.ntmps173
 go_upto_region 4 with (fail)
 generalize ((w.alloc (.cells #[.string ⟨#[]⟩,.float .f64 0,.string ⟨#[]⟩,.slice none 0 0,.slice none 0 0,.bool false] 121)).alloc (.cells #[.int .u8 119,.string (tx S)] 152)) = W1 at HAI ⊢
 obtain ⟨p0,p1⟩:=HAI.out.cells
 have hlt:=HAI.out.lt
 have HIS2:=hid (HIS.out W1 HAI.out.toks)
 clear c0 c1 HIS
 go_wp2_with (first | (go_at_call 148;refine (HIS2.out).mono ?_;rintro e w5 ⟨rfl,rfl⟩) | (go_at_call 191;fail))
 go_at_call 191
 refine (rbad B _).mono ?_
 rintro e w6 ⟨hb6,v6,rfl,hv6⟩
 obtain ⟨hz,o,nn,s,x2,l,c,y,m,d,bad,rfl,hend⟩:=rpass HB.out HAI.out.res HAI.out.bel hb6 hv6
 have HE:=hid hend
 obtain ⟨k0,k1,k2,k3,k4,k5⟩:=hz.cells
 have HZ:=hid hz
 have f0:=hz.fr 0
 have f1:=hz.fr 1
 have f2:=hz.fr 2
 have f3:=hz.fr 3
 have f4:=hz.fr 4
 have f5:=hz.fr 5
 clear hz hend hb6 hv6 HAI HIS2
 go_wp2
 rw [HRN.out]
 exact bodyPost_ret (read_node _ rfl _ _ w.heap.size _ _ _ _ _ _ rfl HZ.out.put) rfl HE.out
theorem ratom_w1 (B n:Nat) (t:Tok) (r:List Tok) (hk:t.k = 2) (ho:t.s = wand) (v:Value) (w:World) (hl:(t :: r).length≤1000000) (hB:B≤w.heap.size) (hK:KOk (t :: r)) (hv:TokV B w v (t :: r)):Calls Tryz.prog 173 #[v] w (REnd B (P valV true (n + 1) .atom (t :: r)) w):=by
 have HRN:Hid (P valV true (n + 1) .atom (t :: r) = none):=hid (by rw [atom_word n t r hk,if_pos (by rw [ho];decide)])
 obtain ⟨res,hres⟩:∃ y,y = P valV true (n + 1) .atom (t :: r):=⟨_,rfl⟩
 rw [←hres] at HRN ⊢
 have HAI:=hid (AI.start (K:=119) (S:=t.s) hv hB)
 have HB:=hid hB
 have HIS:=hid (fun W (h:TokV B W v (t :: r))=>ris B v (t :: r) 4 (.inr rfl) [40] hK hl W h)
 have hq:isTok (t :: r) 4 [40] = false:=by simp [isTok,hk]
 rw [hq] at HIS
 have HK:=hid hK.tail
 obtain ⟨x,tn,tc,rfl⟩:=hv.agg
 obtain ⟨hpos,a,rfl,hab0,c0,c1⟩:=tok_first hv
 have hab:a.block < w.heap.size:=by omega
 have q3:((tn:Int) == 0) = false:=by simp;omega
 rw [hk,show kd 2 = 119 from rfl] at c0
 obtain ⟨y2,m2,d2,hsl,_⟩:=tok_slice hv
 have HSL:Hid (∀ W,TokV B W (.slice (some a) tn tc) (t :: r)→TokV B W (.slice y2 m2 d2) r):=hid (fun W hW=>by
  obtain ⟨y3,m3,d3,h1,h2⟩:=tok_slice hW
  have h3:=(hsl W).symm.trans (h1 W)
  cases h3
  exact h2)
 have b0:((tx t.s).toList == [111,114]) = false:=tx_ne (by rw [ho];decide)
 have b1:((tx t.s).toList == [97,110,100]) = true:=by rw [ho];exact tx_same _
 clear hres hK hB hk hab0 hl hq ho hv
 generalize t.s = S at c1 HAI b0 b1
 go_enter Tryz.func173,Tryz.ntmps173
 go_upto_region 4 with (fail)
 generalize ((w.alloc (.cells #[.string ⟨#[]⟩,.float .f64 0,.string ⟨#[]⟩,.slice none 0 0,.slice none 0 0,.bool false] 121)).alloc (.cells #[.int .u8 119,.string (tx S)] 152)) = W1 at HAI ⊢
 obtain ⟨p0,p1⟩:=HAI.out.cells
 have hlt:=HAI.out.lt
 have HIS2:=hid (HIS.out W1 HAI.out.toks)
 clear c0 c1 HIS
 go_wp2_with (first | (go_at_call 148;refine (HIS2.out).mono ?_;rintro e w5 ⟨rfl,rfl⟩) | (go_at_call 191;fail))
 go_at_call 191
 refine (rbad B _).mono ?_
 rintro e w6 ⟨hb6,v6,rfl,hv6⟩
 obtain ⟨hz,o,nn,s,x2,l,c,y,m,d,bad,rfl,hend⟩:=rpass HB.out HAI.out.res HAI.out.bel hb6 hv6
 have HE:=hid hend
 obtain ⟨k0,k1,k2,k3,k4,k5⟩:=hz.cells
 have HZ:=hid hz
 have f0:=hz.fr 0
 have f1:=hz.fr 1
 have f2:=hz.fr 2
 have f3:=hz.fr 3
 have f4:=hz.fr 4
 have f5:=hz.fr 5
 clear hz hend hb6 hv6 HAI HIS2
 go_wp2
 rw [HRN.out]
 exact bodyPost_ret (read_node _ rfl _ _ w.heap.size _ _ _ _ _ _ rfl HZ.out.put) rfl HE.out
theorem ratom_w2 (B n:Nat) (t:Tok) (r:List Tok) (hk:t.k = 2) (ho:t.s = wnot) (v:Value) (w:World) (hl:(t :: r).length≤1000000) (hB:B≤w.heap.size) (hK:KOk (t :: r)) (hv:TokV B w v (t :: r)):Calls Tryz.prog 173 #[v] w (REnd B (P valV true (n + 1) .atom (t :: r)) w):=by
 have HRN:Hid (P valV true (n + 1) .atom (t :: r) = none):=hid (by rw [atom_word n t r hk,if_pos (by rw [ho];decide)])
 obtain ⟨res,hres⟩:∃ y,y = P valV true (n + 1) .atom (t :: r):=⟨_,rfl⟩
 rw [←hres] at HRN ⊢
 have HAI:=hid (AI.start (K:=119) (S:=t.s) hv hB)
 have HB:=hid hB
 have HIS:=hid (fun W (h:TokV B W v (t :: r))=>ris B v (t :: r) 4 (.inr rfl) [40] hK hl W h)
 have hq:isTok (t :: r) 4 [40] = false:=by simp [isTok,hk]
 rw [hq] at HIS
 have HK:=hid hK.tail
 obtain ⟨x,tn,tc,rfl⟩:=hv.agg
 obtain ⟨hpos,a,rfl,hab0,c0,c1⟩:=tok_first hv
 have hab:a.block < w.heap.size:=by omega
 have q3:((tn:Int) == 0) = false:=by simp;omega
 rw [hk,show kd 2 = 119 from rfl] at c0
 obtain ⟨y2,m2,d2,hsl,_⟩:=tok_slice hv
 have HSL:Hid (∀ W,TokV B W (.slice (some a) tn tc) (t :: r)→TokV B W (.slice y2 m2 d2) r):=hid (fun W hW=>by
  obtain ⟨y3,m3,d3,h1,h2⟩:=tok_slice hW
  have h3:=(hsl W).symm.trans (h1 W)
  cases h3
  exact h2)
 have b0:((tx t.s).toList == [111,114]) = false:=tx_ne (by rw [ho];decide)
 have b1:((tx t.s).toList == [97,110,100]) = false:=tx_ne (by rw [ho];decide)
 have b2:((tx t.s).toList == [110,111,116]) = true:=by rw [ho];exact tx_same _
 clear hres hK hB hk hab0 hl hq ho hv
 generalize t.s = S at c1 HAI b0 b1 b2
 go_enter Tryz.func173,Tryz.ntmps173
 go_upto_region 4 with (fail)
 generalize ((w.alloc (.cells #[.string ⟨#[]⟩,.float .f64 0,.string ⟨#[]⟩,.slice none 0 0,.slice none 0 0,.bool false] 121)).alloc (.cells #[.int .u8 119,.string (tx S)] 152)) = W1 at HAI ⊢
 obtain ⟨p0,p1⟩:=HAI.out.cells
 have hlt:=HAI.out.lt
 have HIS2:=hid (HIS.out W1 HAI.out.toks)
 clear c0 c1 HIS
 go_wp2_with (first | (go_at_call 148;refine (HIS2.out).mono ?_;rintro e w5 ⟨rfl,rfl⟩) | (go_at_call 191;fail))
 go_at_call 191
 refine (rbad B _).mono ?_
 rintro e w6 ⟨hb6,v6,rfl,hv6⟩
 obtain ⟨hz,o,nn,s,x2,l,c,y,m,d,bad,rfl,hend⟩:=rpass HB.out HAI.out.res HAI.out.bel hb6 hv6
 have HE:=hid hend
 obtain ⟨k0,k1,k2,k3,k4,k5⟩:=hz.cells
 have HZ:=hid hz
 have f0:=hz.fr 0
 have f1:=hz.fr 1
 have f2:=hz.fr 2
 have f3:=hz.fr 3
 have f4:=hz.fr 4
 have f5:=hz.fr 5
 clear hz hend hb6 hv6 HAI HIS2
 go_wp2
 rw [HRN.out]
 exact bodyPost_ret (read_node _ rfl _ _ w.heap.size _ _ _ _ _ _ rfl HZ.out.put) rfl HE.out
theorem ratom_w3 (B n:Nat) (H:RC B 83 0 .or 11 n) (t:Tok) (r:List Tok) (hk:t.k = 2) (ho:t.s = wlen) (v:Value) (w:World) (hn:12 * (t :: r).length + 1≤n + 1) (hl:(t :: r).length≤1000000) (hB:B≤w.heap.size) (hK:KOk (t :: r)) (hv:TokV B w v (t :: r)):Calls Tryz.prog 173 #[v] w (REnd B (P valV true (n + 1) .atom (t :: r)) w):=by
 have HRN:Hid (P valV true (n + 1) .atom (t :: r) = closeP t.s [] (argsP (P valV true n .or) 1 [40] r)):=hid (by rw [atom_word n t r hk,if_neg (by rw [ho];decide),if_pos (by rw [ho];decide)])
 obtain ⟨res,hres⟩:∃ y,y = P valV true (n + 1) .atom (t :: r):=⟨_,rfl⟩
 rw [←hres] at HRN ⊢
 have HCL:=hid (fun W v1 (hb:B≤W.heap.size) (ht:TokV B W v1 r)=>rcall B n H t.s 1 (by omega) r v1 W (by simp only [List.length_cons] at hn;omega) (by simp only [List.length_cons] at hl;omega) hb hK.tail ht)
 rw [←HRN.out] at HCL
 have HAI:=hid (AI.start (K:=119) (S:=t.s) hv hB)
 have HB:=hid hB
 have HIS:=hid (fun W (h:TokV B W v (t :: r))=>ris B v (t :: r) 4 (.inr rfl) [40] hK hl W h)
 have hq:isTok (t :: r) 4 [40] = false:=by simp [isTok,hk]
 rw [hq] at HIS
 have HK:=hid hK.tail
 obtain ⟨x,tn,tc,rfl⟩:=hv.agg
 obtain ⟨hpos,a,rfl,hab0,c0,c1⟩:=tok_first hv
 have hab:a.block < w.heap.size:=by omega
 have q3:((tn:Int) == 0) = false:=by simp;omega
 rw [hk,show kd 2 = 119 from rfl] at c0
 obtain ⟨y2,m2,d2,hsl,_⟩:=tok_slice hv
 have HSL:Hid (∀ W,TokV B W (.slice (some a) tn tc) (t :: r)→TokV B W (.slice y2 m2 d2) r):=hid (fun W hW=>by
  obtain ⟨y3,m3,d3,h1,h2⟩:=tok_slice hW
  have h3:=(hsl W).symm.trans (h1 W)
  cases h3
  exact h2)
 have b0:((tx t.s).toList == [111,114]) = false:=tx_ne (by rw [ho];decide)
 have b1:((tx t.s).toList == [97,110,100]) = false:=tx_ne (by rw [ho];decide)
 have b2:((tx t.s).toList == [110,111,116]) = false:=tx_ne (by rw [ho];decide)
 have b3:((tx t.s).toList == [108,101,110]) = true:=by rw [ho];exact tx_same _
 clear HRN
 clear hres hK hB hk hab0 hl hq ho hv H hn
 generalize t.s = S at c1 HAI HCL b0 b1 b2 b3
 go_enter Tryz.func173,Tryz.ntmps173
 go_upto_region 4 with (fail)
 generalize ((w.alloc (.cells #[.string ⟨#[]⟩,.float .f64 0,.string ⟨#[]⟩,.slice none 0 0,.slice none 0 0,.bool false] 121)).alloc (.cells #[.int .u8 119,.string (tx S)] 152)) = W1 at HAI ⊢
 obtain ⟨p0,p1⟩:=HAI.out.cells
 have hlt:=HAI.out.lt
 have HIS2:=hid (HIS.out W1 HAI.out.toks)
 clear c0 c1 HIS
 go_wp2_with (first | (go_at_call 148;refine (HIS2.out).mono ?_;rintro e w5 ⟨rfl,rfl⟩))
 have HS0:Hid (W1.drew.cell? ⟨w.heap.size + 1,1,none⟩ = some (.string (tx S))):=hid p1
 refine wp_region_held (S:=(fun w'=>w'.cell? ⟨w.heap.size + 1,1,none⟩ = some (.string (tx S)))) (by kernel_rfl) ?_
 change wpAnyH _ _ _ _ _ _ _ _ (World.drew _)
 refine tkH (i:=0) HS0.out ?_
 try simp only [Act.put,zz1]
 refine tkH (i:=1) HS0.out ?_
 try simp only [Act.put]
 refine tkH (i:=2) HS0.out ?_
 try simp only [Act.put]
 refine tkH (i:=3) HS0.out ?_
 try simp only [Act.put]
 refine wpAnyH_ready (rs:=[4]) (by kernel_rfl) (by simp) ?_
 refine AllReadyH.cons rfl (fun K hK=>?_) AllReadyH.nil
 go_simp
 go_wp2_with (first | (go_at_call 193;fail))
 refine (HCL.out W1.drew _ (by have:=HB.out;show B≤W1.heap.size;omega) (HSL.out _ HAI.out.toks.drew)).mono ?_
 rintro e w6 ⟨hb6,v6,rfl,hv6⟩
 obtain ⟨hz,o,nn,s,x2,l,c,y,m,d,bad,rfl,hend⟩:=rpass HB.out HAI.out.res.drew HAI.out.bel.drew hb6 hv6
 have HS6:Hid (w6.cell? ⟨w.heap.size + 1,1,none⟩ = some (.string (tx S))):=hid ((AI.below HAI.out HB.out ((Below.refl _ _).drew.trans hb6)).cells.2)
 have HS7:Hid ((putR w6 w.heap.size (.string o) (.float .f64 nn) (.string s) (.slice x2 l c) (.slice y m d) (.bool bad)).cell? ⟨w.heap.size + 1,1,none⟩ = some (.string (tx S))):=hid (cell_same (putR_other (by show w.heap.size + 1≠w.heap.size;omega)) HS6.out)
 have HE:=hid hend
 obtain ⟨k0,k1,k2,k3,k4,k5⟩:=hz.cells
 have HZ:=hid hz
 have f0:=hz.fr 0
 have f1:=hz.fr 1
 have f2:=hz.fr 2
 have f3:=hz.fr 3
 have f4:=hz.fr 4
 have f5:=hz.fr 5
 clear hz hend hb6 hv6 HAI HIS2
 refine hK.out _ _ HS6.out (fun _=>?_)
 clear hK K
 try simp only [Act.put,zz1,zz2,zz3]
 refine wpAnyH_ready (rs:=[5]) (by kernel_rfl) (by simp) ?_
 refine AllReadyH.cons rfl (fun K hK=>?_) AllReadyH.nil
 go_simp
 refine hK.out _ _ HS7.out (fun _=>?_)
 clear hK K
 try simp only [Act.put,zz1,zz2,zz3]
 refine wpAnyH_done (by kernel_rfl) ?_ _
 go_wp2
 exact bodyPost_ret (read_node _ rfl _ _ w.heap.size _ _ _ _ _ _ rfl HZ.out.put) rfl HE.out
theorem ratom_w4 (B n:Nat) (H:RC B 83 0 .or 11 n) (t:Tok) (r:List Tok) (hk:t.k = 2) (ho:t.s = wabs) (v:Value) (w:World) (hn:12 * (t :: r).length + 1≤n + 1) (hl:(t :: r).length≤1000000) (hB:B≤w.heap.size) (hK:KOk (t :: r)) (hv:TokV B w v (t :: r)):Calls Tryz.prog 173 #[v] w (REnd B (P valV true (n + 1) .atom (t :: r)) w):=by
 have HRN:Hid (P valV true (n + 1) .atom (t :: r) = closeP t.s [] (argsP (P valV true n .or) 1 [40] r)):=hid (by rw [atom_word n t r hk,if_neg (by rw [ho];decide),if_pos (by rw [ho];decide)])
 obtain ⟨res,hres⟩:∃ y,y = P valV true (n + 1) .atom (t :: r):=⟨_,rfl⟩
 rw [←hres] at HRN ⊢
 have HCL:=hid (fun W v1 (hb:B≤W.heap.size) (ht:TokV B W v1 r)=>rcall B n H t.s 1 (by omega) r v1 W (by simp only [List.length_cons] at hn;omega) (by simp only [List.length_cons] at hl;omega) hb hK.tail ht)
 rw [←HRN.out] at HCL
 have HAI:=hid (AI.start (K:=119) (S:=t.s) hv hB)
 have HB:=hid hB
 have HIS:=hid (fun W (h:TokV B W v (t :: r))=>ris B v (t :: r) 4 (.inr rfl) [40] hK hl W h)
 have hq:isTok (t :: r) 4 [40] = false:=by simp [isTok,hk]
 rw [hq] at HIS
 have HK:=hid hK.tail
 obtain ⟨x,tn,tc,rfl⟩:=hv.agg
 obtain ⟨hpos,a,rfl,hab0,c0,c1⟩:=tok_first hv
 have hab:a.block < w.heap.size:=by omega
 have q3:((tn:Int) == 0) = false:=by simp;omega
 rw [hk,show kd 2 = 119 from rfl] at c0
 obtain ⟨y2,m2,d2,hsl,_⟩:=tok_slice hv
 have HSL:Hid (∀ W,TokV B W (.slice (some a) tn tc) (t :: r)→TokV B W (.slice y2 m2 d2) r):=hid (fun W hW=>by
  obtain ⟨y3,m3,d3,h1,h2⟩:=tok_slice hW
  have h3:=(hsl W).symm.trans (h1 W)
  cases h3
  exact h2)
 have b0:((tx t.s).toList == [111,114]) = false:=tx_ne (by rw [ho];decide)
 have b1:((tx t.s).toList == [97,110,100]) = false:=tx_ne (by rw [ho];decide)
 have b2:((tx t.s).toList == [110,111,116]) = false:=tx_ne (by rw [ho];decide)
 have b3:((tx t.s).toList == [108,101,110]) = false:=tx_ne (by rw [ho];decide)
 have b4:((tx t.s).toList == [97,98,115]) = true:=by rw [ho];exact tx_same _
 clear HRN
 clear hres hK hB hk hab0 hl hq ho hv H hn
 generalize t.s = S at c1 HAI HCL b0 b1 b2 b3 b4
 go_enter Tryz.func173,Tryz.ntmps173
 go_upto_region 4 with (fail)
 generalize ((w.alloc (.cells #[.string ⟨#[]⟩,.float .f64 0,.string ⟨#[]⟩,.slice none 0 0,.slice none 0 0,.bool false] 121)).alloc (.cells #[.int .u8 119,.string (tx S)] 152)) = W1 at HAI ⊢
 obtain ⟨p0,p1⟩:=HAI.out.cells
 have hlt:=HAI.out.lt
 have HIS2:=hid (HIS.out W1 HAI.out.toks)
 clear c0 c1 HIS
 go_wp2_with (first | (go_at_call 148;refine (HIS2.out).mono ?_;rintro e w5 ⟨rfl,rfl⟩))
 have HS0:Hid (W1.drew.cell? ⟨w.heap.size + 1,1,none⟩ = some (.string (tx S))):=hid p1
 refine wp_region_held (S:=(fun w'=>w'.cell? ⟨w.heap.size + 1,1,none⟩ = some (.string (tx S)))) (by kernel_rfl) ?_
 change wpAnyH _ _ _ _ _ _ _ _ (World.drew _)
 refine tkH (i:=0) HS0.out ?_
 try simp only [Act.put,zz1]
 refine tkH (i:=1) HS0.out ?_
 try simp only [Act.put]
 refine tkH (i:=2) HS0.out ?_
 try simp only [Act.put]
 refine tkH (i:=3) HS0.out ?_
 try simp only [Act.put]
 refine wpAnyH_ready (rs:=[4]) (by kernel_rfl) (by simp) ?_
 refine AllReadyH.cons rfl (fun K hK=>?_) AllReadyH.nil
 go_simp
 go_wp2_with (first | (go_at_call 193;fail))
 refine (HCL.out W1.drew _ (by have:=HB.out;show B≤W1.heap.size;omega) (HSL.out _ HAI.out.toks.drew)).mono ?_
 rintro e w6 ⟨hb6,v6,rfl,hv6⟩
 obtain ⟨hz,o,nn,s,x2,l,c,y,m,d,bad,rfl,hend⟩:=rpass HB.out HAI.out.res.drew HAI.out.bel.drew hb6 hv6
 have HS6:Hid (w6.cell? ⟨w.heap.size + 1,1,none⟩ = some (.string (tx S))):=hid ((AI.below HAI.out HB.out ((Below.refl _ _).drew.trans hb6)).cells.2)
 have HS7:Hid ((putR w6 w.heap.size (.string o) (.float .f64 nn) (.string s) (.slice x2 l c) (.slice y m d) (.bool bad)).cell? ⟨w.heap.size + 1,1,none⟩ = some (.string (tx S))):=hid (cell_same (putR_other (by show w.heap.size + 1≠w.heap.size;omega)) HS6.out)
 have HE:=hid hend
 obtain ⟨k0,k1,k2,k3,k4,k5⟩:=hz.cells
 have HZ:=hid hz
 have f0:=hz.fr 0
 have f1:=hz.fr 1
 have f2:=hz.fr 2
 have f3:=hz.fr 3
 have f4:=hz.fr 4
 have f5:=hz.fr 5
 clear hz hend hb6 hv6 HAI HIS2
 refine hK.out _ _ HS6.out (fun _=>?_)
 clear hK K
 try simp only [Act.put,zz1,zz2,zz3]
 refine wpAnyH_ready (rs:=[5]) (by kernel_rfl) (by simp) ?_
 refine AllReadyH.cons rfl (fun K hK=>?_) AllReadyH.nil
 go_simp
 refine hK.out _ _ HS7.out (fun _=>?_)
 clear hK K
 try simp only [Act.put,zz1,zz2,zz3]
 refine wpAnyH_done (by kernel_rfl) ?_ _
 go_wp2
 exact bodyPost_ret (read_node _ rfl _ _ w.heap.size _ _ _ _ _ _ rfl HZ.out.put) rfl HE.out
theorem ratom_w5 (B n:Nat) (H:RC B 83 0 .or 11 n) (t:Tok) (r:List Tok) (hk:t.k = 2) (ho:t.s = whas) (v:Value) (w:World) (hn:12 * (t :: r).length + 1≤n + 1) (hl:(t :: r).length≤1000000) (hB:B≤w.heap.size) (hK:KOk (t :: r)) (hv:TokV B w v (t :: r)):Calls Tryz.prog 173 #[v] w (REnd B (P valV true (n + 1) .atom (t :: r)) w):=by
 have HRN:Hid (P valV true (n + 1) .atom (t :: r) = closeP t.s [] (argsP (P valV true n .or) 2 [40] r)):=hid (by rw [atom_word n t r hk,if_neg (by rw [ho];decide),if_neg (by rw [ho];decide),if_pos ho,ho])
 obtain ⟨res,hres⟩:∃ y,y = P valV true (n + 1) .atom (t :: r):=⟨_,rfl⟩
 rw [←hres] at HRN ⊢
 have HCL:=hid (fun W v1 (hb:B≤W.heap.size) (ht:TokV B W v1 r)=>rcall B n H t.s 2 (by omega) r v1 W (by simp only [List.length_cons] at hn;omega) (by simp only [List.length_cons] at hl;omega) hb hK.tail ht)
 rw [←HRN.out] at HCL
 have HAI:=hid (AI.start (K:=119) (S:=t.s) hv hB)
 have HB:=hid hB
 have HIS:=hid (fun W (h:TokV B W v (t :: r))=>ris B v (t :: r) 4 (.inr rfl) [40] hK hl W h)
 have hq:isTok (t :: r) 4 [40] = false:=by simp [isTok,hk]
 rw [hq] at HIS
 have HK:=hid hK.tail
 obtain ⟨x,tn,tc,rfl⟩:=hv.agg
 obtain ⟨hpos,a,rfl,hab0,c0,c1⟩:=tok_first hv
 have hab:a.block < w.heap.size:=by omega
 have q3:((tn:Int) == 0) = false:=by simp;omega
 rw [hk,show kd 2 = 119 from rfl] at c0
 obtain ⟨y2,m2,d2,hsl,_⟩:=tok_slice hv
 have HSL:Hid (∀ W,TokV B W (.slice (some a) tn tc) (t :: r)→TokV B W (.slice y2 m2 d2) r):=hid (fun W hW=>by
  obtain ⟨y3,m3,d3,h1,h2⟩:=tok_slice hW
  have h3:=(hsl W).symm.trans (h1 W)
  cases h3
  exact h2)
 have b0:((tx t.s).toList == [111,114]) = false:=tx_ne (by rw [ho];decide)
 have b1:((tx t.s).toList == [97,110,100]) = false:=tx_ne (by rw [ho];decide)
 have b2:((tx t.s).toList == [110,111,116]) = false:=tx_ne (by rw [ho];decide)
 have b3:((tx t.s).toList == [108,101,110]) = false:=tx_ne (by rw [ho];decide)
 have b4:((tx t.s).toList == [97,98,115]) = false:=tx_ne (by rw [ho];decide)
 have b5:((tx t.s).toList == [104,97,115]) = true:=by rw [ho];exact tx_same _
 clear HRN
 clear hres hK hB hk hab0 hl hq ho hv H hn
 generalize t.s = S at c1 HAI HCL b0 b1 b2 b3 b4 b5
 go_enter Tryz.func173,Tryz.ntmps173
 go_upto_region 4 with (fail)
 generalize ((w.alloc (.cells #[.string ⟨#[]⟩,.float .f64 0,.string ⟨#[]⟩,.slice none 0 0,.slice none 0 0,.bool false] 121)).alloc (.cells #[.int .u8 119,.string (tx S)] 152)) = W1 at HAI ⊢
 obtain ⟨p0,p1⟩:=HAI.out.cells
 have hlt:=HAI.out.lt
 have HIS2:=hid (HIS.out W1 HAI.out.toks)
 clear c0 c1 HIS
 go_wp2_with (first | (go_at_call 148;refine (HIS2.out).mono ?_;rintro e w5 ⟨rfl,rfl⟩))
 have HS0:Hid (W1.drew.cell? ⟨w.heap.size + 1,1,none⟩ = some (.string (tx S))):=hid p1
 refine wp_region_held (S:=(fun w'=>w'.cell? ⟨w.heap.size + 1,1,none⟩ = some (.string (tx S)))) (by kernel_rfl) ?_
 change wpAnyH _ _ _ _ _ _ _ _ (World.drew _)
 refine tkH (i:=0) HS0.out ?_
 try simp only [Act.put,zz1]
 refine tkH (i:=1) HS0.out ?_
 try simp only [Act.put]
 refine tkH (i:=2) HS0.out ?_
 try simp only [Act.put]
 refine tkH (i:=3) HS0.out ?_
 try simp only [Act.put]
 refine wpAnyH_ready (rs:=[4]) (by kernel_rfl) (by simp) ?_
 refine AllReadyH.cons rfl (fun K hK=>?_) AllReadyH.nil
 go_simp
 go_wp2_with (first | (go_at_call 193;fail))
 refine (HCL.out W1.drew _ (by have:=HB.out;show B≤W1.heap.size;omega) (HSL.out _ HAI.out.toks.drew)).mono ?_
 rintro e w6 ⟨hb6,v6,rfl,hv6⟩
 obtain ⟨hz,o,nn,s,x2,l,c,y,m,d,bad,rfl,hend⟩:=rpass HB.out HAI.out.res.drew HAI.out.bel.drew hb6 hv6
 have HS6:Hid (w6.cell? ⟨w.heap.size + 1,1,none⟩ = some (.string (tx S))):=hid ((AI.below HAI.out HB.out ((Below.refl _ _).drew.trans hb6)).cells.2)
 have HS7:Hid ((putR w6 w.heap.size (.string o) (.float .f64 nn) (.string s) (.slice x2 l c) (.slice y m d) (.bool bad)).cell? ⟨w.heap.size + 1,1,none⟩ = some (.string (tx S))):=hid (cell_same (putR_other (by show w.heap.size + 1≠w.heap.size;omega)) HS6.out)
 have HE:=hid hend
 obtain ⟨k0,k1,k2,k3,k4,k5⟩:=hz.cells
 have HZ:=hid hz
 have f0:=hz.fr 0
 have f1:=hz.fr 1
 have f2:=hz.fr 2
 have f3:=hz.fr 3
 have f4:=hz.fr 4
 have f5:=hz.fr 5
 clear hz hend hb6 hv6 HAI HIS2
 refine hK.out _ _ HS6.out (fun _=>?_)
 clear hK K
 try simp only [Act.put,zz1,zz2,zz3]
 refine wpAnyH_ready (rs:=[5]) (by kernel_rfl) (by simp) ?_
 refine AllReadyH.cons rfl (fun K hK=>?_) AllReadyH.nil
 go_simp
 refine hK.out _ _ HS7.out (fun _=>?_)
 clear hK K
 try simp only [Act.put,zz1,zz2,zz3]
 refine wpAnyH_done (by kernel_rfl) ?_ _
 go_wp2
 exact bodyPost_ret (read_node _ rfl _ _ w.heap.size _ _ _ _ _ _ rfl HZ.out.put) rfl HE.out
theorem ratom_w6 (B n:Nat) (t:Tok) (r:List Tok) (hk:t.k = 2) (ho:t.s≠wor∧t.s≠wand∧t.s≠wnot∧t.s≠wlen∧t.s≠wabs∧t.s≠whas) (v:Value) (w:World) (hl:(t :: r).length≤1000000) (hB:B≤w.heap.size) (hK:KOk (t :: r)) (hv:TokV B w v (t :: r)):Calls Tryz.prog 173 #[v] w (REnd B (P valV true (n + 1) .atom (t :: r)) w):=by
 have HRN:Hid (P valV true (n + 1) .atom (t :: r) = some (.mk wname 0 t.s [],r)):=hid (by rw [atom_word n t r hk,if_neg (fun h=>h.elim ho.1 (fun h=>h.elim ho.2.1 ho.2.2.1)),if_neg (fun h=>h.elim ho.2.2.2.1 ho.2.2.2.2.1),if_neg ho.2.2.2.2.2])
 obtain ⟨res,hres⟩:∃ y,y = P valV true (n + 1) .atom (t :: r):=⟨_,rfl⟩
 rw [←hres] at HRN ⊢
 have HAI:=hid (AI.start (K:=119) (S:=t.s) hv hB)
 have HB:=hid hB
 have HIS:=hid (fun W (h:TokV B W v (t :: r))=>ris B v (t :: r) 4 (.inr rfl) [40] hK hl W h)
 have hq:isTok (t :: r) 4 [40] = false:=by simp [isTok,hk]
 rw [hq] at HIS
 have HK:=hid hK.tail
 obtain ⟨x,tn,tc,rfl⟩:=hv.agg
 obtain ⟨hpos,a,rfl,hab0,c0,c1⟩:=tok_first hv
 have hab:a.block < w.heap.size:=by omega
 have q3:((tn:Int) == 0) = false:=by simp;omega
 rw [hk,show kd 2 = 119 from rfl] at c0
 obtain ⟨y2,m2,d2,hsl,_⟩:=tok_slice hv
 have HSL:Hid (∀ W,TokV B W (.slice (some a) tn tc) (t :: r)→TokV B W (.slice y2 m2 d2) r):=hid (fun W hW=>by
  obtain ⟨y3,m3,d3,h1,h2⟩:=tok_slice hW
  have h3:=(hsl W).symm.trans (h1 W)
  cases h3
  exact h2)
 have b0:((tx t.s).toList == [111,114]) = false:=tx_ne ho.1
 have b1:((tx t.s).toList == [97,110,100]) = false:=tx_ne ho.2.1
 have b2:((tx t.s).toList == [110,111,116]) = false:=tx_ne ho.2.2.1
 have b3:((tx t.s).toList == [108,101,110]) = false:=tx_ne ho.2.2.2.1
 have b4:((tx t.s).toList == [97,98,115]) = false:=tx_ne ho.2.2.2.2.1
 have b5:((tx t.s).toList == [104,97,115]) = false:=tx_ne ho.2.2.2.2.2
 clear hres hK hB hk hab0 hl hq ho hv
 generalize t.s = S at c1 HAI HRN b0 b1 b2 b3 b4 b5
 go_enter Tryz.func173,Tryz.ntmps173
 go_upto_region 4 with (fail)
 generalize ((w.alloc (.cells #[.string ⟨#[]⟩,.float .f64 0,.string ⟨#[]⟩,.slice none 0 0,.slice none 0 0,.bool false] 121)).alloc (.cells #[.int .u8 119,.string (tx S)] 152)) = W1 at HAI ⊢
 obtain ⟨p0,p1⟩:=HAI.out.cells
 have hlt:=HAI.out.lt
 have HIS2:=hid (HIS.out W1 HAI.out.toks)
 have HE:=hid (leaf_end (op:=wname) (s:=S) (n:=0) HB.out HAI.out.res HAI.out.bel (HSL.out W1 HAI.out.toks) HK.out)
 rw [←HRN.out] at HE
 have hz:=HAI.out.res
 obtain ⟨k0,k1,k2,k3,k4,k5⟩:=hz.cells
 have HZ:=hid hz
 have f0:=hz.fr 0
 have f1:=hz.fr 1
 have f2:=hz.fr 2
 have f3:=hz.fr 3
 have f4:=hz.fr 4
 have f5:=hz.fr 5
 clear c0 c1 HIS hz HZ HAI HSL HRN
 go_wp2_with (first | (go_at_call 148;refine (HIS2.out).mono ?_;rintro e w5 ⟨rfl,rfl⟩))
 go_region
 go_wp2
 exact bodyPost_ret (read_node _ rfl _ _ w.heap.size _ _ _ _ _ _ rfl HE.out.1) rfl HE.out.2
end Go.Proofs.YtpcbamcelpcigaaGreat
namespace Go.Proofs.YtpcbamcelpcigaaGreat
open Go.RowKit Go.Shelf
theorem ratom_step (B n : Nat) (H : RC B 83 0 .or 11 n) : RT B 173 .atom 1 (n + 1) := by
  intro ts v w hn hl hB hK hv
  cases ts with
  | nil => exact ratom_nil B n v w hB hv
  | cons t r =>
    rcases (hK t (by simp)).1 with hk | hk | hk | hk
    · exact ratom_num B n t r hk v w hB hK hv
    · by_cases h0 : t.s = wor
      · exact ratom_w0 B n t r hk h0 v w hl hB hK hv
      · by_cases h1 : t.s = wand
        · exact ratom_w1 B n t r hk h1 v w hl hB hK hv
        · by_cases h2 : t.s = wnot
          · exact ratom_w2 B n t r hk h2 v w hl hB hK hv
          · by_cases h3 : t.s = wlen
            · exact ratom_w3 B n H t r hk h3 v w hn hl hB hK hv
            · by_cases h4 : t.s = wabs
              · exact ratom_w4 B n H t r hk h4 v w hn hl hB hK hv
              · by_cases h5 : t.s = whas
                · exact ratom_w5 B n H t r hk h5 v w hn hl hB hK hv
                · exact ratom_w6 B n t r hk ⟨h0, h1, h2, h3, h4, h5⟩ v w hl hB hK hv
    · exact ratom_text B n t r hk v w hB hK hv
    · exact ratom_sign B n H t r hk v w hn hl hB hK hv
theorem rreaders (B : Nat) : ∀ n k, k ≤ n → (∀ lv, lv < 4 → RC B 83 lv (lm lv) (lvlR lv) k) ∧ RT B 146 .not 7 k ∧ RT B 147 .signed 2 k ∧ RT B 173 .atom 1 k := by
  intro n
  induction n with
  | zero =>
    intro k hk
    obtain rfl : k = 0 := by omega
    refine ⟨fun lv hlv ts v w h => ?_, fun ts v w h => by omega, fun ts v w h => by omega, fun ts v w h => by omega⟩
    match lv, hlv with
    | 0, _ => simp [lvlR] at h
    | 1, _ => simp [lvlR] at h
    | 2, _ => simp [lvlR] at h
    | 3, _ => simp [lvlR] at h
  | succ n ih =>
    intro k hk
    by_cases h : k ≤ n
    · exact ih k h
    · obtain rfl : k = n + 1 := by omega
      have hn := ih n (Nat.le_refl _)
      refine ⟨fun lv hlv => rrow_step B lv hlv n (fun k h => ?_), rtruth_step B n hn.2.1 (hn.1 2 (by decide)), rsigned_step B n hn.2.2.1 hn.2.2.2, ratom_step B n (hn.1 0 (by decide))⟩
      have hk := ih k h
      exact rpart B k (hk.1 1 (by decide)) hk.2.1 (hk.1 3 (by decide)) hk.2.2.1 lv hlv
theorem rread (B:Nat) (ts:List Tok) (v:Value) (w:World) (n:Nat) (hn:12 * ts.length + 11≤n) (hl:ts.length≤1000000) (hB:B≤w.heap.size) (hK:KOk ts) (hv:TokV B w v ts):Calls Tryz.prog 83 #[v,.int .i64 0] w (REnd B (P valV true n .or ts) w):=
 ((rreaders B n n (Nat.le_refl _)).1 0 (by decide)) ts v w hn hl hB hK hv
end Go.Proofs.YtpcbamcelpcigaaGreat
namespace Go.Proofs.YtpcbamcelpcigaaGreat
open Go.RowKit Go.Shelf
attribute [local go_sem] run_store_float
theorem rdepth : ∀ (n : Nat) (t : Tree), szT t ≤ n → ∀ (A : Nat → Prop) (v : Value) (w : World), szT t ≤ 1000000 → NodeV A w v t →
    Calls Tryz.prog 84 #[v] w fun e w' => e = .returned (.int .i64 (depT t)) ∧ Below w.heap.size w w' := by
  intro n
  induction n with
  | zero => intro t h; cases t; simp only [szT] at h; omega
  | succ n ih =>
    intro t hn A v w hd hv
    obtain ⟨op, fn, s, l⟩ := t
    have HV := hid hv
    obtain ⟨x, cap, rfl, hcap, hx, hch⟩ := hv
    have HIH := hid ih
    have HN := hid (show szL l ≤ n by simp only [szT] at hn; omega)
    have HD := hid (show 1 + szL l ≤ 1000000 by simpa only [szT] using hd)
    have hdd := hid (show depL l ≤ 1000000 by have := depL_sz l; have := HD.out; omega)
    have HC := hid hch
    have hll : l.length ≤ 1000000 := by have := len_szL l; have := HD.out; omega
    have HX := hid hx
    have hdt : depT (.mk op fn s l) = depL l + 1 := by simp only [depT]
    rw [hdt]
    obtain ⟨N, hN⟩ : ∃ N, N = l.length := ⟨_, rfl⟩
    rw [← hN] at hll hcap HV ⊢
    have HNL := hid hN
    clear hN hn hd hch hx ih hdt
    go_enter Tryz.func84, Tryz.ntmps84
    go_wp2_with fail
    go_loopg [3, 4] N (fun gh m i wr => ∃ j : Nat, j + gh = N ∧ i = .int .i64 j ∧ m = .int .i64 (depL (l.take j)) ∧ Hid (Below w.heap.size w wr) ∧ Hid (NB wr w.heap.size (.agg #[.string (tx op), .float .f64 fn, .string (tx s), .slice x N cap])))
    case atStart => exact ⟨0, by omega, rfl, rfl, hid ((Below.refl _ _).alloc (Nat.le_refl _) _), hid ⟨_, _, _, _, rfl, heap_alloc_new _ _⟩⟩
    case round =>
      obtain ⟨j, hj, rfl, rfl, HB, HNB⟩ := hrel
      obtain ⟨p0, p1, p2, p3, _⟩ := HNB.out.cells
      have hbl := HNB.out.lt
      by_cases q : j < N
      · have hjl : j < l.length := by have := HNL.out; omega
        obtain ⟨a, rfl⟩ : ∃ a, x = some a := by
          cases x with
          | none => have := HX.out rfl; rw [this] at hjl; cases hjl
          | some a => exact ⟨a, rfl⟩
        obtain ⟨v0, v1, v2, v3, e0, e1, e2, e3, hnode⟩ := NodesV.get l 0 (HC.out a rfl).2 j hjl
        rw [Nat.zero_add] at e0 e1 e2 e3
        have hab : a.block < w.heap.size := ((HC.out a rfl).1 (nil_not hjl)).2
        have hs : ∀ k, wr.heap[(a.add k).block]? = w.heap[(a.add k).block]? := fun k => by rw [add_block]; exact HB.out.block _ hab
        have d0 := cell_same (hs _) e0
        have d1 := cell_same (hs _) e1
        have d2 := cell_same (hs _) e2
        have d3 := cell_same (hs _) e3
        rw [add_lit _ _ _ (by decide)] at d1 d2 d3
        clear e0 e1 e2 e3 hs
        obtain ⟨o1, n1, s1, x1, l1, c1, hag⟩ := hnode.agg
        cases hag
        have HNODE := hid hnode
        clear hnode
        have HSN : Hid (depL (l.take (j + 1)) = max (depL (l.take j)) (depT l[j])) := hid (by rw [List.take_succ_eq_append_getElem hjl, depL_snoc])
        have HBD := hid (show depL (l.take j) ≤ 1000000 ∧ depL (l.take (j + 1)) ≤ 1000000 by have := depL_take l j; have := depL_take l (j + 1); have := hdd.out; omega)
        have HCH : Hid (∀ W, Below w.heap.size w W → Calls Tryz.prog 84 #[.agg #[.string o1, .float .f64 n1, .string s1, .slice x1 l1 c1]] W fun e w' => e = .returned (.int .i64 (depT l[j])) ∧ Below W.heap.size W w') := hid (fun W hW => by
          have h1 := szL_get l j hjl
          have h2 := HN.out
          have h3 := HD.out
          exact HIH.out l[j] (by omega) A _ W (by omega) (HNODE.out.below hW))
        obtain ⟨P1, hP1⟩ : ∃ P1, P1 = depL (l.take j) := ⟨_, rfl⟩
        obtain ⟨P2, hP2⟩ : ∃ P2, P2 = depL (l.take (j + 1)) := ⟨_, rfl⟩
        obtain ⟨P3, hP3⟩ : ∃ P3, P3 = depT l[j] := ⟨_, rfl⟩
        rw [← hP1, ← hP2] at HBD
        rw [← hP1, ← hP2, ← hP3] at HSN
        rw [← hP3] at HCH
        rw [← hP1]
        have HP2 := hid hP2
        have hmx : max (P1 : Int) (P3 : Int) = (P2 : Int) := by have := HSN.out; omega
        clear hP1 hP2 hP3
        go_wp2_with (first | (go_at_call 84; fail))
        refine (HCH.out _ HB.out).mono ?_
        rintro e w2 ⟨rfl, hb2⟩
        have HB2 := hid (HB.out.trans (below_le hb2 HB.out.size))
        have HNB2 := hid (HNB.out.below hb2)
        clear hb2 d0 d1 d2 d3
        go_wp2
        go_roundg (gk - 1)
        case measure => omega
        case rel => exact ⟨j + 1, by omega, by go_num, by rw [← HP2.out], HB2, HNB2⟩
      · have e : j = l.length := by have := HNL.out; omega
        rw [show l.take j = l by rw [e, List.take_length]]
        have hd2 := hdd.out
        obtain ⟨D, hD⟩ : ∃ D, D = depL l := ⟨_, rfl⟩
        have HDV := hid hD
        rw [← hD] at hd2 ⊢
        clear e hD
        go_wp2
        go_ret
        exact ⟨by rw [← HDV.out]; rfl, HB.out⟩
end Go.Proofs.YtpcbamcelpcigaaGreat
