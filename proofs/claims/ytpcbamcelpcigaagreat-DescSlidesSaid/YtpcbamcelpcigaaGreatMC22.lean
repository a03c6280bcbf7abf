/- Own texts, merged. -/
import Derived.WalkKit
import Derived.Test.YtpcbamcelpcigaaGreatMC21
import Derived.Test.YtpcbamcelpcigaaGreatMC00
set_option maxRecDepth 100000
set_option maxHeartbeats 32000000
open Go.Lib (hid)
namespace Go.Proofs.YtpcbamcelpcigaaGreat
open Go.RowKit Go.Shelf
attribute [local go_sem] run_store_float
structure CLI (w:World) (op:Bs) (D:List Tree) (v:Value) (W:World):Prop where
 node:NB W (w.heap.size + 1) (.agg #[.string (tx op),.float .f64 0,.string ⟨#[]⟩,v])
 row:TreeRow (w.heap.size + 2) W v D
 res:RB W w.heap.size (.string ⟨#[]⟩) (.float .f64 0) (.string ⟨#[]⟩) (.slice none 0 0) (.slice none 0 0) (.bool false)
 bel:Below w.heap.size w W
theorem CLI.below {w:World} {op:Bs} {D:List Tree} {v:Value} {W W':World} (h:CLI w op D v W) (hb:Below W.heap.size W W'):CLI w op D v W':=
 ⟨h.node.below hb,h.row.below hb,h.res.below hb,h.bel.trans (below_le hb h.bel.size)⟩
theorem CLI.start (w:World) (op:Bs):CLI w op [] (.slice none 0 0) ((w.alloc (.cells #[.string ⟨#[]⟩,.float .f64 0,.string ⟨#[]⟩,.slice none 0 0,.slice none 0 0,.bool false] 121)).alloc (.cells #[.string (tx op),.float .f64 0,.string ⟨#[]⟩,.slice none 0 0] 87)):=by
 have hr:RB (w.alloc (.cells #[.string ⟨#[]⟩,.float .f64 0,.string ⟨#[]⟩,.slice none 0 0,.slice none 0 0,.bool false] 121)) w.heap.size _ _ _ _ _ _:=heap_alloc_new _ _
 refine ⟨⟨_,_,_,_,rfl,?_⟩,TreeRow.nil _ _,hr.below ((Below.refl _ _).alloc (Nat.le_refl _) _),(bel1 w _).alloc (by simp) _⟩
 have:=heap_alloc_new (w.alloc (.cells #[.string ⟨#[]⟩,.float .f64 0,.string ⟨#[]⟩,.slice none 0 0,.slice none 0 0,.bool false] 121)) (.cells #[.string (tx op),.float .f64 0,.string ⟨#[]⟩,.slice none 0 0] 87)
 simpa using this
theorem RB.drew {w:World} {g:Nat} {v0 v1 v2 v3 v4 v5:Value} (h:RB w g v0 v1 v2 v3 v4 v5):RB w.drew g v0 v1 v2 v3 v4 v5:=by
 unfold RB at h ⊢
 exact h
theorem cli_app {w W8 w':World} {op:Bs} {D:List Tree} {v v' v0 v1 v2 v3:Value} {t:Tree} {cs:List Value} (hI:CLI w op D v W8) (hcs:CellsT (fun b=>w.heap.size + 2≤b∧v.ownBlock≠some b) W8 cs D)
  (hn:NodeV (fun b=>w.heap.size + 2≤b∧v.ownBlock≠some b) W8 (.agg #[v0,v1,v2,v3]) t) (hrow:W8.ownsRow (w.heap.size + 2) 87 4 v D.length cs)
  (hown:w'.ownsRow (w.heap.size + 2) 87 4 v' (D.length + 1) (cs ++ [v0,v1,v2,v3])) (hg:W8.grownBy w' v.ownBlock) (ho:v'.ownBlock = v.ownBlock∨v'.ownBlock = some W8.heap.size) :
  CLI w op (D ++ [t]) v' (w'.setCell ⟨w.heap.size + 1,3,none⟩ v')∧w'.cell? ⟨w.heap.size + 1,3,none⟩ = some v∧w'.frozen? ⟨w.heap.size + 1,3,none⟩ = false∧
  (∀ b,b < W8.heap.size→v.ownBlock≠some b→b≠w.heap.size + 1→w'.heap[b]? = W8.heap[b]?∧(w'.setCell ⟨w.heap.size + 1,3,none⟩ v').heap[b]? = W8.heap[b]?):=by
 have hlo:∀ b,b < w.heap.size + 2→v.ownBlock≠some b:=fun b hb e=>by have:=hrow.lt b e;omega
 have hk:∀ b,b < W8.heap.size→v.ownBlock≠some b→b≠w.heap.size + 1→w'.heap[b]? = W8.heap[b]?∧(w'.setCell ⟨w.heap.size + 1,3,none⟩ v').heap[b]? = W8.heap[b]?:=fun b h1 h2 h3=>by
  have h4:=hg.block b h1 (fun e=>h2 e.symm)
  exact ⟨h4,(set_other h3).trans h4⟩
 have hgn:=hI.node.lt
 have hnb:w'.heap[w.heap.size + 1]? = some (.cells #[.string (tx op),.float .f64 0,.string ⟨#[]⟩,v] 87 (0,0)):=(hg.block _ hgn (fun e=>hlo _ (by omega) e.symm)).trans hI.node.heap
 have hrl:=hI.res.lt
 refine ⟨⟨⟨_,_,_,_,rfl,?_⟩,?_,?_,?_⟩,by simp [World.cell?,hnb],by simp [World.frozen?,hnb],hk⟩
 ·rw [set_block hnb];rfl
 ·exact (TreeRow.app hcs hn hown hg ho).kept (by simp) (fun b hb _=>set_other (by omega))
 ·exact (hk _ hrl (hlo _ (by omega)) (by omega)).2.trans hI.res
 ·have h1:=hI.bel.size
  exact (hI.bel.grown hg h1 (fun k e=>by have:=hrow.lt k e;omega)).setCell (show w.heap.size≤w.heap.size + 1 by omega) _
theorem TokV.drew {B:Nat} {w:World} {v:Value} {L:List Tok} (h:TokV B w v L):TokV B w.drew v L:=TokV.kept (w:=w) (w':=w.drew) h (fun _ _=>rfl)
theorem cli_end {B:Nat} {w wr:World} {op:Bs} {D:List Tree} {x3:Option Addr} {n3 c3:Nat} {y2:Option Addr} {m2 d2:Nat} {r:List Tok} (hB:B≤w.heap.size) (hI:CLI w op D (.slice x3 n3 c3) wr) (ht:TokV B wr (.slice y2 m2 d2) r) (hK:KOk r) :
  RB (putR wr w.heap.size (.string (tx op)) (.float .f64 0) (.string ⟨#[]⟩) (.slice x3 n3 c3) (.slice y2 m2 d2) (.bool false)).drew w.heap.size (.string (tx op)) (.float .f64 0) (.string ⟨#[]⟩) (.slice x3 n3 c3) (.slice y2 m2 d2) (.bool false)∧
  REnd B (some (.mk op 0 [] D,r)) w (.returned (.agg #[.string (tx op),.float .f64 0,.string ⟨#[]⟩,.slice x3 n3 c3,.slice y2 m2 d2,.bool false])) (putR wr w.heap.size (.string (tx op)) (.float .f64 0) (.string ⟨#[]⟩) (.slice x3 n3 c3) (.slice y2 m2 d2) (.bool false)).drew:=by
 refine ⟨hI.res.put.drew,(below_putR hI.bel (Nat.le_refl _)).drew,_,rfl,_,_,_,_,_,_,_,_,_,_,_,rfl,?_,.inr ⟨rfl,r,rfl,(ht.putR hB).drew,hK⟩⟩
 have h1:NodeV (fun b=>w.heap.size + 2≤b) (putR wr w.heap.size (.string (tx op)) (.float .f64 0) (.string ⟨#[]⟩) (.slice x3 n3 c3) (.slice y2 m2 d2) (.bool false)) (.agg #[.string (tx op),.float .f64 0,.string ⟨#[]⟩,.slice x3 n3 c3]) (.mk op 0 [] D):=(hI.row.node op).putR (fun hh=>by have h3:w.heap.size + 2≤w.heap.size:=hh;omega)
 exact (h1.sub (fun b h1 _=>by have h3:w.heap.size + 2≤b:=h1;show w.heap.size≤b;omega)).drew
theorem rcall (B n:Nat) (H:RC B 83 0 .or 11 n) (op:Bs) (many:Nat) (hm:many≤2) (ts:List Tok) (v:Value) (w:World) (hn:12 * ts.length≤n) (hl:ts.length≤1000000) (hB:B≤w.heap.size) (hK:KOk ts) (hv:TokV B w v ts) :
  Calls Tryz.prog 193 #[.string (tx op),v,.int .i64 many] w (REnd B (closeP op [] (argsP (P valV true n .or) many [40] ts)) w):=by
 have HB:=hid hB
 have HH:=hid H
 obtain ⟨res,hres⟩:∃ y,y = closeP op [] (argsP (P valV true n .or) many [40] ts):=⟨_,rfl⟩
 rw [←hres]
 have HR0:=hid hres
 have HL0:Hid (12 * ts.length≤n∧ts.length≤1000000∧KOk ts):=hid ⟨hn,hl,hK⟩
 have HI0:=hid (CLI.start w op)
 have HT0:=hid (hv.below (((Below.refl w.heap.size w).alloc (Nat.le_refl _) (.cells #[.string ⟨#[]⟩,.float .f64 0,.string ⟨#[]⟩,.slice none 0 0,.slice none 0 0,.bool false] 121)).alloc (by simp) (.cells #[.string (tx op),.float .f64 0,.string ⟨#[]⟩,.slice none 0 0] 87)) hB)
 obtain ⟨x,tn,tc,rfl⟩:=hv.agg
 clear hn hl hB hK hv H hres
 go_enter Tryz.func193,Tryz.ntmps193
 go_wp2_with fail
 generalize ((w.alloc (.cells #[.string ⟨#[]⟩,.float .f64 0,.string ⟨#[]⟩,.slice none 0 0,.slice none 0 0,.bool false] 121)).alloc (.cells #[.string (tx op),.float .f64 0,.string ⟨#[]⟩,.slice none 0 0] 87)) = W0 at HI0 HT0 ⊢
 go_loopg [1,8,9] many (fun gh l o i wr=>∃ (D:List Tree) (j:Nat) (ts1:List Tok) (ob:Bs) (vr:Value),j + gh = many∧i = .int .i64 j∧o = .string (tx ob)∧Hid (TokV B wr l ts1)∧Hid (12 * ts1.length≤n∧ts1.length≤1000000∧KOk ts1∧D.length = j)∧Hid (res = closeP op D (argsP (P valV true n .or) gh ob ts1))∧Hid (CLI w op D vr wr))
 case atStart=>exact ⟨[],0,ts,[40],_,by omega,rfl,rfl,HT0,hid ⟨HL0.out.1,HL0.out.2.1,HL0.out.2.2,rfl⟩,HR0,HI0⟩
 case round=>
  obtain ⟨D,j,ts1,ob,vr,hj,rfl,rfl,HT,HL,HR,HI⟩:=hrel
  obtain ⟨x1,m1,d1,rfl⟩:=HT.out.agg
  have HIS:=hid (fun W (str:Bs) (h:TokV B W (.slice x1 m1 d1) ts1)=>ris B _ ts1 4 (.inr rfl) str HL.out.2.2.1 HL.out.2.1 W h)
  have HLT:=HI.out.res.lt
  clear HR0 HL0 HI0 HT0
  by_cases q:j < many
  ·obtain ⟨k,rfl⟩:∃ k,gk = k + 1:=⟨gk - 1,by omega⟩
   have qi:(j:Int) < (many:Int):=by omega
   cases hq:isTok ts1 4 ob
   ·have HRN:Hid (res = none):=hid (by rw [HR.out];exact close_no _ _ _ _ _ _ hq)
    have HIS2:=hid (HIS.out _ ob HT.out)
    rw [hq] at HIS2
    clear hq HR HIS
    go_wp2_with (first | (go_at_call 148;refine (HIS2.out).mono ?_;rintro e w5 ⟨rfl,rfl⟩) | (go_at_call 191;fail))
    go_at_call 191
    refine (rbad B _).mono ?_
    rintro e w5 ⟨hb5,v5,rfl,hv5⟩
    obtain ⟨hz,o,nn,s,x2,l,c,y,m,d,bad,rfl,hend⟩:=rpass HB.out HI.out.res HI.out.bel hb5 hv5
    have HE:=hid hend
    obtain ⟨k0,k1,k2,k3,k4,k5⟩:=hz.cells
    have HZ:=hid hz
    have f0:=hz.fr 0
    have f1:=hz.fr 1
    have f2:=hz.fr 2
    have f3:=hz.fr 3
    have f4:=hz.fr 4
    have f5:=hz.fr 5
    clear hz hend hb5 hv5 HT HL HI
    go_wp2
    rw [HRN.out]
    exact bodyPost_ret (read_node _ rfl _ _ w.heap.size _ _ _ _ _ _ rfl HZ.out.put) rfl HE.out
   ·obtain ⟨t,r,rfl⟩:∃ t r,ts1 = t :: r:=by
     cases ts1 with
     | nil=>cases hq
     | cons t r=>exact ⟨t,r,rfl⟩
    have HBR:=hid (show B≤wr.heap.size by have:=HB.out;omega)
    obtain ⟨y2,m2,d2,hsl,_⟩:=tok_slice HT.out
    have HSL:Hid (TokV B wr (.slice y2 m2 d2) r):=hid (by
     obtain ⟨y3,m3,d3,h1,h2⟩:=tok_slice HT.out
     have h3:=(hsl wr).symm.trans (h1 wr)
     cases h3
     exact h2)
    have HIS2:=hid (HIS.out _ ob HT.out)
    rw [hq] at HIS2
    have HLR:Hid (12 * r.length + 11≤n∧r.length≤1000000∧KOk r∧D.length = j):=hid (by
     have h:=HL.out
     simp only [List.length_cons] at h
     exact ⟨by omega,by omega,h.2.2.1.tail,h.2.2.2⟩)
    have HC:=hid (HH.out r (.slice y2 m2 d2) wr HLR.out.1 HLR.out.2.1 HBR.out HLR.out.2.2.1 HSL.out)
    obtain ⟨R2,hR2⟩:∃ y,y = P valV true n .or r:=⟨_,rfl⟩
    rw [←hR2] at HC
    have HST:Hid (∀ a r2,R2 = some (a,r2)→res = closeP op (D ++ [a]) (argsP (P valV true n .or) k [44] r2)):=hid (fun a r2 h=>by rw [HR.out];exact close_step _ _ _ _ _ _ _ _ hq (by rw [←h,hR2];rfl))
    have HBD:Hid (R2 = none→res = none):=hid (fun h=>by rw [HR.out];exact close_bad _ _ _ _ _ _ (by rw [←h,hR2];rfl))
    have HLN:Hid (∀ a r2,R2 = some (a,r2)→r2.length≤r.length):=hid (fun a r2 h=>(P_len valV true n .or r a r2 (by rw [←hR2];exact h)).1)
    clear hq HR HIS hR2 HL HT HSL HH
    go_wp2_with (first | (go_at_call 148;refine (HIS2.out).mono ?_;rintro e w5 ⟨rfl,rfl⟩) | (go_at_call 83;fail))
    go_at_call 83
    refine (HC.out).mono ?_
    rintro e w5 ⟨hb5,v5,rfl,o5,n5,s5,x5,l5,c5,y5,m5,d5,bad5,t5,rfl,hnode5,hcase5⟩
    have hal5:Below w5.heap.size w5 (w5.alloc (.cells #[.string o5,.float .f64 n5,.string s5,.slice x5 l5 c5,.slice y5 m5 d5,.bool bad5] 121)):=(Below.refl _ _).alloc (Nat.le_refl _) _
    have HI7:=hid ((HI.out.below hb5).below hal5)
    have HG7:Hid (RB (w5.alloc (.cells #[.string o5,.float .f64 n5,.string s5,.slice x5 l5 c5,.slice y5 m5 d5,.bool bad5] 121)) w5.heap.size _ _ _ _ _ _):=hid (heap_alloc_new _ _)
    have hsz5:=hb5.size
    have HN7:=hid ((hnode5.sub (B:=fun b=>w.heap.size + 2≤b∧vr.ownBlock≠some b) (fun b h1 _=>by
     have h3:wr.heap.size≤b:=h1
     have h4:=HI.out.node.lt
     obtain ⟨cs,h5,_⟩:=HI.out.row
     refine ⟨by omega,fun e=>?_⟩
     have:=h5.lt b e
     omega)).below hal5)
    have hlt5:w.heap.size + 1 < w5.heap.size:=by have:=HI.out.node.lt;omega
    have HOB:Hid (∀ b,vr.ownBlock = some b→b < w5.heap.size):=hid (fun b e=>by
     obtain ⟨cs,h5,_⟩:=HI.out.row
     have:=h5.lt b e
     omega)
    cases bad5
    ·obtain ⟨ts2,h2,h3,h4⟩:∃ ts2,R2 = some (t5,ts2)∧TokV B w5 (.slice y5 m5 d5) ts2∧KOk ts2:=by
      rcases hcase5 with ⟨h,_⟩ | ⟨_,h⟩
      ·cases h
      ·exact h
     have HT7:=hid (h3.below hal5 (by have:=HBR.out;omega))
     have HRS:=hid (HST.out t5 ts2 h2)
     have HL7:Hid (12 * ts2.length≤n∧ts2.length≤1000000∧KOk ts2∧(D ++ [t5]).length = j + 1):=hid (by
      have h:=HLN.out t5 ts2 h2
      have h':=HLR.out
      exact ⟨by omega,by omega,h4,by rw [List.length_append,h'.2.2.2];rfl⟩)
     have HDL:=hid HLR.out.2.2.2
     clear h2 h3 h4 hcase5 hnode5 hal5 hb5 HI HST HBD HLN HC HLR HIS2
     go_wp2_with fail
     generalize (w5.alloc (.cells #[.string o5,.float .f64 n5,.string s5,.slice x5 l5 c5,.slice y5 m5 d5,.bool false] 121)) = W7 at HI7 HG7 HN7 HT7 ⊢
     generalize w5.heap.size = g7 at HG7 hlt5 HOB ⊢
     obtain ⟨cs,hrow,hcs⟩:=HI7.out.row
     obtain ⟨x3,c3,rfl⟩:=ownsRow_is hrow
     have HROW:=hid hrow
     have HCS:=hid hcs
     obtain ⟨q0,q1,q2,q3,qf⟩:=HI7.out.node.cells
     have f3:=qf 3
     have hg7:=HG7.out.lt
     have hgn:=HI7.out.node.lt
     clear hrow hcs q0 q1 q2 qf
     have HSS:Hid (∀ W:World,W.heap[g7]? = W7.heap[g7]?→W.cell? ⟨g7,0,none⟩ = some (.string o5)∧W.cell? ⟨g7,1,none⟩ = some (.float .f64 n5)∧W.cell? ⟨g7,2,none⟩ = some (.string s5)∧W.cell? ⟨g7,3,none⟩ = some (.slice x5 l5 c5)∧W.cell? ⟨g7,4,none⟩ = some (.slice y5 m5 d5)∧W.cell? ⟨g7,5,none⟩ = some (.bool false)):=hid (fun W h=>RB.cells (w:=W) (h.trans HG7.out))
     have HS0:=hid (HSS.out W7.drew rfl)
     refine wp_region_held (S:=(fun w'=>w'.cell? ⟨g7,0,none⟩ = some (.string o5)∧w'.cell? ⟨g7,1,none⟩ = some (.float .f64 n5)∧w'.cell? ⟨g7,2,none⟩ = some (.string s5)∧w'.cell? ⟨g7,3,none⟩ = some (.slice x5 l5 c5)∧w'.cell? ⟨g7,4,none⟩ = some (.slice y5 m5 d5)∧w'.cell? ⟨g7,5,none⟩ = some (.bool false))) (by kernel_rfl) ?_
     change wpAnyH _ _ _ _ _ _ _ _ (World.drew _)
     refine tkH (i:=0) HS0.out ?_
     try simp only [Act.put,zz1]
     refine tkH (i:=2) HS0.out ?_
     try simp only [Act.put]
     refine tkH (i:=3) HS0.out ?_
     try simp only [Act.put]
     refine tkH (i:=6) HS0.out ?_
     try simp only [Act.put]
     refine tkH (i:=7) HS0.out ?_
     try simp only [Act.put]
     refine wpAnyH_ready (rs:=[1,4]) (by kernel_rfl) (by simp) ?_
     have HAL8:Hid (Below W7.heap.size W7 (W7.alloc (.cells #[.string o5,.float .f64 n5,.string s5,.slice x5 l5 c5] 87)).drew):=hid (((Below.refl _ _).alloc (Nat.le_refl _) _).drew)
     have HS8:=hid (HSS.out (W7.alloc (.cells #[.string o5,.float .f64 n5,.string s5,.slice x5 l5 c5] 87)).drew (HAL8.out.block g7 hg7))
     have HSZ8:Hid ((W7.alloc (.cells #[.string o5,.float .f64 n5,.string s5,.slice x5 l5 c5] 87)).drew.heap.size = W7.heap.size + 1):=hid (by show (W7.alloc _).heap.size = _;simp)
     have hdl:D.length≤2:=by have:=HDL.out;omega
     obtain ⟨i0,hi,hi0,hi1,hi2⟩:=info_node
     have HII:=hid (And.intro hi (And.intro hi0 (And.intro hi1 hi2)))
     clear hi hi0 hi1 hi2
     have HAPP:Hid (∀ v' w',w'.ownsRow (w.heap.size + 2) 87 4 v' (D.length + 1) (cs ++ [.string o5,.float .f64 n5,.string s5,.slice x5 l5 c5])→(W7.alloc (.cells #[.string o5,.float .f64 n5,.string s5,.slice x5 l5 c5] 87)).drew.grownBy w' (Value.slice x3 D.length c3).ownBlock→(v'.ownBlock = (Value.slice x3 D.length c3).ownBlock∨v'.ownBlock = some (W7.alloc (.cells #[.string o5,.float .f64 n5,.string s5,.slice x5 l5 c5] 87)).drew.heap.size)→
       CLI w op (D ++ [t5]) v' (w'.setCell ⟨w.heap.size + 1,3,none⟩ v')∧w'.cell? ⟨w.heap.size + 1,3,none⟩ = some (.slice x3 D.length c3)∧w'.frozen? ⟨w.heap.size + 1,3,none⟩ = false∧w'.heap[g7]? = W7.heap[g7]?∧(w'.setCell ⟨w.heap.size + 1,3,none⟩ v').heap[g7]? = W7.heap[g7]?∧TokV B (w'.setCell ⟨w.heap.size + 1,3,none⟩ v') (.slice y5 m5 d5) ts2):=hid (fun v' w' h1 h2 h3=>by
      have hc:=CellsT.kept (B:=fun b=>w.heap.size + 2≤b∧(Value.slice x3 D.length c3).ownBlock≠some b) HAL8.out.size (fun b hb hl=>⟨hb,HAL8.out.block b hl⟩) D cs HCS.out
      obtain ⟨r1,r2,r3,r4⟩:=cli_app (HI7.out.below HAL8.out) hc (HN7.out.below HAL8.out) (HROW.out.alloc _).drew h1 h2 h3
      have r5:=r4 g7 (by rw [HSZ8.out];omega) (fun e=>by have:=HOB.out g7 e;omega) (by omega)
      refine ⟨r1,r2,r3,r5.1.trans (HAL8.out.block g7 hg7),r5.2.trans (HAL8.out.block g7 hg7),HT7.out.kept (fun b hb=>?_)⟩
      have hb2:=HB.out
      exact (r4 b (by rw [HSZ8.out];omega) (fun e=>by have:=HROW.out.lt b e;omega) (by omega)).2.trans (HAL8.out.block b (by omega)))
     refine AllReadyH.cons rfl (fun K hK=>?_) (AllReadyH.cons rfl (fun K hK=>?_) AllReadyH.nil)
     ·go_simp
      refine hK.out _ _ HS0.out (fun _=>?_)
      clear hK K
      try simp only [Act.put,zz1,zz2,zz3]
      refine wpAnyH_ready (rs:=[4]) (by kernel_rfl) (by simp) ?_
      refine AllReadyH.cons rfl (fun K hK=>?_) AllReadyH.nil
      go_simp
      refine hK.out _ _ HS8.out (fun _=>?_)
      clear hK K
      try simp only [Act.put,zz1,zz2,zz3]
      refine wpAnyH_ready (rs:=[5]) (by kernel_rfl) (by simp) ?_
      refine AllReadyH.cons rfl (fun K hK=>?_) AllReadyH.nil
      refine step_append_own rfl (.tmp 30) (.tmp 33) 85 rfl (w.heap.size + 2) 87 i0 (.agg #[.string ⟨#[]⟩,.float .f64 0,.string ⟨#[]⟩,.slice none 0 0]) 4 64 Tryz.underlying85 HII.out.1 HII.out.2.1 HII.out.2.2.1 HII.out.2.2.2 rfl (by decide) _ _ _ rfl ((HROW.out.alloc _).drew) ⟨W7.heap.size,0,none⟩ 1 1 [.string o5,.float .f64 n5,.string s5,.slice x5 l5 c5] rfl rfl (four_cells W7 _ _ _ _ _) (by simp [Value.oneCell']) (by unfold maxLen;omega) (by omega) (by rw [HSZ8.out];omega) ?_
      intro v' w' hown' hgrow' hat'
      obtain ⟨r1,r2,r3,r4,r5,r6⟩:=HAPP.out v' w' hown' hgrow' hat'
      obtain ⟨x',c',rfl⟩:=ownsRow_is hown'
      have HR1:=hid r1
      have HR6:=hid r6
      have HS9:=hid (HSS.out w' r4)
      have HS10:=hid (HSS.out _ r5)
      clear hown' hgrow' hat' r1 r4 r5 r6
      refine hK.out _ _ HS9.out (fun _=>?_)
      clear hK K
      try simp only [Act.put,zz1]
      refine tkH (i:=8) HS9.out ?_
      try simp only [Act.put]
      refine wpAnyH_ready (rs:=[9]) (by kernel_rfl) (by simp) ?_
      refine AllReadyH.cons rfl (fun K hK=>?_) AllReadyH.nil
      go_simp
      refine hK.out _ _ HS10.out (fun _=>?_)
      clear hK K
      try simp only [Act.put,zz1]
      refine tkH (i:=10) HS10.out ?_
      try simp only [Act.put]
      refine tkH (i:=11) HS10.out ?_
      try simp only [Act.put]
      refine wpAnyH_done (by kernel_rfl) ?_ _
      go_wp2
      go_roundg k
      case measure=>omega
      case rel=>exact ⟨D ++ [t5],j + 1,ts2,[44],.slice x' (D.length + 1) c',by omega,by go_num,rfl,HR6,HL7,HRS,HR1⟩
     ·go_simp
      refine hK.out _ _ HS8.out (fun _=>?_)
      clear hK K
      try simp only [Act.put,zz1,zz2,zz3]
      refine wpAnyH_ready (rs:=[1]) (by kernel_rfl) (by simp) ?_
      refine AllReadyH.cons rfl (fun K hK=>?_) AllReadyH.nil
      go_simp
      refine hK.out _ _ HS8.out (fun _=>?_)
      clear hK K
      try simp only [Act.put,zz1,zz2,zz3]
      refine wpAnyH_ready (rs:=[5]) (by kernel_rfl) (by simp) ?_
      refine AllReadyH.cons rfl (fun K hK=>?_) AllReadyH.nil
      refine step_append_own rfl (.tmp 30) (.tmp 33) 85 rfl (w.heap.size + 2) 87 i0 (.agg #[.string ⟨#[]⟩,.float .f64 0,.string ⟨#[]⟩,.slice none 0 0]) 4 64 Tryz.underlying85 HII.out.1 HII.out.2.1 HII.out.2.2.1 HII.out.2.2.2 rfl (by decide) _ _ _ rfl ((HROW.out.alloc _).drew) ⟨W7.heap.size,0,none⟩ 1 1 [.string o5,.float .f64 n5,.string s5,.slice x5 l5 c5] rfl rfl (four_cells W7 _ _ _ _ _) (by simp [Value.oneCell']) (by unfold maxLen;omega) (by omega) (by rw [HSZ8.out];omega) ?_
      intro v' w' hown' hgrow' hat'
      obtain ⟨r1,r2,r3,r4,r5,r6⟩:=HAPP.out v' w' hown' hgrow' hat'
      obtain ⟨x',c',rfl⟩:=ownsRow_is hown'
      have HR1:=hid r1
      have HR6:=hid r6
      have HS9:=hid (HSS.out w' r4)
      have HS10:=hid (HSS.out _ r5)
      clear hown' hgrow' hat' r1 r4 r5 r6
      refine hK.out _ _ HS9.out (fun _=>?_)
      clear hK K
      try simp only [Act.put,zz1]
      refine tkH (i:=8) HS9.out ?_
      try simp only [Act.put]
      refine wpAnyH_ready (rs:=[9]) (by kernel_rfl) (by simp) ?_
      refine AllReadyH.cons rfl (fun K hK=>?_) AllReadyH.nil
      go_simp
      refine hK.out _ _ HS10.out (fun _=>?_)
      clear hK K
      try simp only [Act.put,zz1]
      refine tkH (i:=10) HS10.out ?_
      try simp only [Act.put]
      refine tkH (i:=11) HS10.out ?_
      try simp only [Act.put]
      refine wpAnyH_done (by kernel_rfl) ?_ _
      go_wp2
      go_roundg k
      case measure=>omega
      case rel=>exact ⟨D ++ [t5],j + 1,ts2,[44],.slice x' (D.length + 1) c',by omega,by go_num,rfl,HR6,HL7,HRS,HR1⟩
    ·have HRN:=hid (HBD.out (by
      rcases hcase5 with ⟨_,h⟩ | ⟨h,_⟩
      ·exact h
      ·cases h))
     clear hcase5 hnode5 hb5 HI HST HBD HLN HC HLR HIS2 HN7
     go_wp2_with (first | (go_at_call 191;fail))
     go_at_call 191
     refine (rbad B _).mono ?_
     rintro e w6 ⟨hb6,v6,rfl,hv6⟩
     obtain ⟨hz,o,nn,s,x2,l,c,y,m,d,bad,rfl,hend⟩:=rpass HB.out HI7.out.res HI7.out.bel hb6 hv6
     have HE:=hid hend
     obtain ⟨k0,k1,k2,k3,k4,k5⟩:=hz.cells
     have HZ:=hid hz
     have f0:=hz.fr 0
     have f1:=hz.fr 1
     have f2:=hz.fr 2
     have f3:=hz.fr 3
     have f4:=hz.fr 4
     have f5:=hz.fr 5
     clear hz hend hb6 hv6 HI7
     go_wp2
     rw [HRN.out]
     exact bodyPost_ret (read_node _ rfl _ _ w.heap.size _ _ _ _ _ _ rfl HZ.out.put) rfl HE.out
  ·have e0:gk = 0:=by omega
   subst e0
   have qi:¬ (j:Int) < (many:Int):=by omega
   have HRE:Hid (res = if isTok ts1 4 [41] = true then some (.mk op 0 [] D,ts1.tail) else none):=hid (by rw [HR.out,close_end])
   have HIS2:=hid (HIS.out _ [41] HT.out)
   cases hq:isTok ts1 4 [41]
   ·have HRN:Hid (res = none):=hid (by rw [HRE.out,hq];rfl)
    rw [hq] at HIS2
    clear hq HR HIS HRE
    go_wp2_with (first | (go_at_call 148;refine (HIS2.out).mono ?_;rintro e w5 ⟨rfl,rfl⟩) | (go_at_call 191;fail))
    go_at_call 191
    refine (rbad B _).mono ?_
    rintro e w6 ⟨hb6,v6,rfl,hv6⟩
    obtain ⟨hz,o,nn,s,x2,l,c,y,m,d,bad,rfl,hend⟩:=rpass HB.out HI.out.res HI.out.bel hb6 hv6
    have HE:=hid hend
    obtain ⟨k0,k1,k2,k3,k4,k5⟩:=hz.cells
    have HZ:=hid hz
    have f0:=hz.fr 0
    have f1:=hz.fr 1
    have f2:=hz.fr 2
    have f3:=hz.fr 3
    have f4:=hz.fr 4
    have f5:=hz.fr 5
    clear hz hend hb6 hv6 HI
    go_wp2
    rw [HRN.out]
    exact bodyPost_ret (read_node _ rfl _ _ w.heap.size _ _ _ _ _ _ rfl HZ.out.put) rfl HE.out
   ·obtain ⟨t,r,rfl⟩:∃ t r,ts1 = t :: r:=by
     cases ts1 with
     | nil=>cases hq
     | cons t r=>exact ⟨t,r,rfl⟩
    have HRS:Hid (res = some (.mk op 0 [] D,r)):=hid (by rw [HRE.out,if_pos hq];rfl)
    obtain ⟨y2,m2,d2,hsl,hts⟩:=tok_slice HT.out
    have HTS:=hid hts
    rw [hq] at HIS2
    obtain ⟨cs,hrow,_⟩:=HI.out.row
    obtain ⟨x3,c3,rfl⟩:=ownsRow_is hrow
    obtain ⟨q0,q1,q2,q3,qf⟩:=HI.out.node.cells
    obtain ⟨k0,k1,k2,k3,k4,k5⟩:=HI.out.res.cells
    have f0:=HI.out.res.fr 0
    have f1:=HI.out.res.fr 1
    have f2:=HI.out.res.fr 2
    have f3:=HI.out.res.fr 3
    have f4:=HI.out.res.fr 4
    have f5:=HI.out.res.fr 5
    have hgn:=HI.out.node.lt
    clear hq HR HIS HRE hts hrow qf
    go_wp2_with (first | (go_at_call 148;refine (HIS2.out).mono ?_;rintro e w5 ⟨rfl,rfl⟩))
    have HE:=hid (cli_end HB.out HI.out HTS.out HL.out.2.2.1.tail)
    rw [←HRS.out] at HE
    clear HIS2 HRS HTS HL HI HT
    go_region
    go_wp2
    exact bodyPost_ret (read_node _ rfl _ _ w.heap.size _ _ _ _ _ _ rfl HE.out.1) rfl HE.out.2
theorem tok_first {B : Nat} {w : World} {x : Option Addr} {m d : Nat} {t : Tok} {r : List Tok} (h : TokV B w (.slice x m d) (t :: r)) : 0 < m ∧ ∃ a, x = some a ∧ a.block < B ∧ w.cell? a = some (.int .u8 (kd t.k)) ∧ w.cell? ⟨a.block, a.off + 1, none⟩ = some (.string (tx t.s)) := by
  obtain ⟨x', cap, h5, hcap, hx', hc⟩ := h
  cases h5
  cases x with
  | none => have := hx' rfl; cases this
  | some ad =>
    obtain ⟨p1, p2, p3⟩ := hc ad rfl 0 t rfl
    exact ⟨by simp, ad, rfl, p1, p2, by simpa [Addr.add] using p3⟩
structure AI (w:World) (B:Nat) (K:Nat) (S:Bs) (v:Value) (ts:List Tok) (W:World):Prop where
 piece:W.heap[w.heap.size + 1]? = some (.cells #[.int .u8 K,.string (tx S)] 152 (0,0))
 res:RB W w.heap.size (.string ⟨#[]⟩) (.float .f64 0) (.string ⟨#[]⟩) (.slice none 0 0) (.slice none 0 0) (.bool false)
 bel:Below w.heap.size w W
 toks:TokV B W v ts
theorem AI.below {w:World} {B K:Nat} {S:Bs} {v:Value} {ts:List Tok} {W W':World} (h:AI w B K S v ts W) (hB:B≤w.heap.size) (hb:Below W.heap.size W W'):AI w B K S v ts W':=
 ⟨(hb.block _ (Array.getElem?_eq_some_iff.1 h.piece).1).trans h.piece,h.res.below hb,h.bel.trans (below_le hb h.bel.size),h.toks.below hb (by have:=h.bel.size;omega)⟩
theorem AI.lt {w:World} {B K:Nat} {S:Bs} {v:Value} {ts:List Tok} {W:World} (h:AI w B K S v ts W):w.heap.size + 1 < W.heap.size:=(Array.getElem?_eq_some_iff.1 h.piece).1
theorem AI.cells {w:World} {B K:Nat} {S:Bs} {v:Value} {ts:List Tok} {W:World} (h:AI w B K S v ts W):W.cell? ⟨w.heap.size + 1,0,none⟩ = some (.int .u8 K)∧W.cell? ⟨w.heap.size + 1,1,none⟩ = some (.string (tx S)):=
 ⟨by simp [World.cell?,h.piece],by simp [World.cell?,h.piece]⟩
theorem AI.start {w:World} {B:Nat} {K:Nat} {S:Bs} {v:Value} {ts:List Tok} (hv:TokV B w v ts) (hB:B≤w.heap.size) :
  AI w B K S v ts ((w.alloc (.cells #[.string ⟨#[]⟩,.float .f64 0,.string ⟨#[]⟩,.slice none 0 0,.slice none 0 0,.bool false] 121)).alloc (.cells #[.int .u8 K,.string (tx S)] 152)):=by
 have hr:RB (w.alloc (.cells #[.string ⟨#[]⟩,.float .f64 0,.string ⟨#[]⟩,.slice none 0 0,.slice none 0 0,.bool false] 121)) w.heap.size _ _ _ _ _ _:=heap_alloc_new _ _
 have h1:=heap_alloc_new (w.alloc (.cells #[.string ⟨#[]⟩,.float .f64 0,.string ⟨#[]⟩,.slice none 0 0,.slice none 0 0,.bool false] 121)) (.cells #[.int .u8 K,.string (tx S)] 152)
 have h2:=(bel1 w (.cells #[.string ⟨#[]⟩,.float .f64 0,.string ⟨#[]⟩,.slice none 0 0,.slice none 0 0,.bool false] 121)).alloc (by simp) (.cells #[.int .u8 K,.string (tx S)] 152)
 exact ⟨by simpa using h1,hr.below ((Below.refl _ _).alloc (Nat.le_refl _) _),h2,hv.below h2 hB⟩
theorem leaf_end {B:Nat} {w W:World} {op s:Bs} {n:Nat} {z0 z1 z2 z3 z4 z5:Value} {y2:Option Addr} {m2 d2:Nat} {r:List Tok} (hB:B≤w.heap.size) (hr:RB W w.heap.size z0 z1 z2 z3 z4 z5) (hb:Below w.heap.size w W) (ht:TokV B W (.slice y2 m2 d2) r) (hK:KOk r) :
  RB (putR W w.heap.size (.string (tx op)) (.float .f64 n) (.string (tx s)) (.slice none 0 0) (.slice y2 m2 d2) (.bool false)).drew w.heap.size (.string (tx op)) (.float .f64 n) (.string (tx s)) (.slice none 0 0) (.slice y2 m2 d2) (.bool false)∧
  REnd B (some (.mk op n s [],r)) w (.returned (.agg #[.string (tx op),.float .f64 n,.string (tx s),.slice none 0 0,.slice y2 m2 d2,.bool false])) (putR W w.heap.size (.string (tx op)) (.float .f64 n) (.string (tx s)) (.slice none 0 0) (.slice y2 m2 d2) (.bool false)).drew:=
 ⟨hr.put.drew,(below_putR hb (Nat.le_refl _)).drew,_,rfl,_,_,_,_,_,_,_,_,_,_,_,rfl,node_leaf _ _ op s n,.inr ⟨rfl,r,rfl,(ht.putR hB).drew,hK⟩⟩
theorem ratom_nil (B n:Nat) (v:Value) (w:World) (hB:B≤w.heap.size) (hv:TokV B w v []):Calls Tryz.prog 173 #[v] w (REnd B (P valV true (n + 1) .atom []) w):=by
 have HB:=hid hB
 have HRN:Hid (P valV true (n + 1) .atom [] = none):=hid (atom_nil n)
 obtain ⟨res,hres⟩:∃ y,y = P valV true (n + 1) .atom []:=⟨_,rfl⟩
 rw [←hres] at HRN ⊢
 obtain ⟨x,tc,rfl,hcap,hx,hc⟩:=hv
 simp only [List.length_nil] at hcap ⊢
 clear hB hres hx hc
 have HZ0:Hid (RB (w.alloc (.cells #[.string ⟨#[]⟩,.float .f64 0,.string ⟨#[]⟩,.slice none 0 0,.slice none 0 0,.bool false] 121)) w.heap.size _ _ _ _ _ _):=hid (heap_alloc_new _ _)
 have HB0:=hid (bel1 w (.cells #[.string ⟨#[]⟩,.float .f64 0,.string ⟨#[]⟩,.slice none 0 0,.slice none 0 0,.bool false] 121))
 go_enter Tryz.func173,Tryz.ntmps173
 go_wp2_with (first | (go_at_call 191;fail))
 go_at_call 191
 refine (rbad B _).mono ?_
 rintro e w6 ⟨hb6,v6,rfl,hv6⟩
 obtain ⟨hz,o,nn,s,x2,l,c,y,m,d,bad,rfl,hend⟩:=rpass HB.out HZ0.out HB0.out hb6 hv6
 have HE:=hid hend
 obtain ⟨k0,k1,k2,k3,k4,k5⟩:=hz.cells
 have HZ:=hid hz
 have f0:=hz.fr 0
 have f1:=hz.fr 1
 have f2:=hz.fr 2
 have f3:=hz.fr 3
 have f4:=hz.fr 4
 have f5:=hz.fr 5
 clear hz hend hb6 hv6 HZ0 HB0
 go_wp2
 rw [HRN.out]
 exact bodyPost_ret (read_node _ rfl _ _ w.heap.size _ _ _ _ _ _ rfl HZ.out.put) rfl HE.out
theorem ratom_num (B n:Nat) (t:Tok) (r:List Tok) (hk:t.k = 1) (v:Value) (w:World) (hB:B≤w.heap.size) (hK:KOk (t :: r)) (hv:TokV B w v (t :: r)):Calls Tryz.prog 173 #[v] w (REnd B (P valV true (n + 1) .atom (t :: r)) w):=by
 rw [atom_num n t r hk]
 have HVAL:=hid (fun W=>rvalue t.s ((hK t (by simp)).2 hk) W)
 have HAI:=hid (AI.start (K:=110) (S:=t.s) hv hB)
 have HB:=hid hB
 have HK:=hid hK.tail
 obtain ⟨x,tn,tc,rfl⟩:=hv.agg
 obtain ⟨hpos,a,rfl,hab0,c0,c1⟩:=tok_first hv
 have hab:a.block < w.heap.size:=by omega
 have q3:((tn:Int) == 0) = false:=by simp;omega
 rw [hk,show kd 1 = 110 from rfl] at c0
 obtain ⟨y2,m2,d2,hsl,_⟩:=tok_slice hv
 have HSL:Hid (∀ W,TokV B W (.slice (some a) tn tc) (t :: r)→TokV B W (.slice y2 m2 d2) r):=hid (fun W hW=>by
  obtain ⟨y3,m3,d3,h1,h2⟩:=tok_slice hW
  have h3:=(hsl W).symm.trans (h1 W)
  cases h3
  exact h2)
 generalize t.s = S at c1 HVAL HAI ⊢
 clear hK hB hk hab0
 go_enter Tryz.func173,Tryz.ntmps173
 go_upto_region 4 with (fail)
 generalize ((w.alloc (.cells #[.string ⟨#[]⟩,.float .f64 0,.string ⟨#[]⟩,.slice none 0 0,.slice none 0 0,.bool false] 121)).alloc (.cells #[.int .u8 110,.string (tx S)] 152)) = W1 at HAI ⊢
 have HE:=hid (leaf_end (op:=wnum) (s:=[]) (n:=valV S) HB.out HAI.out.res HAI.out.bel (HSL.out W1 HAI.out.toks) HK.out)
 obtain ⟨p0,p1⟩:=HAI.out.cells
 obtain ⟨k0,k1,k2,k3,k4,k5⟩:=HAI.out.res.cells
 have f0:=HAI.out.res.fr 0
 have f1:=HAI.out.res.fr 1
 have f2:=HAI.out.res.fr 2
 have f3:=HAI.out.res.fr 3
 have f4:=HAI.out.res.fr 4
 have f5:=HAI.out.res.fr 5
 have hlt:=HAI.out.lt
 clear c0 c1
 go_wp2_with fail
 go_region_with ((go_at_call 192;refine (HVAL.out _).mono ?_;rintro e w4 ⟨rfl,rfl⟩))
 go_wp2
 exact bodyPost_ret (read_node _ rfl _ _ w.heap.size _ _ _ _ _ _ rfl HE.out.1) rfl HE.out.2
theorem ratom_text (B n:Nat) (t:Tok) (r:List Tok) (hk:t.k = 3) (v:Value) (w:World) (hB:B≤w.heap.size) (hK:KOk (t :: r)) (hv:TokV B w v (t :: r)):Calls Tryz.prog 173 #[v] w (REnd B (P valV true (n + 1) .atom (t :: r)) w):=by
 rw [atom_text n t r hk]
 have HAI:=hid (AI.start (K:=116) (S:=t.s) hv hB)
 have HB:=hid hB
 have HK:=hid hK.tail
 obtain ⟨x,tn,tc,rfl⟩:=hv.agg
 obtain ⟨hpos,a,rfl,hab0,c0,c1⟩:=tok_first hv
 have hab:a.block < w.heap.size:=by omega
 have q3:((tn:Int) == 0) = false:=by simp;omega
 rw [hk,show kd 3 = 116 from rfl] at c0
 obtain ⟨y2,m2,d2,hsl,_⟩:=tok_slice hv
 have HSL:Hid (∀ W,TokV B W (.slice (some a) tn tc) (t :: r)→TokV B W (.slice y2 m2 d2) r):=hid (fun W hW=>by
  obtain ⟨y3,m3,d3,h1,h2⟩:=tok_slice hW
  have h3:=(hsl W).symm.trans (h1 W)
  cases h3
  exact h2)
 generalize t.s = S at c1 HAI ⊢
 clear hK hB hk hab0
 go_enter Tryz.func173,Tryz.ntmps173
 go_upto_region 4 with (fail)
 generalize ((w.alloc (.cells #[.string ⟨#[]⟩,.float .f64 0,.string ⟨#[]⟩,.slice none 0 0,.slice none 0 0,.bool false] 121)).alloc (.cells #[.int .u8 116,.string (tx S)] 152)) = W1 at HAI ⊢
 have HE:=hid (leaf_end (op:=wtext) (s:=S) (n:=0) HB.out HAI.out.res HAI.out.bel (HSL.out W1 HAI.out.toks) HK.out)
 obtain ⟨p0,p1⟩:=HAI.out.cells
 obtain ⟨k0,k1,k2,k3,k4,k5⟩:=HAI.out.res.cells
 have f0:=HAI.out.res.fr 0
 have f1:=HAI.out.res.fr 1
 have f2:=HAI.out.res.fr 2
 have f3:=HAI.out.res.fr 3
 have f4:=HAI.out.res.fr 4
 have f5:=HAI.out.res.fr 5
 have hlt:=HAI.out.lt
 clear c0 c1
 go_wp2_with fail
 go_region
 go_wp2
 exact bodyPost_ret (read_node _ rfl _ _ w.heap.size _ _ _ _ _ _ rfl HE.out.1) rfl HE.out.2
def insR (x:Option (Tree × List Tok)):Option (Tree × List Tok):=match x with
 | none=>none
 | some (a,t2)=>if isTok t2 4 [41] = true then some (a,t2.tail) else none
theorem inside_true (R : List Tok → Option (Tree × List Tok)) (ts : List Tok) : inside true R ts = if isTok ts 4 [40] = true then insR (R ts.tail) else none := by
  unfold inside
  rw [must_true]
  cases isTok ts 4 [40]
  · rfl
  · rw [if_pos rfl, if_pos rfl]
    simp only
    cases R ts.tail with
    | none => rfl
    | some x =>
      obtain ⟨a, r⟩ := x
      simp only [must_true, insR]
      cases isTok r 4 [41] <;> rfl
theorem node_end {B:Nat} {w W:World} {o s:ByteArray} {n:Nat} {x:Option Addr} {l c:Nat} {t:Tree} {z0 z1 z2 z3 z4 z5:Value} {y2:Option Addr} {m2 d2:Nat} {r:List Tok} (hB:B≤w.heap.size) (hr:RB W w.heap.size z0 z1 z2 z3 z4 z5) (hb:Below w.heap.size w W)
  (hn:NodeV (fun b=>w.heap.size + 1≤b) W (.agg #[.string o,.float .f64 n,.string s,.slice x l c]) t) (ht:TokV B W (.slice y2 m2 d2) r) (hK:KOk r) :
  RB (putR W w.heap.size (.string o) (.float .f64 n) (.string s) (.slice x l c) (.slice y2 m2 d2) (.bool false)).drew w.heap.size (.string o) (.float .f64 n) (.string s) (.slice x l c) (.slice y2 m2 d2) (.bool false)∧
  REnd B (some (t,r)) w (.returned (.agg #[.string o,.float .f64 n,.string s,.slice x l c,.slice y2 m2 d2,.bool false])) (putR W w.heap.size (.string o) (.float .f64 n) (.string s) (.slice x l c) (.slice y2 m2 d2) (.bool false)).drew:=by
 refine ⟨hr.put.drew,(below_putR hb (Nat.le_refl _)).drew,_,rfl,_,_,_,_,_,_,_,_,_,_,_,rfl,?_,.inr ⟨rfl,r,rfl,(ht.putR hB).drew,hK⟩⟩
 exact ((hn.putR (g:=w.heap.size) (fun hh=>by have h3:w.heap.size + 1≤w.heap.size:=hh;omega)).sub (fun b h1 _=>by have h3:w.heap.size + 1≤b:=h1;show w.heap.size≤b;omega)).drew
theorem ratom_sign (B n:Nat) (H:RC B 83 0 .or 11 n) (t:Tok) (r:List Tok) (hk:t.k = 4) (v:Value) (w:World) (hn:12 * (t :: r).length + 1≤n + 1) (hl:(t :: r).length≤1000000) (hB:B≤w.heap.size) (hK:KOk (t :: r)) (hv:TokV B w v (t :: r)):Calls Tryz.prog 173 #[v] w (REnd B (P valV true (n + 1) .atom (t :: r)) w):=by
 rw [atom_in n t r hk,inside_true]
 obtain ⟨res,hres⟩:∃ y,y = (if isTok (t :: r) 4 [40] = true then insR (P valV true n .or (t :: r).tail) else none):=⟨_,rfl⟩
 rw [←hres]
 have HAI:=hid (AI.start (K:=115) (S:=t.s) hv hB)
 have HB:=hid hB
 have HIS:=hid (fun W (h:TokV B W v (t :: r))=>ris B v (t :: r) 4 (.inr rfl) [40] hK hl W h)
 obtain ⟨x,tn,tc,rfl⟩:=hv.agg
 obtain ⟨hpos,a,rfl,hab0,c0,c1⟩:=tok_first hv
 have hab:a.block < w.heap.size:=by omega
 have q3:((tn:Int) == 0) = false:=by simp;omega
 rw [hk,show kd 4 = 115 from rfl] at c0
 cases hq:isTok (t :: r) 4 [40]
 ·have HRN:Hid (res = none):=hid (by rw [hres,hq];rfl)
  rw [hq] at HIS
  generalize t.s = S at c1 HAI
  clear hK hB hk hab0 hn hl hres hq H hv
  go_enter Tryz.func173,Tryz.ntmps173
  go_upto_region 4 with (fail)
  generalize ((w.alloc (.cells #[.string ⟨#[]⟩,.float .f64 0,.string ⟨#[]⟩,.slice none 0 0,.slice none 0 0,.bool false] 121)).alloc (.cells #[.int .u8 115,.string (tx S)] 152)) = W1 at HAI ⊢
  obtain ⟨p0,p1⟩:=HAI.out.cells
  have hlt:=HAI.out.lt
  have HIS2:=hid (HIS.out W1 HAI.out.toks)
  clear c0 c1 HIS
  go_wp2_with (first | (go_at_call 148;refine (HIS2.out).mono ?_;rintro e w5 ⟨rfl,rfl⟩) | (go_at_call 191;fail))
  go_at_call 191
  refine (rbad B _).mono ?_
  rintro e w6 ⟨hb6,v6,rfl,hv6⟩
  obtain ⟨hz,o,nn,s,x2,l,c,y,m,d,bad,rfl,hend⟩:=rpass HB.out HAI.out.res HAI.out.bel hb6 hv6
  have HE:=hid hend
  obtain ⟨k0,k1,k2,k3,k4,k5⟩:=hz.cells
  have HZ:=hid hz
  have f0:=hz.fr 0
  have f1:=hz.fr 1
  have f2:=hz.fr 2
  have f3:=hz.fr 3
  have f4:=hz.fr 4
  have f5:=hz.fr 5
  clear hz hend hb6 hv6 HAI HIS2
  go_wp2
  rw [HRN.out]
  exact bodyPost_ret (read_node _ rfl _ _ w.heap.size _ _ _ _ _ _ rfl HZ.out.put) rfl HE.out
 ·obtain ⟨y2,m2,d2,hsl,_⟩:=tok_slice hv
  have HSL:Hid (∀ W,TokV B W (.slice (some a) tn tc) (t :: r)→TokV B W (.slice y2 m2 d2) r):=hid (fun W hW=>by
   obtain ⟨y3,m3,d3,h1,h2⟩:=tok_slice hW
   have h3:=(hsl W).symm.trans (h1 W)
   cases h3
   exact h2)
  obtain ⟨R2,hR2⟩:∃ y,y = P valV true n .or r:=⟨_,rfl⟩
  have HC:=hid (fun W (hb:B≤W.heap.size) (ht:TokV B W (.slice y2 m2 d2) r)=>H r _ W (by simp only [List.length_cons] at hn;omega) (by simp only [List.length_cons] at hl;omega) hb hK.tail ht)
  rw [←hR2] at HC
  have HRE:Hid (res = insR R2):=hid (by rw [hres,if_pos hq,hR2];rfl)
  have HLN:Hid (∀ a r2,R2 = some (a,r2)→r2.length≤1000000):=hid (fun a r2 h=>by have h1:=(P_len valV true n .or r a r2 (by rw [←hR2];exact h)).1;simp only [List.length_cons] at hl;omega)
  rw [hq] at HIS
  generalize t.s = S at c1 HAI
  clear hK hB hk hab0 hn hl hres hq H hv hR2
  go_enter Tryz.func173,Tryz.ntmps173
  go_upto_region 4 with (fail)
  generalize ((w.alloc (.cells #[.string ⟨#[]⟩,.float .f64 0,.string ⟨#[]⟩,.slice none 0 0,.slice none 0 0,.bool false] 121)).alloc (.cells #[.int .u8 115,.string (tx S)] 152)) = W1 at HAI ⊢
  obtain ⟨p0,p1⟩:=HAI.out.cells
  have hlt:=HAI.out.lt
  have HIS2:=hid (HIS.out W1 HAI.out.toks)
  clear c0 c1 HIS
  go_wp2_with (first | (go_at_call 148;refine (HIS2.out).mono ?_;rintro e w5 ⟨rfl,rfl⟩) | (go_at_call 83;fail))
  go_at_call 83
  refine (HC.out W1 (by have:=HB.out;omega) (HSL.out W1 HAI.out.toks)).mono ?_
  rintro e w5 ⟨hb5,v5,rfl,o5,n5,s5,x5,l5,c5,y5,m5,d5,bad5,t5,rfl,hnode5,hcase5⟩
  have hal5:Below w5.heap.size w5 (w5.alloc (.cells #[.string o5,.float .f64 n5,.string s5,.slice x5 l5 c5,.slice y5 m5 d5,.bool bad5] 121)):=(Below.refl _ _).alloc (Nat.le_refl _) _
  have HI7:=hid ((HAI.out.below HB.out hb5).below HB.out hal5)
  have HG7:Hid (RB (w5.alloc (.cells #[.string o5,.float .f64 n5,.string s5,.slice x5 l5 c5,.slice y5 m5 d5,.bool bad5] 121)) w5.heap.size _ _ _ _ _ _):=hid (heap_alloc_new _ _)
  have hsz5:=hb5.size
  have HN7:=hid ((hnode5.sub (B:=fun b=>w.heap.size + 1≤b) (fun b h1 _=>by have h3:W1.heap.size≤b:=h1;show w.heap.size + 1≤b;omega)).below hal5)
  have hlt5:w.heap.size + 1 < w5.heap.size:=by omega
  have HBAD:Hid (∀ (Q:Prop),(bad5 = true→res = none→Q)→(∀ ts2,bad5 = false→TokV B (w5.alloc (.cells #[.string o5,.float .f64 n5,.string s5,.slice x5 l5 c5,.slice y5 m5 d5,.bool bad5] 121)) (.slice y5 m5 d5) ts2→KOk ts2→ts2.length≤1000000→res = (if isTok ts2 4 [41] = true then some (t5,ts2.tail) else none)→Q)→Q):=hid (fun Q h1 h2=>by
   rcases hcase5 with ⟨h3,h4⟩ | ⟨h3,ts2,h4,h5,h6⟩
   ·exact h1 h3 (by rw [HRE.out,h4];rfl)
   ·exact h2 ts2 h3 (h5.below hal5 (by have:=HB.out;omega)) h6 (HLN.out _ _ h4) (by rw [HRE.out,h4];rfl))
  clear hcase5 hnode5 hal5 hb5 HAI HC HIS2 HRE HLN HSL
  refine HBAD.out _ (fun h1 h2=>?_) (fun ts2 h1 h2 h3 h4 h5=>?_)
  ·subst h1
   have HRN:=hid h2
   clear h2 HBAD HN7
   go_wp2_with (first | (go_at_call 191;fail))
   go_at_call 191
   refine (rbad B _).mono ?_
   rintro e w6 ⟨hb6,v6,rfl,hv6⟩
   obtain ⟨hz,o,nn,s,x2,l,c,y,m,d,bad,rfl,hend⟩:=rpass HB.out HI7.out.res HI7.out.bel hb6 hv6
   have HE:=hid hend
   obtain ⟨k0,k1,k2,k3,k4,k5⟩:=hz.cells
   have HZ:=hid hz
   have f0:=hz.fr 0
   have f1:=hz.fr 1
   have f2:=hz.fr 2
   have f3:=hz.fr 3
   have f4:=hz.fr 4
   have f5:=hz.fr 5
   clear hz hend hb6 hv6 HI7
   go_wp2
   rw [HRN.out]
   exact bodyPost_ret (read_node _ rfl _ _ w.heap.size _ _ _ _ _ _ rfl HZ.out.put) rfl HE.out
  ·subst h1
   have HT7:=hid h2
   have HK7:=hid h3
   have HIS7:=hid (ris B _ ts2 4 (.inr rfl) [41] h3 h4 _ h2)
   have HRE:=hid h5
   clear h2 h3 h4 h5 HBAD
   cases hq:isTok ts2 4 [41]
   ·have HRN:Hid (res = none):=hid (by rw [HRE.out,hq];rfl)
    rw [hq] at HIS7
    clear hq HRE HN7
    go_wp2_with (first | (go_at_call 148;refine (HIS7.out).mono ?_;rintro e w8 ⟨rfl,rfl⟩) | (go_at_call 191;fail))
    go_at_call 191
    refine (rbad B _).mono ?_
    rintro e w6 ⟨hb6,v6,rfl,hv6⟩
    obtain ⟨hz,o,nn,s,x2,l,c,y,m,d,bad,rfl,hend⟩:=rpass HB.out HI7.out.res HI7.out.bel hb6 hv6
    have HE:=hid hend
    obtain ⟨k0,k1,k2,k3,k4,k5⟩:=hz.cells
    have HZ:=hid hz
    have f0:=hz.fr 0
    have f1:=hz.fr 1
    have f2:=hz.fr 2
    have f3:=hz.fr 3
    have f4:=hz.fr 4
    have f5:=hz.fr 5
    clear hz hend hb6 hv6 HI7
    go_wp2
    rw [HRN.out]
    exact bodyPost_ret (read_node _ rfl _ _ w.heap.size _ _ _ _ _ _ rfl HZ.out.put) rfl HE.out
   ·obtain ⟨t2,r2,rfl⟩:∃ t r,ts2 = t :: r:=by
     cases ts2 with
     | nil=>cases hq
     | cons t r=>exact ⟨t,r,rfl⟩
    have HRS:Hid (res = some (t5,r2)):=hid (by rw [HRE.out,if_pos hq];rfl)
    rw [hq] at HIS7
    obtain ⟨y8,m8,d8,hsl8,hts8⟩:=tok_slice HT7.out
    have HE:=hid (node_end HB.out HI7.out.res HI7.out.bel HN7.out hts8 HK7.out.tail)
    rw [←HRS.out] at HE
    clear hq HRE hts8 HT7 HK7 HRS
    go_wp2_with (first | (go_at_call 148;refine (HIS7.out).mono ?_;rintro e w8 ⟨rfl,rfl⟩))
    generalize (w5.alloc (.cells #[.string o5,.float .f64 n5,.string s5,.slice x5 l5 c5,.slice y5 m5 d5,.bool false] 121)) = W7 at HI7 HG7 HE ⊢
    generalize w5.heap.size = g7 at HG7 hlt5 ⊢
    obtain ⟨e0,e1,e2,e3,e4,e5⟩:=HG7.out.cells
    obtain ⟨k0,k1,k2,k3,k4,k5⟩:=HI7.out.res.cells
    have f0:=HI7.out.res.fr 0
    have f1:=HI7.out.res.fr 1
    have f2:=HI7.out.res.fr 2
    have f3:=HI7.out.res.fr 3
    have f4:=HI7.out.res.fr 4
    have f5:=HI7.out.res.fr 5
    clear HI7 HG7 HIS7 HN7
    go_region
    go_wp2
    exact bodyPost_ret (read_node _ rfl _ _ w.heap.size _ _ _ _ _ _ rfl HE.out.1) rfl HE.out.2
end Go.Proofs.YtpcbamcelpcigaaGreat
