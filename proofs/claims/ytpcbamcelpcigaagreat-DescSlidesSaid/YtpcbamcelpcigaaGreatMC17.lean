/- Own texts, merged. -/
import Derived.WalkKit
import Derived.Test.YtpcbamcelpcigaaGreatMC16
import Derived.Test.YtpcbamcelpcigaaGreatMC00
set_option maxRecDepth 100000
set_option maxHeartbeats 32000000
open Go.Lib (hid)
namespace Go.Proofs.YtpcbamcelpcigaaGreat
open Go.RowKit Go.Shelf
attribute [local go_sem] run_store_float
mutual
def szT:Tree→Nat
 | .mk _ _ _ l=>1 + szL l
def szL:List Tree→Nat
 | []=>0
 | t :: r=>szT t + szL r
end
theorem szL_get (l : List Tree) (i : Nat) (h : i < l.length) : szT l[i] ≤ szL l := by
  induction l generalizing i with
  | nil => cases h
  | cons t r ih =>
    cases i with
    | zero => simp only [List.getElem_cons_zero, szL]; omega
    | succ i => simp only [List.getElem_cons_succ, szL]; have := ih i (by simpa using h); omega
theorem szT_pos (t:Tree):1≤szT t:=by cases t;simp only [szT];omega
theorem len_szL (l:List Tree):l.length≤szL l:=by
 induction l with
 | nil=>simp
 | cons t r ih=>have:=szT_pos t;simp only [List.length_cons,szL];omega
mutual
theorem dep_sz:∀ t:Tree,depT t≤szT t
 | .mk _ _ _ l=>by have:=depL_sz l;simp only [depT,szT];omega
theorem depL_sz:∀ l:List Tree,depL l≤szL l
 | []=>by simp [depL]
 | t :: r=>by have:=dep_sz t;have:=depL_sz r;simp only [depL,szL];omega
end
theorem depL_snoc (l:List Tree) (t:Tree):depL (l ++ [t]) = max (depL l) (depT t):=by
 induction l with
 | nil=>simp [depL]
 | cons a r ih=>simp only [List.cons_append,depL,ih];omega
theorem depL_take (l : List Tree) (j : Nat) : depL (l.take j) ≤ depL l := by
  induction l generalizing j with
  | nil => simp
  | cons t r ih =>
    cases j with
    | zero => simp [depL]
    | succ j => simp only [List.take_succ_cons, depL]; have := ih j; omega
theorem NodesV.get {A : Nat → Prop} {w : World} {a : Addr} : ∀ (l : List Tree) (i : Nat), NodesV A w a i l → ∀ j, (h : j < l.length) → ∃ v0 v1 v2 v3, w.cell? (a.add ((i + j) * 4)) = some v0 ∧ w.cell? (a.add ((i + j) * 4 + 1)) = some v1 ∧ w.cell? (a.add ((i + j) * 4 + 2)) = some v2 ∧ w.cell? (a.add ((i + j) * 4 + 3)) = some v3 ∧ NodeV A w (.agg #[v0, v1, v2, v3]) l[j]
  | [], _, _, j, h => by cases h
  | t :: r, i, hn, j, h => by
    cases j with
    | zero => exact hn.1
    | succ j =>
      have := NodesV.get r (i + 1) hn.2 j (by simpa using h)
      rw [show i + (j + 1) = i + 1 + j by omega]
      exact this
theorem add_lit (a:Addr) (i k:Nat) (hk:k≠0):a.add (i + k) = ⟨(a.add i).block,(a.add i).off + k,none⟩:=by
 unfold Addr.add
 by_cases h:i = 0
 ·subst h;simp [hk]
 ·simp [h,hk];omega
theorem wdepth : ∀ (n : Nat) (t : Tree), szT t ≤ n → ∀ (A : Nat → Prop) (v : Value) (w : World), szT t ≤ 1000000 → NodeV A w v t →
    Calls Tryz.prog 75 #[v] w fun e w' => e = .returned (.int .i64 (depT t)) ∧ Below w.heap.size w w' := by
  intro n
  induction n with
  | zero => intro t h; cases t; simp only [szT] at h; omega
  | succ n ih =>
    intro t hn A v w hd hv
    obtain ⟨op, fn, s, l⟩ := t
    have HV := hid hv
    obtain ⟨x, cap, rfl, hcap, hx, hch⟩ := hv
    have HIH := hid ih
    have HN := hid (show szL l ≤ n by simp only [szT] at hn; omega)
    have HD := hid (show 1 + szL l ≤ 1000000 by simpa only [szT] using hd)
    have hdd := hid (show depL l ≤ 1000000 by have := depL_sz l; have := HD.out; omega)
    have HC := hid hch
    have hll : l.length ≤ 1000000 := by have := len_szL l; have := HD.out; omega
    have HX := hid hx
    have hdt : depT (.mk op fn s l) = depL l + 1 := by simp only [depT]
    rw [hdt]
    obtain ⟨N, hN⟩ : ∃ N, N = l.length := ⟨_, rfl⟩
    rw [← hN] at hll hcap HV ⊢
    have HNL := hid hN
    clear hN hn hd hch hx ih hdt
    go_enter Tryz.func75, Tryz.ntmps75
    go_wp2_with fail
    go_loopg [3, 9] N (fun gh m i wr => ∃ j : Nat, j + gh = N ∧ i = .int .i64 j ∧ m = .int .i64 (depL (l.take j)) ∧ Hid (Below w.heap.size w wr))
    case atStart => exact ⟨0, by omega, rfl, rfl, hid ((Below.refl _ _).alloc (Nat.le_refl _) _)⟩
    case round =>
      obtain ⟨j, hj, rfl, rfl, HB⟩ := hrel
      by_cases q : j < N
      · have hjl : j < l.length := by have := HNL.out; omega
        obtain ⟨a, rfl⟩ : ∃ a, x = some a := by
          cases x with
          | none => have := HX.out rfl; rw [this] at hjl; cases hjl
          | some a => exact ⟨a, rfl⟩
        obtain ⟨v0, v1, v2, v3, e0, e1, e2, e3, hnode⟩ := NodesV.get l 0 (HC.out a rfl).2 j hjl
        rw [Nat.zero_add] at e0 e1 e2 e3
        have hab : a.block < w.heap.size := ((HC.out a rfl).1 (nil_not hjl)).2
        have hs : ∀ k, wr.heap[(a.add k).block]? = w.heap[(a.add k).block]? := fun k => by rw [add_block]; exact HB.out.block _ hab
        have d0 := cell_same (hs _) e0
        have d1 := cell_same (hs _) e1
        have d2 := cell_same (hs _) e2
        have d3 := cell_same (hs _) e3
        rw [add_lit _ _ _ (by decide)] at d1 d2 d3
        clear e0 e1 e2 e3 hs
        obtain ⟨o1, n1, s1, x1, l1, c1, hag⟩ := hnode.agg
        cases hag
        have HNODE := hid hnode
        clear hnode
        have HSN : Hid (depL (l.take (j + 1)) = max (depL (l.take j)) (depT l[j])) := hid (by rw [List.take_succ_eq_append_getElem hjl, depL_snoc])
        have HBD := hid (show depL (l.take j) ≤ 1000000 ∧ depL (l.take (j + 1)) ≤ 1000000 by have := depL_take l j; have := depL_take l (j + 1); have := hdd.out; omega)
        have HCH : Hid (∀ W, Below w.heap.size w W → Calls Tryz.prog 75 #[.agg #[.string o1, .float .f64 n1, .string s1, .slice x1 l1 c1]] W fun e w' => e = .returned (.int .i64 (depT l[j])) ∧ Below W.heap.size W w') := hid (fun W hW => by
          have h1 := szL_get l j hjl
          have h2 := HN.out
          have h3 := HD.out
          exact HIH.out l[j] (by omega) A _ W (by omega) (HNODE.out.below hW))
        obtain ⟨P1, hP1⟩ : ∃ P1, P1 = depL (l.take j) := ⟨_, rfl⟩
        obtain ⟨P2, hP2⟩ : ∃ P2, P2 = depL (l.take (j + 1)) := ⟨_, rfl⟩
        obtain ⟨P3, hP3⟩ : ∃ P3, P3 = depT l[j] := ⟨_, rfl⟩
        rw [← hP1, ← hP2] at HBD
        rw [← hP1, ← hP2, ← hP3] at HSN
        rw [← hP3] at HCH
        rw [← hP1]
        have HP2 := hid hP2
        have hmx : max (P1 : Int) (P3 : Int) = (P2 : Int) := by have := HSN.out; omega
        clear hP1 hP2 hP3
        go_wp2_with (first | (go_at_call 75; fail))
        refine (HCH.out _ (HB.out.alloc (HB.out.size) _)).mono ?_
        rintro e w2 ⟨rfl, hb2⟩
        have HB2 := hid (((HB.out.alloc (HB.out.size) (.cells #[.string o1, .float .f64 n1, .string s1, .slice x1 l1 c1] 87))).trans (below_le hb2 (by have := HB.out.size; simp; omega)))
        clear hb2 d0 d1 d2 d3
        go_wp2
        go_roundg (gk - 1)
        case measure => omega
        case rel => exact ⟨j + 1, by omega, by go_num, by rw [← HP2.out], HB2⟩
      · have e : j = l.length := by have := HNL.out; omega
        rw [show l.take j = l by rw [e, List.take_length]]
        have hd2 := hdd.out
        obtain ⟨D, hD⟩ : ∃ D, D = depL l := ⟨_, rfl⟩
        have HDV := hid hD
        rw [← hD] at hd2 ⊢
        clear e hD
        go_wp2
        go_ret
        exact ⟨by rw [← HDV.out]; rfl, HB.out⟩
def Mode.sz:Mode→Nat
 | .orT t | .andT t | .sumT t | .prodT t=>szT t
 | _=>0
theorem sz_two (op:Bs) (a b:Tree):szT (two op a b) = 1 + szT a + szT b:=by simp [two,szT,szL];omega
theorem sz_one (op:Bs) (a:Tree):szT (one op a) = 1 + szT a:=by simp [one,szT,szL]
theorem sz_leaf (op s:Bs) (n:Nat):szT (.mk op n s []) = 1:=by simp [szT,szL]
def SzC (R:List Tok→Option (Tree × List Tok)):Prop:=∀ ts a r,R ts = some (a,r)→szT a + r.length≤ts.length
theorem inside_sz {ok:Bool} {R:List Tok→Option (Tree × List Tok)} {ts r:List Tok} {a:Tree} (hR:SzC R) (h:inside ok R ts = some (a,r)):szT a + r.length + 2≤ts.length:=by
 unfold inside at h
 split at h
 ·cases h
 ·rename_i t1 h1
  split at h
  ·cases h
  ·rename_i a2 t2 h2
   split at h
   ·cases h
   ·rename_i t3 h3
    cases h
    have:=must_len h1
    have:=hR _ _ _ h2
    have:=must_len h3
    omega
theorem hasP_sz {ok:Bool} {R:List Tok→Option (Tree × List Tok)} {ts r:List Tok} {a:Tree} (hR:SzC R) (h:hasP ok R ts = some (a,r)):szT a + r.length + 2≤ts.length:=by
 unfold hasP at h
 split at h
 ·cases h
 ·rename_i t1 h1
  split at h
  ·cases h
  ·rename_i a2 t2 h2
   split at h
   ·cases h
   ·rename_i t3 h3
    split at h
    ·cases h
    ·rename_i b t4 h4
     split at h
     ·cases h
     ·rename_i t5 h5
      cases h
      have:=must_len h1
      have:=hR _ _ _ h2
      have:=must_len h3
      have:=hR _ _ _ h4
      have:=must_len h5
      rw [sz_two]
      omega
theorem P_sz (V : Bs → Nat) (ok : Bool) : ∀ (n : Nat) (m : Mode) (ts : List Tok) (a : Tree) (r : List Tok), P V ok n m ts = some (a, r) → szT a + r.length ≤ ts.length + m.sz := by
  intro n
  induction n with
  | zero => intro m ts a r h; cases h
  | succ n ih =>
    have chain : ∀ (m1 : Mode) (m2 : Tree → Mode) (ts r : List Tok) (a : Tree), m1.sz = 0 → (∀ t, (m2 t).sz = szT t) → (match P V ok n m1 ts with | none => none | some (a, r) => P V ok n (m2 a) r) = some (a, r) → szT a + r.length ≤ ts.length := by
      intro m1 m2 ts r a hm hm2 h
      split at h
      · cases h
      · rename_i b t1 h1
        have g := ih _ _ _ _ h1
        have g2 := ih _ _ _ _ h
        rw [hm2] at g2
        omega
    have tailr : ∀ (c : Prop) [Decidable c] (m1 : Mode) (m2 : Tree → Mode) (ts r : List Tok) (a x : Tree), m1.sz = 0 → (∀ t, (m2 t).sz = 1 + szT x + szT t) → (if c then (match adv ok ts with | none => none | some t1 => match P V ok n m1 t1 with | none => none | some (b, r) => P V ok n (m2 b) r) else some (x, ts)) = some (a, r) → szT a + r.length ≤ ts.length + szT x := by
      intro c _ m1 m2 ts r a x hm hm2 h
      split at h
      · split at h
        · cases h
        · rename_i t1 h1
          split at h
          · cases h
          · rename_i b t2 h2
            have g0 := adv_len h1
            have g := ih _ _ _ _ h2
            have g2 := ih _ _ _ _ h
            rw [hm2] at g2
            omega
      · cases h; omega
    have hor : SzC (P V ok n .or) := fun ts a r h => ih _ _ _ _ h
    intro m ts a r h
    cases m with
    | or => exact chain .and Mode.orT ts r a rfl (fun _ => rfl) (by have h' := h; simp only [P] at h'; exact h')
    | and => exact chain .not Mode.andT ts r a rfl (fun _ => rfl) (by have h' := h; simp only [P] at h'; exact h')
    | sum => exact chain .prod Mode.sumT ts r a rfl (fun _ => rfl) (by have h' := h; simp only [P] at h'; exact h')
    | prod => exact chain .signed Mode.prodT ts r a rfl (fun _ => rfl) (by have h' := h; simp only [P] at h'; exact h')
    | orT x => exact tailr _ .and (fun b => Mode.orT (two wor x b)) ts r a x rfl (fun t => by simp only [Mode.sz]; exact sz_two _ _ _) (by have h' := h; simp only [P] at h'; exact h')
    | andT x => exact tailr _ .not (fun b => Mode.andT (two wand x b)) ts r a x rfl (fun t => by simp only [Mode.sz]; exact sz_two _ _ _) (by have h' := h; simp only [P] at h'; exact h')
    | sumT x => exact tailr _ .prod (fun b => Mode.sumT (two ((ts.headD ⟨0, []⟩).s) x b)) ts r a x rfl (fun t => by simp only [Mode.sz]; exact sz_two _ _ _) (by have h' := h; simp only [P] at h'; exact h')
    | prodT x => exact tailr _ .signed (fun b => Mode.prodT (two ((ts.headD ⟨0, []⟩).s) x b)) ts r a x rfl (fun t => by simp only [Mode.sz]; exact sz_two _ _ _) (by have h' := h; simp only [P] at h'; exact h')
    | not =>
      simp only [P] at h
      split at h
      · split at h
        · cases h
        · rename_i t1 h1
          split at h
          · cases h
          · rename_i b t2 h2
            cases h
            have g0 := adv_len h1
            have g := ih _ _ _ _ h2
            rw [sz_one]
            simp only [Mode.sz] at g ⊢
            omega
      · split at h
        · cases h
        · rename_i b t2 h2
          have g2 := ih _ _ _ _ h2
          simp only [Mode.sz] at g2 ⊢
          split at h
          · cases h; exact g2
          · split at h
            · split at h
              · cases h
              · rename_i t3 h3
                split at h
                · cases h
                · rename_i c t4 h4
                  cases h
                  have g0 := adv_len h3
                  have g := ih _ _ _ _ h4
                  simp only [Mode.sz] at g
                  rw [sz_two]
                  omega
            · cases h; exact g2
    | signed =>
      simp only [P] at h
      split at h
      · split at h
        · cases h
        · rename_i t1 h1
          split at h
          · cases h
          · rename_i b t2 h2
            cases h
            have g0 := adv_len h1
            have g := ih _ _ _ _ h2
            simp only [Mode.sz] at g ⊢
            rw [sz_one]
            omega
      · have g := ih _ _ _ _ h
        exact g
    | atom =>
      cases ts with
      | nil => simp only [P] at h; cases h
      | cons t ts =>
        rw [P_atom] at h
        simp only [Mode.sz]
        split at h
        · split at h
          · cases h
          · rename_i t1 h1
            cases h
            have g0 := adv_len h1
            rw [sz_leaf]
            omega
        · split at h
          · split at h
            · cases h
            · rename_i t1 h1
              cases h
              have g0 := adv_len h1
              rw [sz_leaf]
              omega
          · split at h
            · unfold namedP at h
              split at h
              · cases h
              · split at h
                · cases h
                · rename_i t1 h1
                  have g0 := adv_len h1
                  split at h
                  · split at h
                    · cases h
                    · rename_i b t2 h2
                      cases h
                      have g := inside_sz hor h2
                      rw [sz_one]
                      omega
                  · split at h
                    · have g := hasP_sz hor h
                      omega
                    · cases h
                      rw [sz_leaf]
                      omega
            · have g := inside_sz hor h
              omega
theorem lexF_len : ∀ (n : Nat) (l : Bs), (lexF n l).1.length ≤ l.length
  | 0, _ => by simp [lexF]
  | n + 1, l => by
    simp only [lexF]
    split
    · simp
    · cases hq : lex1 (l.drop (cntBl l)) with
      | none => simp
      | some x =>
        obtain ⟨t, k⟩ := x
        have h3 := lex1_len hq
        have h4 := lexF_len n ((l.drop (cntBl l)).drop k)
        simp at h3 h4 ⊢
        omega
theorem readP_sz {l:Bs} {t:Tree} (h:readP l = some t):szT t≤l.length:=by
 unfold readP at h
 split at h
 ·cases h
 ·split at h
  ·rename_i t2 h2
   cases h
   have g:=P_sz _ _ _ _ _ _ _ h2
   have g2:=lexF_len (l.length + 1) l
   simp only [Mode.sz,List.length_nil] at g
   unfold lex at g
   omega
  ·cases h
def zeroT:Tree:=.mk [] 0 [] []
def parseP (l:Bs):Tree × Nat:=
 if 256 < l.length then (zeroT,2) else match readP l with
 | none=>(zeroT,190)
 | some t=>if 16 < depT t then (zeroT,190) else (t,0)
def ParseEnd (l:Bs) (w:World) (e:Ending) (w':World):Prop:=
 ∃ v,e = .returned (.tuple #[v,.int .i64 ((parseP l).2:Nat)])∧NodeV (fun b=>w.heap.size≤b) w' v (parseP l).1∧Below w.heap.size w w'
theorem wparse (l:Bs) (hl:l.length≤1000000) (w:World):Calls Tryz.prog 53 #[.string (tx l)] w (ParseEnd l w):=by
 have HS:=hid (tx_size' l)
 have HRD:=hid (fun W=>wread l hl W)
 have HL:=hid hl
 obtain ⟨pr,hpr⟩:∃ x,x = parseP l:=⟨_,rfl⟩
 have HP:=hid hpr
 unfold parseP at HP
 by_cases q:256 < l.length
 ·have q2:256 < ((tx l).size:Int):=by have:=HS.out;omega
  rw [if_pos q] at HP
  have HE:Hid (∀ e w',(∃ v,e = .returned (.tuple #[v,.int .i64 (2:Nat)])∧NodeV (fun b=>w.heap.size≤b) w' v zeroT∧Below w.heap.size w w')→ParseEnd l w e w'):=hid (fun e w' h=>by
   unfold ParseEnd;rw [←hpr,HP.out];exact h)
  clear hpr q hl
  go_enter Tryz.func53,Tryz.ntmps53
  go_wp2
  refine bodyPost_ret (results_cell_tmp rfl _ _ w.heap.size 87 _ _ _ rfl (heap_alloc_new w _) Tryz.underlying87 rfl (by kernel_rfl)) rfl (HE.out _ _ ?_)
  exact ⟨_,rfl,NodeV.zero _ _,(Below.refl _ _).alloc (Nat.le_refl _) _⟩
 ·have q2:¬ 256 < ((tx l).size:Int):=by have:=HS.out;omega
  rw [if_neg q] at HP
  have HSZ:Hid (∀ t,readP l = some t→szT t≤1000000∧depT t≤1000000):=hid (fun t h=>by
   have h1:=readP_sz h
   have h2:=dep_sz t
   have h3:=HL.out
   omega)
  clear q hl
  go_enter Tryz.func53,Tryz.ntmps53
  go_wp2_with (first | (go_at_call 74;fail))
  go_at_call 74
  refine (HRD.out _).mono ?_
  rintro e w2 ⟨hb2,⟨h1,rfl⟩ | ⟨t,v,h1,rfl,hv⟩⟩
  ·have HE:Hid (∀ e w',(∃ v,e = .returned (.tuple #[v,.int .i64 (190:Nat)])∧NodeV (fun b=>w.heap.size≤b) w' v zeroT∧Below w.heap.size w w')→ParseEnd l w e w'):=hid (fun e w' h=>by
    unfold ParseEnd;rw [←hpr,HP.out,h1];exact h)
   have HB:=hid hb2
   have HZ:Hid (NB w2 w.heap.size zeroN):=hid ((show NB (w.alloc (.cells #[.string ⟨#[]⟩,.float .f64 0,.string ⟨#[]⟩,.slice none 0 0] 87)) w.heap.size zeroN from ⟨_,_,_,_,rfl,heap_alloc_new _ _⟩).below hb2)
   obtain ⟨b0,b1,b2,b3,bf⟩:=HZ.out.cells
   have f0:=bf 0
   have f1:=bf 1
   have f2:=bf 2
   have f3:=bf 3
   have hlt:=HZ.out.lt
   clear bf hb2 h1 hpr HP
   go_wp2
   have hz2:=HZ.out.put (v0:=.string ⟨#[]⟩) (v1:=.float .f64 0) (v2:=.string ⟨#[]⟩) (v3:=.slice none 0 0)
   refine bodyPost_ret (results_cell_tmp rfl _ _ w.heap.size 87 _ _ _ rfl ((heap_alloc_old _ _ (by simpa using hlt)).trans hz2.heap) Tryz.underlying87 rfl (by kernel_rfl)) rfl (HE.out _ _ ?_)
   have hbw:Below w.heap.size w w2:=((Below.refl _ _).alloc (Nat.le_refl _) _).trans (below_le HB.out (by simp))
   exact ⟨_,rfl,NodeV.zero _ _,(below_put hbw (Nat.le_refl _)).alloc (by have:=hbw.size;rw [putN_size];exact this) _⟩
  ·have HB:=hid hb2
   have HZ:Hid (NB w2 w.heap.size zeroN):=hid ((show NB (w.alloc (.cells #[.string ⟨#[]⟩,.float .f64 0,.string ⟨#[]⟩,.slice none 0 0] 87)) w.heap.size zeroN from ⟨_,_,_,_,rfl,heap_alloc_new _ _⟩).below hb2)
   have HV:=hid (hv.sub (B:=fun b=>w.heap.size≤b∧b≠w.heap.size) (fun b h _=>by have h3:(w.alloc (.cells #[.string ⟨#[]⟩,.float .f64 0,.string ⟨#[]⟩,.slice none 0 0] 87)).heap.size≤b:=h;simp at h3;show _∧_;omega))
   obtain ⟨o1,n1,s1,x1,l1,c1,rfl⟩:=hv.agg
   have HSZ2:=hid (HSZ.out t h1)
   have HDP:Hid (∀ W,NodeV (fun b=>w.heap.size≤b∧b≠w.heap.size) W (.agg #[.string o1,.float .f64 n1,.string s1,.slice x1 l1 c1]) t→Calls Tryz.prog 75 #[.agg #[.string o1,.float .f64 n1,.string s1,.slice x1 l1 c1]] W fun e w'=>e = .returned (.int .i64 (depT t))∧Below W.heap.size W w'):=
    hid (fun W h=>wdepth _ t (Nat.le_refl _) _ _ W HSZ2.out.1 h)
   have HP2:Hid (pr = if 16 < depT t then (zeroT,190) else (t,0)):=hid (by rw [HP.out,h1])
   obtain ⟨D,hD⟩:∃ D,D = depT t:=⟨_,rfl⟩
   rw [←hD] at HDP HP2 HSZ2
   have hdl:D≤1000000:=HSZ2.out.2
   have HPR:=hid hpr
   have hlt:=HZ.out.lt
   clear hb2 h1 hpr HP hv hD
   go_wp2_with (first | (go_at_call 75;fail))
   refine (HDP.out _ (HV.out.below ((Below.refl _ _).alloc (Nat.le_refl _) _))).mono ?_
   rintro e w5 ⟨rfl,hb5⟩
   have HB5:Hid (Below w2.heap.size w2 w5):=hid (((Below.refl _ _).alloc (Nat.le_refl _) (.cells #[.string o1,.float .f64 n1,.string s1,.slice x1 l1 c1] 87)).trans (below_le hb5 (by simp)))
   have HG5:Hid (NB w5 w2.heap.size (.agg #[.string o1,.float .f64 n1,.string s1,.slice x1 l1 c1])):=hid ((show NB (w2.alloc (.cells #[.string o1,.float .f64 n1,.string s1,.slice x1 l1 c1] 87)) w2.heap.size _ from ⟨_,_,_,_,rfl,heap_alloc_new _ _⟩).below hb5)
   have HZ5:=hid (HZ.out.below HB5.out)
   have HV5:=hid (HV.out.below HB5.out)
   obtain ⟨b0,b1,b2,b3,bf⟩:=HZ5.out.cells
   obtain ⟨a0,a1,a2,a3,_⟩:=HG5.out.cells
   have f0:=bf 0
   have f1:=bf 1
   have f2:=bf 2
   have f3:=bf 3
   clear bf hb5 hlt
   have hbw:Hid (Below w.heap.size w w5):=hid ((((Below.refl _ _).alloc (Nat.le_refl _) _).trans (below_le HB.out (by simp))).trans (below_le HB5.out (by have:=HB.out.size;simp at this;omega)))
   by_cases q16:16 < D
   ·have HE:Hid (∀ e w',(∃ v,e = .returned (.tuple #[v,.int .i64 (190:Nat)])∧NodeV (fun b=>w.heap.size≤b) w' v zeroT∧Below w.heap.size w w')→ParseEnd l w e w'):=hid (fun e w' h=>by
     unfold ParseEnd;rw [←HPR.out,HP2.out,if_pos q16];exact h)
    go_wp2
    have hz2:=HZ5.out.put (v0:=.string ⟨#[]⟩) (v1:=.float .f64 0) (v2:=.string ⟨#[]⟩) (v3:=.slice none 0 0)
    refine bodyPost_ret (results_cell_tmp rfl _ _ w.heap.size 87 _ _ _ rfl hz2.heap Tryz.underlying87 rfl (by kernel_rfl)) rfl (HE.out _ _ ?_)
    exact ⟨_,rfl,NodeV.zero _ _,below_put hbw.out (Nat.le_refl _)⟩
   ·have HE:Hid (∀ e w',(∃ v,e = .returned (.tuple #[v,.int .i64 (0:Nat)])∧NodeV (fun b=>w.heap.size≤b) w' v t∧Below w.heap.size w w')→ParseEnd l w e w'):=hid (fun e w' h=>by
     unfold ParseEnd;rw [←HPR.out,HP2.out,if_neg q16];exact h)
    go_wp2
    have hz2:=HZ5.out.put (v0:=.string o1) (v1:=.float .f64 n1) (v2:=.string s1) (v3:=.slice x1 l1 c1)
    refine bodyPost_ret (results_cell_tmp rfl _ _ w.heap.size 87 _ _ _ rfl hz2.heap Tryz.underlying87 rfl (by kernel_rfl)) rfl (HE.out _ _ ?_)
    exact ⟨_,rfl,NodeV.kept (by rw [putN_size];exact Nat.le_refl _) (fun b h1 _=>⟨h1.1,putN_other h1.2⟩) t _ HV5.out,below_put hbw.out (Nat.le_refl _)⟩
end Go.Proofs.YtpcbamcelpcigaaGreat
namespace Go.Proofs.YtpcbamcelpcigaaGreat
open Go.RowKit Go.Shelf
theorem rdigit (c:UInt8) (w:World):Calls Tryz.prog 143 #[.int .u8 (c.toNat:Int)] w fun e w'=>e = .returned (.bool (isDig c))∧w = w':=by
 have hc:=c.toNat_lt
 rw [digit_dec]
 by_cases h1:48≤(c.toNat:Int)
 ·by_cases h2:(c.toNat:Int)≤57
  ·go_enter Tryz.func143,Tryz.ntmps143
   go_wp2
   go_ret
   exact ⟨by rw [decide_eq_true ⟨h1,h2⟩];rfl,rfl⟩
  ·go_enter Tryz.func143,Tryz.ntmps143
   go_wp2
   go_ret
   exact ⟨by rw [decide_eq_false (by omega)];rfl,rfl⟩
 ·go_enter Tryz.func143,Tryz.ntmps143
  go_wp2
  go_ret
  exact ⟨by rw [decide_eq_false (by omega)];rfl,rfl⟩
theorem rletter (c:UInt8) (w:World):Calls Tryz.prog 145 #[.int .u8 (c.toNat:Int)] w fun e w'=>e = .returned (.bool (isLet c))∧w = w':=by
 have hc:=c.toNat_lt
 rw [let_dec]
 by_cases h1:97≤(c.toNat:Int)
 ·by_cases h2:(c.toNat:Int)≤122
  ·go_enter Tryz.func145,Tryz.ntmps145
   go_wp2
   go_ret
   exact ⟨by rw [decide_eq_true ⟨h1,h2⟩];rfl,rfl⟩
  ·go_enter Tryz.func145,Tryz.ntmps145
   go_wp2
   go_ret
   exact ⟨by rw [decide_eq_false (by omega)];rfl,rfl⟩
 ·go_enter Tryz.func145,Tryz.ntmps145
  go_wp2
  go_ret
  exact ⟨by rw [decide_eq_false (by omega)];rfl,rfl⟩
theorem rdigits (l : Bs) (hl : l.length ≤ 1000000) (w : World) : Calls Tryz.prog 144 #[.string (tx l)] w fun e w' => e = .returned (.int .i64 (cntDig l)) ∧ w = w' := by
  have HS := hid (tx_size' l)
  have HC := hid (takeWhile_le isDig l)
  have HL := hid hl
  have HT := hid (fun i (hi : i < l.length) => tx_at l i hi)
  clear hl
  go_enter Tryz.func144, Tryz.ntmps144
  go_wp2_with fail
  go_loop [3] (fun i => ∃ j : Nat, i = .int .i64 j ∧ j ≤ l.length ∧ Hid (j ≤ cntDig l)) (fun i => l.length - (intOf i).toNat)
  case atStart => exact ⟨0, rfl, Nat.zero_le _, hid (Nat.zero_le _)⟩
  case round =>
    obtain ⟨j, rfl, hj, hc⟩ := hrel
    have jl : j ≤ 1000000 := by have := HL.out; omega
    by_cases q1 : j < (tx l).size
    · have q1' : j < l.length := by have := HS.out; omega
      have HX := hid (HT.out j q1')
      have HA := hid (takeWhile_at isDig l j hc.out q1')
      cases q2 : isDig (l.getD j 0)
      · have HD : Hid (∀ W, Calls Tryz.prog 143 #[.int .u8 (((tx l)[j]'q1).toNat : Int)] W fun e w' => e = .returned (.bool false) ∧ W = w') := hid (fun W => by rw [HX.out, ← q2]; exact rdigit _ W)
        have HV := hid (HA.out.2 q2)
        clear q2 HA
        go_wp2_with (first | (go_at_call 143; refine (HD.out _).mono ?_; rintro e w1 ⟨rfl, rfl⟩))
        go_wp2
        go_ret
        exact ⟨by have e : cntDig l = j := HV.out.symm
                  rw [e]; rfl, rfl⟩
      · have HD : Hid (∀ W, Calls Tryz.prog 143 #[.int .u8 (((tx l)[j]'q1).toNat : Int)] W fun e w' => e = .returned (.bool true) ∧ W = w') := hid (fun W => by rw [HX.out, ← q2]; exact rdigit _ W)
        have HV := hid (HA.out.1 q2)
        clear q2 HA
        go_wp2_with (first | (go_at_call 143; refine (HD.out _).mono ?_; rintro e w1 ⟨rfl, rfl⟩))
        go_wp2
        go_round
        case rel => exact ⟨j + 1, by go_num, by omega, hid HV.out⟩
        case measure => simp [intOf]; omega
    · have HV : Hid (cntDig l = j) := hid (by have h1 := HS.out; have h2 := HC.out; have h3 := hc.out; unfold cntDig at *; omega)
      go_wp2
      go_ret
      exact ⟨by rw [HV.out]; rfl, rfl⟩
def kd (k:Nat):Int:=if k = 1 then 110 else if k = 2 then 119 else if k = 3 then 116 else 115
def PieceEnd (l:Bs) (w:World) (e:Ending) (w':World):Prop:=Below w.heap.size w w'∧
 ((lex1 l = none∧∃ a b n,e = .returned (.tuple #[.agg #[.int .u8 a,.string b],.int .i64 n,.bool false]))∨
  ∃ t n,lex1 l = some (t,n)∧e = .returned (.tuple #[.agg #[.int .u8 (kd t.k),.string (tx t.s)],.int .i64 (n:Nat),.bool true]))
theorem res_cell_tmp2 {P:Program} {fn:Func} {p q q2:Tmp} {ty:TypeId} (h:fn.results = #[.cell p ty,.tmp q,.tmp q2]) (tmps:Array Value) (w:World) (g:Nat) (t:TypeId) (cs:Array Value) (fr:Nat × Nat) (d:TypeDesc)
  (hp:tmps.getD p undef = .pointer (some ⟨g,0,none⟩)) (hg:w.heap[g]? = some (.cells cs t fr))
  (hu:P.underlying ty = some d) (hd:(match d with | .struct _ | .array _ _=>true | _=>false) = true) (hi:(P.info? ty).map (·.size) = some cs.size) :
  (results fn tmps).run P w = .ok (.tuple #[.agg cs,tmps.getD q undef,tmps.getD q2 undef]) w:=by
 have hp':tmps[p]?.getD undef = .pointer (some ⟨g,0,none⟩):=by simpa using hp
 simp [results,h,hp',asAddr,run_loadVar_row w g t ty cs fr d hg hu hd hi]
theorem bel1 (w:World) (o:Obj):Below w.heap.size w (w.alloc o):=(Below.refl _ _).alloc (Nat.le_refl _) _
theorem tx_pre (l:Bs) (n:Nat):(tx l).extract 0 n = tx (l.take n):=by rw [tx_extract];simp
theorem rpiece_word (l:Bs) (hl:l.length≤1000000) (h0:isDig (l.getD 0 0) = false) (h1:isLet (l.getD 0 0) = true) (w:World):Calls Tryz.prog 108 #[.string (tx l)] w (PieceEnd l w):=by
 have HS:=hid (tx_size' l)
 have hpos:0 < l.length:=getD_zero (l:=l) (i:=0) (fun e=>by rw [e] at h1;exact absurd h1 (by decide))
 have p0:0 < (tx l).size:=by have:=HS.out;omega
 have HC:=hid (takeWhile_le isWrd l)
 have HCW:=hid (cntWrd_first h1)
 have HL:=hid hl
 have HT:=hid (fun i (hi:i < l.length)=>tx_at l i hi)
 have HLEX:=hid (lex1_word h0 h1)
 rw [←HCW.out] at HLEX
 have HX0:=hid (tx_at l 0 hpos)
 have HI1:Hid (∀ W,Calls Tryz.prog 143 #[.int .u8 (((tx l)[0]'p0).toNat:Int)] W fun e w'=>e = .returned (.bool false)∧W = w'):=hid (fun W=>by rw [HX0.out,←h0];exact rdigit _ W)
 have HI2:Hid (∀ W,Calls Tryz.prog 145 #[.int .u8 (((tx l)[0]'p0).toNat:Int)] W fun e w'=>e = .returned (.bool true)∧W = w'):=hid (fun W=>by rw [HX0.out,←h1];exact rletter _ W)
 have HW1:=hid (show 1≤cntWrd l by have:=HCW.out;omega)
 clear hl h0 h1
 go_enter Tryz.func108,Tryz.ntmps108
 go_wp2_with (first | (go_at_call 143;refine (HI1.out _).mono ?_;rintro e w1 ⟨rfl,rfl⟩) | (go_at_call 145;refine (HI2.out _).mono ?_;rintro e w1 ⟨rfl,rfl⟩))
 go_loopg [9] (l.length - 1) (fun gh i wr=>∃ j:Nat,i = .int .i64 j∧1≤j∧j + gh = l.length∧Hid (j≤cntWrd l)∧(w.alloc (.cells #[.int .u8 0,.string ⟨#[]⟩] 152)) = wr)
 case atStart=>exact ⟨1,rfl,by omega,by omega,HW1,rfl⟩
 case round=>
  obtain ⟨j,rfl,j1,hj,hc,rfl⟩:=hrel
  have jl:j≤1000000:=by have:=HL.out;omega
  by_cases q1:j < (tx l).size
  ·have q1':j < l.length:=by have:=HS.out;omega
   have HX:=hid (HT.out j q1')
   have HA:=hid (takeWhile_at isWrd l j hc.out q1')
   cases q2:isWrd (l.getD j 0)
   ·have HV:Hid (j = cntWrd l):=hid (HA.out.2 q2)
    have v1:isLet (l.getD j 0) = false∧isDig (l.getD j 0) = false∧l.getD j 0≠95:=by simpa [isWrd,and_assoc] using q2
    have HL2:Hid (∀ W,Calls Tryz.prog 145 #[.int .u8 (((tx l)[j]'q1).toNat:Int)] W fun e w'=>e = .returned (.bool false)∧W = w'):=hid (fun W=>by rw [HX.out,←v1.1];exact rletter _ W)
    have HD2:Hid (∀ W,Calls Tryz.prog 143 #[.int .u8 (((tx l)[j]'q1).toNat:Int)] W fun e w'=>e = .returned (.bool false)∧W = w'):=hid (fun W=>by rw [HX.out,←v1.2.1];exact rdigit _ W)
    have z:((((tx l)[j]'q1).toNat:Int) == 95) = false:=by
     have:=ne_nat (c:=(tx l)[j]'q1) (v:=95) (by rw [HX.out];exact v1.2.2)
     simpa using this
    have z2:¬ (((tx l)[j]'q1).toNat:Int) = 95:=by simpa using z
    clear q2 v1 HA
    go_wp2_with (first | (go_at_call 145;refine (HL2.out _).mono ?_;rintro e w1 ⟨rfl,rfl⟩) | (go_at_call 143;refine (HD2.out _).mono ?_;rintro e w1 ⟨rfl,rfl⟩))
    go_wp2
    have HBW:=bel1 w (.cells #[.int .u8 119,.string ((tx l).extract 0 j)] 152)
    refine bodyPost_ret (res_cell_tmp2 rfl _ _ w.heap.size 152 _ _ _ rfl (heap_alloc_new w _) Tryz.underlying152 rfl (by kernel_rfl)) rfl ?_
    rw [tx_pre] at HBW
    rw [tx_pre]
    exact ⟨HBW,.inr ⟨_,j,by rw [HLEX.out,←HV.out],rfl⟩⟩
   ·have HV:Hid (j + 1≤cntWrd l):=hid (HA.out.1 q2)
    cases v1:isLet (l.getD j 0)
    ·have HL2:Hid (∀ W,Calls Tryz.prog 145 #[.int .u8 (((tx l)[j]'q1).toNat:Int)] W fun e w'=>e = .returned (.bool false)∧W = w'):=hid (fun W=>by rw [HX.out,←v1];exact rletter _ W)
     cases v2:isDig (l.getD j 0)
     ·have HD2:Hid (∀ W,Calls Tryz.prog 143 #[.int .u8 (((tx l)[j]'q1).toNat:Int)] W fun e w'=>e = .returned (.bool false)∧W = w'):=hid (fun W=>by rw [HX.out,←v2];exact rdigit _ W)
      have v3:l.getD j 0 = 95:=wrd_95 q2 v1 v2
      have z:((((tx l)[j]'q1).toNat:Int) == 95) = true:=by
       have:(((tx l)[j]'q1).toNat:Int) = 95:=toNat_of (HX.out.trans v3)
       simpa using this
      clear v1 v2 v3 HA q2
      go_wp2_with (first | (go_at_call 145;refine (HL2.out _).mono ?_;rintro e w1 ⟨rfl,rfl⟩) | (go_at_call 143;refine (HD2.out _).mono ?_;rintro e w1 ⟨rfl,rfl⟩))
      go_wp2
      go_roundg (gk - 1)
      case measure=>omega
      case rel=>exact ⟨j + 1,by go_num,by omega,by omega,hid HV.out,rfl⟩
     ·have HD2:Hid (∀ W,Calls Tryz.prog 143 #[.int .u8 (((tx l)[j]'q1).toNat:Int)] W fun e w'=>e = .returned (.bool true)∧W = w'):=hid (fun W=>by rw [HX.out,←v2];exact rdigit _ W)
      clear v1 v2 HA q2
      go_wp2_with (first | (go_at_call 145;refine (HL2.out _).mono ?_;rintro e w1 ⟨rfl,rfl⟩) | (go_at_call 143;refine (HD2.out _).mono ?_;rintro e w1 ⟨rfl,rfl⟩))
      go_wp2
      go_roundg (gk - 1)
      case measure=>omega
      case rel=>exact ⟨j + 1,by go_num,by omega,by omega,hid HV.out,rfl⟩
    ·have HL2:Hid (∀ W,Calls Tryz.prog 145 #[.int .u8 (((tx l)[j]'q1).toNat:Int)] W fun e w'=>e = .returned (.bool true)∧W = w'):=hid (fun W=>by rw [HX.out,←v1];exact rletter _ W)
     have HD2:=HL2
     clear v1 HA q2
     go_wp2_with (first | (go_at_call 145;refine (HL2.out _).mono ?_;rintro e w1 ⟨rfl,rfl⟩) | (go_at_call 143;refine (HD2.out _).mono ?_;rintro e w1 ⟨rfl,rfl⟩))
     go_wp2
     go_roundg (gk - 1)
     case measure=>omega
     case rel=>exact ⟨j + 1,by go_num,by omega,by omega,hid HV.out,rfl⟩
  ·have HV:Hid (j = cntWrd l):=hid (by have h1:=HS.out;have h2:=HC.out;have h3:=hc.out;unfold cntWrd at *;omega)
   have q2:¬ (j:Int) < ((tx l).size:Int):=by omega
   have q3:j≤(tx l).size:=by have:=HS.out;omega
   go_wp2
   have HBW:=bel1 w (.cells #[.int .u8 119,.string ((tx l).extract 0 j)] 152)
   refine bodyPost_ret (res_cell_tmp2 rfl _ _ w.heap.size 152 _ _ _ rfl (heap_alloc_new w _) Tryz.underlying152 rfl (by kernel_rfl)) rfl ?_
   rw [tx_pre] at HBW
   rw [tx_pre]
   exact ⟨HBW,.inr ⟨_,j,by rw [HLEX.out,←HV.out],rfl⟩⟩
end Go.Proofs.YtpcbamcelpcigaaGreat
