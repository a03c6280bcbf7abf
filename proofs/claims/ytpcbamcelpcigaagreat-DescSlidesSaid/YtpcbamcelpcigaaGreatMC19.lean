/- Own texts, merged. -/
import Derived.WalkKit
import Derived.Deep.Slices
import Derived.Test.YtpcbamcelpcigaaGreatMC18
import Derived.Test.YtpcbamcelpcigaaGreatMC00
set_option maxRecDepth 100000
set_option maxHeartbeats 32000000
open Go.Lib (hid)
namespace Go.Proofs.YtpcbamcelpcigaaGreat
open Go.RowKit Go.Shelf
attribute [local go_sem] run_store_float
theorem rtwo (A:Nat→Prop) (op:Bs) (va vb:Value) (ta tb:Tree) (w:World) (hlo:∀ b,w.heap.size≤b→A b) (ha:NodeV A w va ta) (hb:NodeV A w vb tb) :
  Calls Tryz.prog 111 #[.string (tx op),va,vb] w fun e w'=>∃ v,e = .returned v∧NodeV A w' v (two op ta tb)∧Below w.heap.size w w':=by
 have HA:=hid ha
 have HB:=hid hb
 have HL:=hid hlo
 obtain ⟨oa,na,sa,la⟩:=ta
 obtain ⟨ob,nb,sb,lb⟩:=tb
 obtain ⟨xa,ca,rfl,_⟩:=ha
 obtain ⟨xb,cb,rfl,_⟩:=hb
 generalize la.length = p at HA ⊢
 generalize lb.length = q at HB ⊢
 clear hlo
 go_enter Tryz.func111,Tryz.ntmps111
 go_wp2
 have hbel:∀ o1 o2 o3 o4,Below w.heap.size w ((((w.alloc o1).alloc o2).alloc o3).alloc o4):=fun o1 o2 o3 o4=>((((Below.refl _ _).alloc (Nat.le_refl _) _).alloc (by simp) _).alloc (by simp;omega) _).alloc (by simp;omega) _
 refine bodyPost_ret (node_res rfl _ _ (w.heap.size + 1 + 1) _ _ _ _ rfl ((heap_alloc_old _ _ (by simp)).trans (by simpa using heap_alloc_new ((w.alloc _).alloc _) _))) rfl ?_
 exact ⟨_,rfl,node_two (g:=w.heap.size + 1 + 1 + 1) (HL.out _ (by omega)) (by simpa using heap_alloc_new (((w.alloc _).alloc _).alloc _) _) (HA.out.below (hbel _ _ _ _)) (HB.out.below (hbel _ _ _ _)),hbel _ _ _ _⟩
theorem KOk.tail {t:Tok} {L:List Tok} (h:KOk (t :: L)):KOk L:=fun u hu=>h u (by simp [hu])
theorem lex1_kind {l : Bs} {t : Tok} {n : Nat} (h : lex1 l = some (t, n)) : t.k = 1 ∨ t.k = 2 ∨ t.k = 3 ∨ t.k = 4 := by
  cases l with
  | nil => cases h
  | cons c r =>
    simp only [lex1] at h
    split at h
    · split at h
      · cases h; simp
      · cases h
    · split at h
      · cases h; simp
      · split at h
        · split at h
          · cases h; simp
          · cases h
        · split at h
          · cases h; simp
          · split at h
            · cases h; simp
            · cases h
theorem lexF_ok : ∀ (n : Nat) (l : Bs), KOk (lexF n l).1
  | 0, _ => by intro t h; simp [lexF] at h
  | n + 1, l => by
    simp only [lexF]
    split
    · intro t h; cases h
    · cases hq : lex1 (l.drop (cntBl l)) with
      | none => intro t h; cases h
      | some x =>
        obtain ⟨t, k⟩ := x
        intro u hu
        rcases List.mem_cons.1 hu with rfl | hu
        · exact ⟨lex1_kind hq, lex1_num_tok hq⟩
        · exact lexF_ok n _ u hu
def betw (lv:Nat) (ts:List Tok):Bs:=
 if lv = 0 then (if isTok ts 2 wor = true then wor else [])
 else if lv = 1 then (if isTok ts 2 wand = true then wand else [])
 else if lv = 2 then (if isTok ts 4 [43] = true∨isTok ts 4 [45] = true then (ts.headD ⟨0,[]⟩).s else [])
 else (if isTok ts 4 [42] = true∨isTok ts 4 [47] = true then (ts.headD ⟨0,[]⟩).s else [])
theorem rbetween0 (B:Nat) (v:Value) (L:List Tok) (hK:KOk L) (hL:L.length≤1000000) (w:World) (h:TokV B w v L) :
  Calls Tryz.prog 110 #[v,.int .i64 0] w fun e w'=>e = .returned (.string (tx (betw 0 L)))∧w = w':=by
 have HIS:Hid (Calls Tryz.prog 148 #[v,.int .u8 119,.string ⟨#[111,114]⟩] w fun e w'=>e = .returned (.bool (isTok L 2 wor))∧w = w'):=hid (ris B v L 2 (.inl rfl) wor hK hL w h)
 have HV:Hid (betw 0 L = if isTok L 2 wor = true then wor else []):=hid rfl
 obtain ⟨x,n,c,rfl⟩:=h.agg
 obtain ⟨rs,hrs⟩:∃ rs,rs = betw 0 L:=⟨_,rfl⟩
 rw [←hrs] at HV ⊢
 clear hK hL h hrs
 cases hq:isTok L 2 wor
 ·rw [hq] at HIS HV
  clear hq
  go_enter Tryz.func110,Tryz.ntmps110
  go_wp2_with (first | (go_at_call 148;refine (HIS.out).mono ?_;rintro e w1 ⟨rfl,rfl⟩))
  go_wp2
  go_ret
  exact ⟨by rw [HV.out];rfl,rfl⟩
 ·rw [hq] at HIS HV
  clear hq
  go_enter Tryz.func110,Tryz.ntmps110
  go_wp2_with (first | (go_at_call 148;refine (HIS.out).mono ?_;rintro e w1 ⟨rfl,rfl⟩))
  go_wp2
  go_ret
  exact ⟨by rw [HV.out];rfl,rfl⟩
theorem rbetween1 (B:Nat) (v:Value) (L:List Tok) (hK:KOk L) (hL:L.length≤1000000) (w:World) (h:TokV B w v L) :
  Calls Tryz.prog 110 #[v,.int .i64 1] w fun e w'=>e = .returned (.string (tx (betw 1 L)))∧w = w':=by
 have HIS:Hid (Calls Tryz.prog 148 #[v,.int .u8 119,.string ⟨#[97,110,100]⟩] w fun e w'=>e = .returned (.bool (isTok L 2 wand))∧w = w'):=hid (ris B v L 2 (.inl rfl) wand hK hL w h)
 have HV:Hid (betw 1 L = if isTok L 2 wand = true then wand else []):=hid rfl
 obtain ⟨x,n,c,rfl⟩:=h.agg
 obtain ⟨rs,hrs⟩:∃ rs,rs = betw 1 L:=⟨_,rfl⟩
 rw [←hrs] at HV ⊢
 clear hK hL h hrs
 cases hq:isTok L 2 wand
 ·rw [hq] at HIS HV
  clear hq
  go_enter Tryz.func110,Tryz.ntmps110
  go_wp2_with (first | (go_at_call 148;refine (HIS.out).mono ?_;rintro e w1 ⟨rfl,rfl⟩))
  go_wp2
  go_ret
  exact ⟨by rw [HV.out];rfl,rfl⟩
 ·rw [hq] at HIS HV
  clear hq
  go_enter Tryz.func110,Tryz.ntmps110
  go_wp2_with (first | (go_at_call 148;refine (HIS.out).mono ?_;rintro e w1 ⟨rfl,rfl⟩))
  go_wp2
  go_ret
  exact ⟨by rw [HV.out];rfl,rfl⟩
theorem rbetween2 (B : Nat) (v : Value) (L : List Tok) (hK : KOk L) (hL : L.length ≤ 1000000) (w : World) (h : TokV B w v L) :
    Calls Tryz.prog 110 #[v, .int .i64 2] w fun e w' => e = .returned (.string (tx (betw 2 L))) ∧ w = w' := by
  have HIS1 : Hid (Calls Tryz.prog 148 #[v, .int .u8 115, .string ⟨#[43]⟩] w fun e w' => e = .returned (.bool (isTok L 4 [43])) ∧ w = w') := hid (ris B v L 4 (.inr rfl) [43] hK hL w h)
  have HIS2 : Hid (Calls Tryz.prog 148 #[v, .int .u8 115, .string ⟨#[45]⟩] w fun e w' => e = .returned (.bool (isTok L 4 [45])) ∧ w = w') := hid (ris B v L 4 (.inr rfl) [45] hK hL w h)
  have HV : Hid (betw 2 L = if isTok L 4 [43] = true ∨ isTok L 4 [45] = true then (L.headD ⟨0, []⟩).s else []) := hid rfl
  have HH := hid h
  obtain ⟨rs, hrs⟩ : ∃ rs, rs = betw 2 L := ⟨_, rfl⟩
  rw [← hrs] at HV ⊢
  have hLL := hL
  by_cases hq : isTok L 4 [43] = true ∨ isTok L 4 [45] = true
  · rw [if_pos hq] at HV
    cases L with
    | nil => rcases hq with h | h <;> cases h
    | cons t r =>
      obtain ⟨x, cap, rfl, hcap, hx, hc⟩ := h
      obtain ⟨a, rfl⟩ : ∃ a, x = some a := by
        cases x with
        | none => have := hx rfl; cases this
        | some a => exact ⟨a, rfl⟩
      obtain ⟨g1, g2, g3⟩ := hc a rfl 0 t rfl
      simp only [Nat.zero_mul, Nat.zero_add] at g3
      have g3' : w.cell? ⟨a.block, a.off + 1, none⟩ = some (.string (tx t.s)) := by simpa [Addr.add] using g3
      have HT : Hid (rs = t.s) := hid HV.out
      obtain ⟨N, hN⟩ : ∃ N, N = (t :: r).length := ⟨_, rfl⟩
      have hN1 : 0 < N := by rw [hN]; simp
      rw [← hN] at hLL hcap HIS1 HIS2 ⊢
      clear hc hx hK hN g2 g3 HV HH hL hrs
      rw [HT.out]
      generalize t.s = ss at g3' ⊢
      clear HT
      cases h1 : isTok (t :: r) 4 [43]
      · have h2 : isTok (t :: r) 4 [45] = true := by rcases hq with h | h; (rw [h1] at h; cases h); exact h
        rw [h1] at HIS1
        rw [h2] at HIS2
        clear h1 h2 hq
        go_enter Tryz.func110, Tryz.ntmps110
        go_wp2_with (first | (go_at_call 148; (with_reducible refine (HIS1.out).mono ?_); rintro e w1 ⟨rfl, rfl⟩) | (go_at_call 148; (with_reducible refine (HIS2.out).mono ?_); rintro e w1 ⟨rfl, rfl⟩))
        go_wp2
        go_ret
        exact ⟨rfl, rfl⟩
      · rw [h1] at HIS1
        clear h1 hq
        go_enter Tryz.func110, Tryz.ntmps110
        go_wp2_with (first | (go_at_call 148; (with_reducible refine (HIS1.out).mono ?_); rintro e w1 ⟨rfl, rfl⟩) | (go_at_call 148; (with_reducible refine (HIS2.out).mono ?_); rintro e w1 ⟨rfl, rfl⟩))
        go_wp2
        go_ret
        exact ⟨rfl, rfl⟩
  · rw [if_neg hq] at HV
    have h1 : isTok L 4 [43] = false := by cases h : isTok L 4 [43]; rfl; exact absurd (.inl h) hq
    have h2 : isTok L 4 [45] = false := by cases h : isTok L 4 [45]; rfl; exact absurd (.inr h) hq
    rw [h1] at HIS1
    rw [h2] at HIS2
    obtain ⟨x, n, c, rfl⟩ := h.agg
    clear h1 h2 hq hK hL h hrs HH hLL
    go_enter Tryz.func110, Tryz.ntmps110
    go_wp2_with (first | (go_at_call 148; (with_reducible refine (HIS1.out).mono ?_); rintro e w1 ⟨rfl, rfl⟩) | (go_at_call 148; (with_reducible refine (HIS2.out).mono ?_); rintro e w1 ⟨rfl, rfl⟩))
    go_wp2
    go_ret
    exact ⟨by rw [HV.out]; rfl, rfl⟩
theorem rbetween3 (B : Nat) (v : Value) (L : List Tok) (hK : KOk L) (hL : L.length ≤ 1000000) (w : World) (h : TokV B w v L) :
    Calls Tryz.prog 110 #[v, .int .i64 3] w fun e w' => e = .returned (.string (tx (betw 3 L))) ∧ w = w' := by
  have HIS1 : Hid (Calls Tryz.prog 148 #[v, .int .u8 115, .string ⟨#[42]⟩] w fun e w' => e = .returned (.bool (isTok L 4 [42])) ∧ w = w') := hid (ris B v L 4 (.inr rfl) [42] hK hL w h)
  have HIS2 : Hid (Calls Tryz.prog 148 #[v, .int .u8 115, .string ⟨#[47]⟩] w fun e w' => e = .returned (.bool (isTok L 4 [47])) ∧ w = w') := hid (ris B v L 4 (.inr rfl) [47] hK hL w h)
  have HV : Hid (betw 3 L = if isTok L 4 [42] = true ∨ isTok L 4 [47] = true then (L.headD ⟨0, []⟩).s else []) := hid rfl
  have HH := hid h
  obtain ⟨rs, hrs⟩ : ∃ rs, rs = betw 3 L := ⟨_, rfl⟩
  rw [← hrs] at HV ⊢
  have hLL := hL
  by_cases hq : isTok L 4 [42] = true ∨ isTok L 4 [47] = true
  · rw [if_pos hq] at HV
    cases L with
    | nil => rcases hq with h | h <;> cases h
    | cons t r =>
      obtain ⟨x, cap, rfl, hcap, hx, hc⟩ := h
      obtain ⟨a, rfl⟩ : ∃ a, x = some a := by
        cases x with
        | none => have := hx rfl; cases this
        | some a => exact ⟨a, rfl⟩
      obtain ⟨g1, g2, g3⟩ := hc a rfl 0 t rfl
      simp only [Nat.zero_mul, Nat.zero_add] at g3
      have g3' : w.cell? ⟨a.block, a.off + 1, none⟩ = some (.string (tx t.s)) := by simpa [Addr.add] using g3
      have HT : Hid (rs = t.s) := hid HV.out
      obtain ⟨N, hN⟩ : ∃ N, N = (t :: r).length := ⟨_, rfl⟩
      have hN1 : 0 < N := by rw [hN]; simp
      rw [← hN] at hLL hcap HIS1 HIS2 ⊢
      clear hc hx hK hN g2 g3 HV HH hL hrs
      rw [HT.out]
      generalize t.s = ss at g3' ⊢
      clear HT
      cases h1 : isTok (t :: r) 4 [42]
      · have h2 : isTok (t :: r) 4 [47] = true := by rcases hq with h | h; (rw [h1] at h; cases h); exact h
        rw [h1] at HIS1
        rw [h2] at HIS2
        clear h1 h2 hq
        go_enter Tryz.func110, Tryz.ntmps110
        go_wp2_with (first | (go_at_call 148; (with_reducible refine (HIS1.out).mono ?_); rintro e w1 ⟨rfl, rfl⟩) | (go_at_call 148; (with_reducible refine (HIS2.out).mono ?_); rintro e w1 ⟨rfl, rfl⟩))
        go_wp2
        go_ret
        exact ⟨rfl, rfl⟩
      · rw [h1] at HIS1
        clear h1 hq
        go_enter Tryz.func110, Tryz.ntmps110
        go_wp2_with (first | (go_at_call 148; (with_reducible refine (HIS1.out).mono ?_); rintro e w1 ⟨rfl, rfl⟩) | (go_at_call 148; (with_reducible refine (HIS2.out).mono ?_); rintro e w1 ⟨rfl, rfl⟩))
        go_wp2
        go_ret
        exact ⟨rfl, rfl⟩
  · rw [if_neg hq] at HV
    have h1 : isTok L 4 [42] = false := by cases h : isTok L 4 [42]; rfl; exact absurd (.inl h) hq
    have h2 : isTok L 4 [47] = false := by cases h : isTok L 4 [47]; rfl; exact absurd (.inr h) hq
    rw [h1] at HIS1
    rw [h2] at HIS2
    obtain ⟨x, n, c, rfl⟩ := h.agg
    clear h1 h2 hq hK hL h hrs HH hLL
    go_enter Tryz.func110, Tryz.ntmps110
    go_wp2_with (first | (go_at_call 148; (with_reducible refine (HIS1.out).mono ?_); rintro e w1 ⟨rfl, rfl⟩) | (go_at_call 148; (with_reducible refine (HIS2.out).mono ?_); rintro e w1 ⟨rfl, rfl⟩))
    go_wp2
    go_ret
    exact ⟨by rw [HV.out]; rfl, rfl⟩
theorem rbetween (lv:Nat) (hlv:lv < 4) (B:Nat) (v:Value) (L:List Tok) (hK:KOk L) (hL:L.length≤1000000) (w:World) (h:TokV B w v L) :
  Calls Tryz.prog 110 #[v,.int .i64 lv] w fun e w'=>e = .returned (.string (tx (betw lv L)))∧w = w':=by
 match lv,hlv with
 | 0,_=>exact rbetween0 B v L hK hL w h
 | 1,_=>exact rbetween1 B v L hK hL w h
 | 2,_=>exact rbetween2 B v L hK hL w h
 | 3,_=>exact rbetween3 B v L hK hL w h
def RVal (A : Nat → Prop) (B : Nat) (w : World) (v : Value) (res : Option (Tree × List Tok)) : Prop :=
  ∃ o n s x l c y m d bad t, v = .agg #[.string o, .float .f64 n, .string s, .slice x l c, .slice y m d, .bool bad] ∧ NodeV A w (.agg #[.string o, .float .f64 n, .string s, .slice x l c]) t ∧
    ((bad = true ∧ res = none) ∨ (bad = false ∧ ∃ ts, res = some (t, ts) ∧ TokV B w (.slice y m d) ts ∧ KOk ts))
def REnd (B:Nat) (res:Option (Tree × List Tok)) (w:World) (e:Ending) (w':World):Prop:=
 Below w.heap.size w w'∧∃ v,e = .returned v∧RVal (fun b=>w.heap.size≤b) B w' v res
def lm (lv:Nat):Mode:=if lv = 0 then .or else if lv = 1 then .and else if lv = 2 then .sum else .prod
def pm (lv:Nat):Mode:=if lv = 0 then .and else if lv = 1 then .not else if lv = 2 then .prod else .signed
def tm (lv:Nat) (a:Tree):Mode:=if lv = 0 then .orT a else if lv = 1 then .andT a else if lv = 2 then .sumT a else .prodT a
def lvlR (lv:Nat):Nat:=if lv = 0 then 11 else if lv = 1 then 9 else if lv = 2 then 6 else 4
def lvlP (lv:Nat):Nat:=if lv = 0 then 9 else if lv = 1 then 7 else if lv = 2 then 4 else 2
theorem P_row (n lv:Nat) (hlv:lv < 4) (ts:List Tok):P valV true (n + 1) (lm lv) ts = match P valV true n (pm lv) ts with | none=>none | some (a,r)=>P valV true n (tm lv a) r:=by
 match lv,hlv with
 | 0,_=>show P valV true (n + 1) .or ts = match P valV true n .and ts with | none=>none | some (a,r)=>P valV true n (.orT a) r;simp only [P];rfl
 | 1,_=>show P valV true (n + 1) .and ts = match P valV true n .not ts with | none=>none | some (a,r)=>P valV true n (.andT a) r;simp only [P];rfl
 | 2,_=>show P valV true (n + 1) .sum ts = match P valV true n .prod ts with | none=>none | some (a,r)=>P valV true n (.sumT a) r;simp only [P];rfl
 | 3,_=>show P valV true (n + 1) .prod ts = match P valV true n .signed ts with | none=>none | some (a,r)=>P valV true n (.prodT a) r;simp only [P];rfl
theorem isTok_s {ts : List Tok} {k : Nat} {x : Bs} (h : isTok ts k x = true) : (ts.headD ⟨0, []⟩).s = x := by
  cases ts with
  | nil => cases h
  | cons t r =>
    simp only [isTok, Bool.and_eq_true, decide_eq_true_eq] at h
    exact h.2
theorem adv_true (t:Tok) (r:List Tok):adv true (t :: r) = some r:=by
 simp only [adv]
 rw [if_neg (by simp)]
theorem P_tail_no (n lv : Nat) (hlv : lv < 4) (a : Tree) (ts : List Tok) (h : betw lv ts = []) : P valV true (n + 1) (tm lv a) ts = some (a, ts) := by
  match lv, hlv with
  | 0, _ =>
    have hq : ¬ isTok ts 2 wor = true := fun q => by simp only [betw, if_pos, q] at h; cases h
    show P valV true (n + 1) (.orT a) ts = _
    simp only [P]
    exact if_neg hq
  | 1, _ =>
    have hq : ¬ isTok ts 2 wand = true := fun q => by simp [betw, q] at h; cases h
    show P valV true (n + 1) (.andT a) ts = _
    simp only [P]
    exact if_neg hq
  | 2, _ =>
    have hq : ¬ (isTok ts 4 [43] = true ∨ isTok ts 4 [45] = true) := fun q => by
      have e : betw 2 ts = (ts.headD ⟨0, []⟩).s := by simp only [betw]; rw [if_neg (by decide), if_neg (by decide), if_pos trivial, if_pos q]
      rw [e] at h
      rcases q with q | q <;> rw [isTok_s q] at h <;> cases h
    show P valV true (n + 1) (.sumT a) ts = _
    simp only [P]
    exact if_neg hq
  | 3, _ =>
    have hq : ¬ (isTok ts 4 [42] = true ∨ isTok ts 4 [47] = true) := fun q => by
      have e : betw 3 ts = (ts.headD ⟨0, []⟩).s := by simp only [betw]; rw [if_neg (by decide), if_neg (by decide), if_neg (by decide), if_pos q]
      rw [e] at h
      rcases q with q | q <;> rw [isTok_s q] at h <;> cases h
    show P valV true (n + 1) (.prodT a) ts = _
    simp only [P]
    exact if_neg hq
theorem P_tail_yes (n lv : Nat) (hlv : lv < 4) (a : Tree) (t : Tok) (r : List Tok) (h : betw lv (t :: r) ≠ []) : P valV true (n + 1) (tm lv a) (t :: r) = match P valV true n (pm lv) r with | none => none | some (b, r') => P valV true n (tm lv (two (betw lv (t :: r)) a b)) r' := by
  match lv, hlv with
  | 0, _ =>
    have hq : isTok (t :: r) 2 wor = true := by
      cases q : isTok (t :: r) 2 wor
      · exact absurd (by simp [betw, q]) h
      · rfl
    have e : betw 0 (t :: r) = wor := by simp [betw, hq]
    rw [e]
    show P valV true (n + 1) (.orT a) (t :: r) = match P valV true n .and r with | none => none | some (b, r') => P valV true n (.orT (two wor a b)) r'
    simp only [P]
    rw [if_pos hq, adv_true]
    rfl
  | 1, _ =>
    have hq : isTok (t :: r) 2 wand = true := by
      cases q : isTok (t :: r) 2 wand
      · exact absurd (by simp [betw, q]) h
      · rfl
    have e : betw 1 (t :: r) = wand := by simp [betw, hq]
    rw [e]
    show P valV true (n + 1) (.andT a) (t :: r) = match P valV true n .not r with | none => none | some (b, r') => P valV true n (.andT (two wand a b)) r'
    simp only [P]
    rw [if_pos hq, adv_true]
    rfl
  | 2, _ =>
    have hq : isTok (t :: r) 4 [43] = true ∨ isTok (t :: r) 4 [45] = true := by
      by_cases q : isTok (t :: r) 4 [43] = true ∨ isTok (t :: r) 4 [45] = true
      · exact q
      · exact absurd (by simp only [betw]; rw [if_neg (by decide), if_neg (by decide), if_pos trivial, if_neg q]) h
    have e : betw 2 (t :: r) = t.s := by simp only [betw]; rw [if_neg (by decide), if_neg (by decide), if_pos trivial, if_pos hq]; rfl
    rw [e]
    show P valV true (n + 1) (.sumT a) (t :: r) = match P valV true n .prod r with | none => none | some (b, r') => P valV true n (.sumT (two t.s a b)) r'
    simp only [P]
    rw [if_pos hq, adv_true]
    rfl
  | 3, _ =>
    have hq : isTok (t :: r) 4 [42] = true ∨ isTok (t :: r) 4 [47] = true := by
      by_cases q : isTok (t :: r) 4 [42] = true ∨ isTok (t :: r) 4 [47] = true
      · exact q
      · exact absurd (by simp only [betw]; rw [if_neg (by decide), if_neg (by decide), if_neg (by decide), if_neg q]) h
    have e : betw 3 (t :: r) = t.s := by simp only [betw]; rw [if_neg (by decide), if_neg (by decide), if_neg (by decide), if_pos hq]; rfl
    rw [e]
    show P valV true (n + 1) (.prodT a) (t :: r) = match P valV true n .signed r with | none => none | some (b, r') => P valV true n (.prodT (two t.s a b)) r'
    simp only [P]
    rw [if_pos hq, adv_true]
    rfl
theorem tok_slice {B:Nat} {w:World} {y:Option Addr} {m d:Nat} {t:Tok} {r:List Tok} (h:TokV B w (.slice y m d) (t :: r)) :
  ∃ y2 m2 d2,(∀ W,(Instr.slice 117 (.slice y m d) (some (.int .i64 1)) none none).run Tryz.prog W = .ok (.slice y2 m2 d2) W)∧TokV B w (.slice y2 m2 d2) r:=by
 obtain ⟨x,cap,hv,hcap,hx,hc⟩:=h
 cases hv
 obtain ⟨a,rfl⟩:∃ a,y = some a:=by
  cases y with
  | none=>have:=hx rfl;cases this
  | some a=>exact ⟨a,rfl⟩
 refine ⟨if d = 1 then some a else some (a.add 2),r.length,d - 1,fun W=>?_,?_⟩
 ·have hl:(1:Int)≤((t :: r).length:Int):=by simp;omega
  refine (run_slice_l W 117 (some a) (t :: r).length d (show Tryz.prog.underlying 117 = some (.slice (Tryz.prog.elem 117)) by kernel_rfl) .i64 1 (by decide) hl).trans ?_
  have hsz:(sizeOf (Tryz.prog.elem 117)).run Tryz.prog W = .ok 2 W:=by
   have he:Tryz.prog.elem 117 = 152:=by kernel_rfl
   rw [he]
   have e:Tryz.t152.size = 2:=by kernel_rfl
   simp [sizeOf,go_sem,e]
  rw [hsz]
  rfl
 ·refine ⟨_,_,rfl,by rw [List.length_cons] at hcap;omega,(fun h=>by split at h <;> cases h),fun b hb i u hi=>?_⟩
  have hd:d≠1:=fun e=>by
   subst e
   have:r.length = 0:=by rw [List.length_cons] at hcap;omega
   rw [List.length_eq_zero_iff.1 this] at hi
   cases hi
  rw [if_neg hd] at hb
  cases hb
  obtain ⟨g1,g2,g3⟩:=hc a rfl (i + 1) u (by simpa using hi)
  refine ⟨by rw [add_block];exact g1,?_,?_⟩
  ·rw [Go.Deep.add_add,show 2 + i * 2 = (i + 1) * 2 by omega];exact g2
  ·rw [Go.Deep.add_add,show 2 + (i * 2 + 1) = (i + 1) * 2 + 1 by omega];exact g3
def RC (B:Nat) (F:Nat) (lv:Nat) (m:Mode) (lvl n:Nat):Prop:=
 ∀ ts v w,12 * ts.length + lvl≤n→ts.length≤1000000→B≤w.heap.size→KOk ts→TokV B w v ts→Calls Tryz.prog F #[v,.int .i64 lv] w (REnd B (P valV true n m ts) w)
def RB (w:World) (g:Nat) (v0 v1 v2 v3 v4 v5:Value):Prop:=w.heap[g]? = some (.cells #[v0,v1,v2,v3,v4,v5] 121 (0,0))
theorem RB.cells {w:World} {g:Nat} {v0 v1 v2 v3 v4 v5:Value} (h:RB w g v0 v1 v2 v3 v4 v5):w.cell? ⟨g,0,none⟩ = some v0∧w.cell? ⟨g,1,none⟩ = some v1∧w.cell? ⟨g,2,none⟩ = some v2∧w.cell? ⟨g,3,none⟩ = some v3∧w.cell? ⟨g,4,none⟩ = some v4∧w.cell? ⟨g,5,none⟩ = some v5:=by
 unfold RB at h
 exact ⟨by simp [World.cell?,h],by simp [World.cell?,h],by simp [World.cell?,h],by simp [World.cell?,h],by simp [World.cell?,h],by simp [World.cell?,h]⟩
theorem RB.fr {w:World} {g:Nat} {v0 v1 v2 v3 v4 v5:Value} (h:RB w g v0 v1 v2 v3 v4 v5) (j:Nat):w.frozen? ⟨g,j,none⟩ = false:=by unfold RB at h;simp [World.frozen?,h]
theorem RB.lt {w:World} {g:Nat} {v0 v1 v2 v3 v4 v5:Value} (h:RB w g v0 v1 v2 v3 v4 v5):g < w.heap.size:=(Array.getElem?_eq_some_iff.1 h).1
theorem RB.below {w w':World} {g:Nat} {v0 v1 v2 v3 v4 v5:Value} (h:RB w g v0 v1 v2 v3 v4 v5) (hb:Below w.heap.size w w'):RB w' g v0 v1 v2 v3 v4 v5:=(hb.block g h.lt).trans h
def putR (w:World) (g:Nat) (v0 v1 v2 v3 v4 v5:Value):World:=(((((w.setCell ⟨g,0,none⟩ v0).setCell ⟨g,1,none⟩ v1).setCell ⟨g,2,none⟩ v2).setCell ⟨g,3,none⟩ v3).setCell ⟨g,4,none⟩ v4).setCell ⟨g,5,none⟩ v5
theorem RB.put {w:World} {g:Nat} {u0 u1 u2 u3 u4 u5 v0 v1 v2 v3 v4 v5:Value} (h:RB w g u0 u1 u2 u3 u4 u5):RB (putR w g v0 v1 v2 v3 v4 v5) g v0 v1 v2 v3 v4 v5:=by
 unfold putR RB
 rw [set_block (set_block (set_block (set_block (set_block (set_block h _) _) _) _) _) _]
 rfl
theorem putR_other {w:World} {g j:Nat} {v0 v1 v2 v3 v4 v5:Value} (h:j≠g):(putR w g v0 v1 v2 v3 v4 v5).heap[j]? = w.heap[j]?:=by
 unfold putR
 rw [set_other h,set_other h,set_other h,set_other h,set_other h,set_other h]
theorem putR_size {w:World} {g:Nat} {v0 v1 v2 v3 v4 v5:Value}:(putR w g v0 v1 v2 v3 v4 v5).heap.size = w.heap.size:=by simp [putR]
theorem below_putR {n g:Nat} {w a:World} {v0 v1 v2 v3 v4 v5:Value} (h:Below n w a) (hg:n≤g):Below n w (putR a g v0 v1 v2 v3 v4 v5):=
 (((((h.setCell (show n≤(⟨g,0,none⟩:Addr).block from hg) v0).setCell (show n≤(⟨g,1,none⟩:Addr).block from hg) v1).setCell (show n≤(⟨g,2,none⟩:Addr).block from hg) v2).setCell (show n≤(⟨g,3,none⟩:Addr).block from hg) v3).setCell (show n≤(⟨g,4,none⟩:Addr).block from hg) v4).setCell (show n≤(⟨g,5,none⟩:Addr).block from hg) v5
theorem NodeV.putR {A:Nat→Prop} {w:World} {g:Nat} {v v0 v1 v2 v3 v4 v5:Value} {t:Tree} (h:NodeV A w v t) (hg:¬ A g):NodeV A (putR w g v0 v1 v2 v3 v4 v5) v t:=
 NodeV.kept (by rw [putR_size];exact Nat.le_refl _) (fun b h1 _=>⟨h1,putR_other (fun e=>hg (by rw [←e];exact h1))⟩) t v h
theorem TokV.putR {B:Nat} {w:World} {g:Nat} {v v0 v1 v2 v3 v4 v5:Value} {L:List Tok} (h:TokV B w v L) (hg:B≤g):TokV B (putR w g v0 v1 v2 v3 v4 v5) v L:=
 h.kept (fun b h1=>putR_other (by omega))
theorem read_node (fn:Func) {p:Tmp} (h:fn.results = #[.cell p 121]) (tmps:Array Value) (w:World) (g:Nat) (v0 v1 v2 v3 v4 v5:Value) (hp:tmps.getD p undef = .pointer (some ⟨g,0,none⟩))
  (hg:RB w g v0 v1 v2 v3 v4 v5):(results fn tmps).run Tryz.prog w = .ok (.agg #[v0,v1,v2,v3,v4,v5]) w:=
 results_cell h tmps w g 121 _ _ _ hp hg Tryz.underlying121 rfl (by kernel_rfl)
structure RLI (w:World) (g:Nat) (o:ByteArray) (nn:Nat) (s:ByteArray) (x:Option Addr) (l c:Nat) (y:Option Addr) (m d:Nat) (bad:Bool) (t:Tree) (W:World):Prop where
 node:NodeV (fun b=>w.heap.size≤b∧b≠w.heap.size∧b≠g) W (.agg #[.string o,.float .f64 nn,.string s,.slice x l c]) t
 blk:RB W g (.string o) (.float .f64 nn) (.string s) (.slice x l c) (.slice y m d) (.bool bad)
 res:∃ z0 z1 z2 z3 z4 z5,RB W w.heap.size z0 z1 z2 z3 z4 z5
 bel:Below w.heap.size w W
 lt:w.heap.size < g
theorem RLI.below {w W W':World} {g:Nat} {o:ByteArray} {nn:Nat} {s:ByteArray} {x:Option Addr} {l c:Nat} {y:Option Addr} {m d:Nat} {bad:Bool} {t:Tree} (h:RLI w g o nn s x l c y m d bad t W) (hb:Below W.heap.size W W'):RLI w g o nn s x l c y m d bad t W':=by
 obtain ⟨z0,z1,z2,z3,z4,z5,hz⟩:=h.res
 exact ⟨h.node.below hb,h.blk.below hb,⟨z0,z1,z2,z3,z4,z5,hz.below hb⟩,h.bel.trans (below_le hb h.bel.size),h.lt⟩
theorem RLI.put {w W:World} {g:Nat} {o:ByteArray} {nn:Nat} {s:ByteArray} {x:Option Addr} {l c:Nat} {y:Option Addr} {m d:Nat} {bad:Bool} {t:Tree} {o':ByteArray} {nn':Nat} {s':ByteArray} {x':Option Addr} {l' c':Nat} {y':Option Addr} {m' d':Nat} {bad':Bool} {t':Tree}
  (h:RLI w g o nn s x l c y m d bad t W) (hn:NodeV (fun b=>w.heap.size≤b∧b≠w.heap.size∧b≠g) W (.agg #[.string o',.float .f64 nn',.string s',.slice x' l' c']) t') :
  RLI w g o' nn' s' x' l' c' y' m' d' bad' t' (putR W g (.string o') (.float .f64 nn') (.string s') (.slice x' l' c') (.slice y' m' d') (.bool bad')):=by
 obtain ⟨z0,z1,z2,z3,z4,z5,hz⟩:=h.res
 exact ⟨hn.putR (fun hh=>hh.2.2 rfl),h.blk.put,⟨z0,z1,z2,z3,z4,z5,(putR_other (by have:=h.lt;omega)).trans hz⟩,below_putR h.bel (by have:=h.lt;omega),h.lt⟩
def RTail (B lv n:Nat) (res:Option (Tree × List Tok)) (y:Option Addr) (m d:Nat) (bad:Bool) (t:Tree) (gh:Nat) (W:World):Prop:=
 (bad = true∧res = none)∨(bad = false∧∃ f ts,gh = ts.length + 1∧res = P valV true f (tm lv t) ts∧12 * ts.length + lvlP lv + 1≤f∧f≤n∧ts.length≤1000000∧TokV B W (.slice y m d) ts∧KOk ts)
theorem RLI.done {B:Nat} {res:Option (Tree × List Tok)} {w W:World} {g:Nat} {o:ByteArray} {nn:Nat} {s:ByteArray} {x:Option Addr} {l c:Nat} {y:Option Addr} {m d:Nat} {bad:Bool} {t:Tree} (hB:B≤w.heap.size) (h:RLI w g o nn s x l c y m d bad t W)
  (hr:(bad = true∧res = none)∨(bad = false∧∃ ts,res = some (t,ts)∧TokV B W (.slice y m d) ts∧KOk ts)) :
  REnd B res w (.returned (.agg #[.string o,.float .f64 nn,.string s,.slice x l c,.slice y m d,.bool bad])) (putR W w.heap.size (.string o) (.float .f64 nn) (.string s) (.slice x l c) (.slice y m d) (.bool bad)):=by
 refine ⟨below_putR h.bel (Nat.le_refl _),_,rfl,o,nn,s,x,l,c,y,m,d,bad,t,rfl,(h.node.putR (fun hh=>hh.2.1 rfl)).sub (fun b hb _=>hb.1),?_⟩
 rcases hr with h1 | ⟨h1,ts,h2,h3,h4⟩
 ·exact .inl h1
 ·exact .inr ⟨h1,ts,h2,h3.putR hB,h4⟩
theorem rrow_step (B lv:Nat) (hlv:lv < 4) (n:Nat) (H:∀ k,k≤n→RC B 109 lv (pm lv) (lvlP lv) k):RC B 83 lv (lm lv) (lvlR lv) (n + 1):=by
 intro ts v w hn hl hB hK hv
 have HN:=hid hn
 have HL:=hid hl
 have HB:=hid hB
 have HK:=hid hK
 have HH:=hid H
 have HT:=hid hv
 have HLV:=hid hlv
 have HLL:=hid (show lvlP lv + 2≤lvlR lv by match lv,hlv with
  | 0,_=>decide
  | 1,_=>decide
  | 2,_=>decide
  | 3,_=>decide)
 obtain ⟨x,tn,tc,rfl⟩:=hv.agg
 obtain ⟨res,hres⟩:∃ y,y = P valV true (n + 1) (lm lv) ts:=⟨_,rfl⟩
 rw [←hres]
 have HR:=hid (hres.trans (P_row n lv hlv ts))
 clear hn hl hB hK H hv hres hlv
 go_enter Tryz.func83,Tryz.ntmps83
 go_wp2_with (first | (go_at_call 109;fail))
 go_at_call 109
 refine (HH.out n (Nat.le_refl _) ts _ _ (by have:=HN.out;have:=HLL.out;omega) HL.out (by have:=HB.out;simp;omega) HK.out (HT.out.below ((Below.refl _ _).alloc (Nat.le_refl _) _) HB.out)).mono ?_
 rintro e w2 ⟨hb2,v2,rfl,o,nn,s,x2,l2,c2,y,m,d,bad,t,rfl,hnode,hcase⟩
 have HI:Hid (RLI w w2.heap.size o nn s x2 l2 c2 y m d bad t (w2.alloc (.cells #[.string o,.float .f64 nn,.string s,.slice x2 l2 c2,.slice y m d,.bool bad] 121))):=hid (by
  have hsz:=hb2.size
  have hz:(w.alloc (.cells #[.string ⟨#[]⟩,.float .f64 0,.string ⟨#[]⟩,.slice none 0 0,.slice none 0 0,.bool false] 121)).heap.size = w.heap.size + 1:=by simp
  have hal:Below w2.heap.size w2 (w2.alloc (.cells #[.string o,.float .f64 nn,.string s,.slice x2 l2 c2,.slice y m d,.bool bad] 121)):=(Below.refl _ _).alloc (Nat.le_refl _) _
  refine ⟨(hnode.sub (fun b h1 h2=>(by have h3:_≤b:=h1;rw [hz] at h3;omega:w.heap.size≤b∧b≠w.heap.size∧b≠w2.heap.size))).below hal,heap_alloc_new _ _,?_,((bel1 w _).trans (below_le hb2 (by rw [hz];omega))).trans (below_le hal (by omega)),by omega⟩
  have hr0:RB (w.alloc (.cells #[.string ⟨#[]⟩,.float .f64 0,.string ⟨#[]⟩,.slice none 0 0,.slice none 0 0,.bool false] 121)) w.heap.size _ _ _ _ _ _:=heap_alloc_new _ _
  exact ⟨_,_,_,_,_,_,(hr0.below hb2).below hal⟩)
 have HC:Hid (∃ gh,gh≤ts.length + 1∧RTail B lv n res y m d bad t gh (w2.alloc (.cells #[.string o,.float .f64 nn,.string s,.slice x2 l2 c2,.slice y m d,.bool bad] 121))):=hid (by
  have hsz:=hb2.size
  rcases hcase with ⟨h1,h2⟩ | ⟨h1,ts1,h2,h3,h4⟩
  ·exact ⟨0,Nat.zero_le _,.inl ⟨h1,by rw [HR.out,h2]⟩⟩
  ·have hlen:=(P_len valV true n (pm lv) ts t ts1 h2).1
   refine ⟨ts1.length + 1,by omega,.inr ⟨h1,n,ts1,rfl,by rw [HR.out,h2],by have:=HN.out;have:=HLL.out;omega,Nat.le_refl _,by have:=HL.out;omega,h3.below ((Below.refl _ _).alloc (Nat.le_refl _) _) (by have:=HB.out;simp at hsz;omega),h4⟩⟩)
 clear hb2 hnode hcase HR HT HK
 go_wp2_with fail
 generalize w2.alloc (.cells #[.string o,.float .f64 nn,.string s,.slice x2 l2 c2,.slice y m d,.bool bad] 121) = W0 at HI HC ⊢
 generalize w2.heap.size = g at HI ⊢
 obtain ⟨gh0,hgh,hc0⟩:=HC.out
 have HC0:=hid hc0
 clear hc0 HC hgh
 go_loopg [] gh0 (fun gh wr=>∃ o nn s x l c y m d bad t,Hid (RLI w g o nn s x l c y m d bad t wr)∧Hid (RTail B lv n res y m d bad t gh wr))
 case atStart=>exact ⟨o,nn,s,x2,l2,c2,y,m,d,bad,t,HI,HC0⟩
 case round=>
  obtain ⟨o,nn,s,x3,l3,c3,y,m,d,bad,t,HI1,HT1⟩:=hrel
  obtain ⟨e0,e1,e2,e3,e4,e5⟩:=HI1.out.blk.cells
  have HLT:=HI1.out.lt
  cases bad
  ·obtain ⟨f,ts1,hgk,hres,hf1,hf2,hlen,htok,hko⟩:∃ f ts,gk = ts.length + 1∧res = P valV true f (tm lv t) ts∧12 * ts.length + lvlP lv + 1≤f∧f≤n∧ts.length≤1000000∧TokV B wr (.slice y m d) ts∧KOk ts:=by
    rcases HT1.out with ⟨h,_⟩ | ⟨_,h⟩
    ·cases h
    ·exact h
   obtain ⟨f,rfl⟩:∃ f',f = f' + 1:=⟨f - 1,by omega⟩
   have HBT:=hid (fun W (hW:TokV B W (.slice y m d) ts1)=>rbetween lv HLV.out B (.slice y m d) ts1 hko hlen W hW)
   have HTOK:=hid htok
   have HRES:=hid hres
   have HF:=hid (And.intro hf1 (And.intro hf2 hlen))
   have HKO:=hid hko
   have HGK:=hid hgk
   clear hf1 hf2 hlen htok hres hko hgk HT1
   by_cases hb:betw lv ts1 = []
   ·have HRS:Hid (res = some (t,ts1)):=hid (by rw [HRES.out,P_tail_no f lv HLV.out t ts1 hb])
    rw [hb] at HBT
    clear hb
    obtain ⟨z0,z1,z2,z3,z4,z5,hz⟩:=HI1.out.res
    obtain ⟨k0,k1,k2,k3,k4,k5⟩:=hz.cells
    have HZ:=hid hz
    have f0:=hz.fr 0
    have f1:=hz.fr 1
    have f2:=hz.fr 2
    have f3:=hz.fr 3
    have f4:=hz.fr 4
    have f5:=hz.fr 5
    have b0:(tx []).toList.isEmpty = true:=by rw [tx_toList];rfl
    clear hz
    go_wp2_with (first | (go_at_call 110;refine (HBT.out _ HTOK.out).mono ?_;rintro e w5 ⟨rfl,rfl⟩))
    go_wp2
    rw [HRS.out]
    exact bodyPost_ret (read_node _ rfl _ _ w.heap.size _ _ _ _ _ _ rfl HZ.out.put) rfl (HI1.out.done HB.out (.inr ⟨rfl,ts1,rfl,HTOK.out,HKO.out⟩))
   ·obtain ⟨t0,r0,rfl⟩:∃ t0 r0,ts1 = t0 :: r0:=by
     cases ts1 with
     | nil=>exact absurd (by match lv,HLV.out with
       | 0,_=>rfl
       | 1,_=>rfl
       | 2,_=>rfl
       | 3,_=>rfl) hb
     | cons t0 r0=>exact ⟨t0,r0,rfl⟩
    have HRS:=hid (HRES.out.trans (P_tail_yes f lv HLV.out t t0 r0 hb))
    obtain ⟨op,hop⟩:∃ op,op = betw lv (t0 :: r0):=⟨_,rfl⟩
    rw [←hop] at HBT HRS
    have b0:(tx op).toList.isEmpty = false:=by rw [tx_toList];rw [hop];simpa using hb
    obtain ⟨y2,m2,d2,hsl,htok2⟩:=tok_slice HTOK.out
    have HTOK2:=hid htok2
    have HKO2:=hid HKO.out.tail
    have HPART:=hid (fun W hW hT=>HH.out f (by have:=HF.out;omega) r0 (.slice y2 m2 d2) W (by have:=HF.out;simp at this;omega) (by have:=HF.out;simp at this;omega) hW HKO2.out hT)
    clear hb hop htok2
    go_wp2_with (first | (go_at_call 110;refine (HBT.out _ HTOK.out).mono ?_;rintro e w5 ⟨rfl,rfl⟩))
    clear HBT b0
    go_at_call 109
    refine (HPART.out _ (by have:=HB.out;have:=HI1.out.bel.size;omega) HTOK2.out).mono ?_
    rintro e w5 ⟨hb5,v5,rfl,o2,nn2,s2,x4,l4,c4,y4,m4,d4,bad2,t2,rfl,hnode2,hcase2⟩
    have HI7:Hid (RLI w g o nn s x3 l3 c3 y m d false t (w5.alloc (.cells #[.string o2,.float .f64 nn2,.string s2,.slice x4 l4 c4,.slice y4 m4 d4,.bool bad2] 121))):=hid ((HI1.out.below hb5).below ((Below.refl _ _).alloc (Nat.le_refl _) _))
    have HG7:Hid (RB (w5.alloc (.cells #[.string o2,.float .f64 nn2,.string s2,.slice x4 l4 c4,.slice y4 m4 d4,.bool bad2] 121)) w5.heap.size (.string o2) (.float .f64 nn2) (.string s2) (.slice x4 l4 c4) (.slice y4 m4 d4) (.bool bad2)):=hid (heap_alloc_new _ _)
    have HND7:Hid (NodeV (fun b=>w.heap.size≤b∧b≠w.heap.size∧b≠g) (w5.alloc (.cells #[.string o2,.float .f64 nn2,.string s2,.slice x4 l4 c4,.slice y4 m4 d4,.bool bad2] 121)) (.agg #[.string o2,.float .f64 nn2,.string s2,.slice x4 l4 c4]) t2):=hid ((hnode2.sub (fun b h1 _=>(by have h3:wr.heap.size≤b:=h1;have h4:=HI1.out.blk.lt;have h5:=HI1.out.lt;omega:w.heap.size≤b∧b≠w.heap.size∧b≠g))).below ((Below.refl _ _).alloc (Nat.le_refl _) _))
    have HTL:Hid (∃ gh,gh < gk∧∀ W8,(∀ b,b < B→W8.heap[b]? = w5.heap[b]?)→RTail B lv n res y4 m4 d4 bad2 (two op t t2) gh W8):=hid (by
     rcases hcase2 with ⟨h1,h2⟩ | ⟨h1,ts2,h2,h3,h4⟩
     ·exact ⟨0,by have:=HGK.out;omega,fun W8 _=>.inl ⟨h1,by rw [HRS.out,h2]⟩⟩
     ·have hlen:=(P_len valV true f (pm lv) r0 t2 ts2 h2).1
      have hf:=HF.out
      rw [List.length_cons] at hf
      have hg:=HGK.out
      rw [List.length_cons] at hg
      exact ⟨ts2.length + 1,by omega,fun W8 h8=>.inr ⟨h1,f,ts2,rfl,by rw [HRS.out,h2],by omega,by omega,by omega,h3.kept h8,h4⟩⟩)
    have HLT7:=hid (show g < w5.heap.size by have:=HI1.out.blk.lt;have:=hb5.size;omega)
    have HB5:=hid hb5
    clear hb5 hnode2 hcase2 HPART HRS HTOK HRES
    go_wp2_with fail
    have HW5:Hid ((w5.alloc (.cells #[.string o2,.float .f64 nn2,.string s2,.slice x4 l4 c4,.slice y4 m4 d4,.bool bad2] 121)).heap.size = w5.heap.size + 1∧Below w5.heap.size w5 (w5.alloc (.cells #[.string o2,.float .f64 nn2,.string s2,.slice x4 l4 c4,.slice y4 m4 d4,.bool bad2] 121))):=hid ⟨by simp,(Below.refl _ _).alloc (Nat.le_refl _) _⟩
    generalize (w5.alloc (.cells #[.string o2,.float .f64 nn2,.string s2,.slice x4 l4 c4,.slice y4 m4 d4,.bool bad2] 121)) = W7 at HI7 HG7 HND7 HW5 ⊢
    generalize hg7:w5.heap.size = g7 at HG7 HLT7 ⊢
    have HG7E:=hid hg7
    clear hg7
    have HS0:=hid (RB.cells (w:=W7.drew) HG7.out)
    obtain ⟨q0,q1,q2,q3,q4,q5⟩:=HI7.out.blk.cells
    have HTWO:Hid (∀ W,Below W7.heap.size W7 W→Calls Tryz.prog 111 #[.string (tx op),.agg #[.string o,.float .f64 nn,.string s,.slice x3 l3 c3],.agg #[.string o2,.float .f64 nn2,.string s2,.slice x4 l4 c4]] W fun e w'=>∃ v,e = .returned v∧NodeV (fun b=>w.heap.size≤b∧b≠w.heap.size∧b≠g) w' v (two op t t2)∧Below W.heap.size W w'):=hid (fun W hW=>
     rtwo _ op _ _ t t2 W (fun b hb=>(by have h1:=hW.size;have h2:=HI7.out.blk.lt;have h3:=HI7.out.lt;omega:w.heap.size≤b∧b≠w.heap.size∧b≠g)) (HI7.out.node.below hW) (HND7.out.below hW))
    have n1:¬ g = g7:=by have:=HLT7.out;omega
    clear e0 e1 e2 e3 e4 e5 HLT
    refine wp_region_held (S:=(fun w'=>w'.cell? ⟨g7,0,none⟩ = some (.string o2)∧w'.cell? ⟨g7,1,none⟩ = some (.float .f64 nn2)∧w'.cell? ⟨g7,2,none⟩ = some (.string s2)∧w'.cell? ⟨g7,3,none⟩ = some (.slice x4 l4 c4)∧w'.cell? ⟨g7,4,none⟩ = some (.slice y4 m4 d4)∧w'.cell? ⟨g7,5,none⟩ = some (.bool bad2))) (by kernel_rfl) ?_
    change wpAnyH _ _ _ _ _ _ _ _ (World.drew _)
    refine tkH (i:=0) HS0.out ?_
    try simp only [Act.put,zz1]
    refine tkH (i:=1) HS0.out ?_
    try simp only [Act.put]
    refine tkH (i:=3) HS0.out ?_
    try simp only [Act.put]
    refine tkH (i:=4) HS0.out ?_
    try simp only [Act.put]
    refine tkH (i:=6) HS0.out ?_
    try simp only [Act.put]
    refine tkH (i:=7) HS0.out ?_
    try simp only [Act.put]
    refine tkH (i:=8) HS0.out ?_
    try simp only [Act.put]
    refine tkH (i:=9) HS0.out ?_
    try simp only [Act.put]
    refine wpAnyH_ready (rs:=[2]) (by kernel_rfl) (by simp) ?_
    refine AllReadyH.cons rfl (fun K hK=>?_) AllReadyH.nil
    go_simp
    refine hK.out _ _ HS0.out (fun _=>?_)
    clear hK K
    try simp only [Act.put,zz1,zz2,zz3]
    refine wpAnyH_ready (rs:=[5]) (by kernel_rfl) (by simp) ?_
    refine AllReadyH.cons rfl (fun K hK=>?_) AllReadyH.nil
    go_simp
    go_wp2_with (first | (go_at_call 111;fail))
    refine (HTWO.out _ (Below.refl _ _).drew).mono ?_
    rintro e w6 ⟨v6,rfl,hv6,hb6⟩
    obtain ⟨o6,n6,s6,x6,l6,c6,rfl⟩:=hv6.agg
    have HV6:=hid hv6
    have HB6:Hid (Below W7.heap.size W7 w6):=hid ((Below.refl _ _).drew.trans hb6)
    have HI6:=hid (HI7.out.below HB6.out)
    have HG6:=hid (HG7.out.below HB6.out)
    have HS6:=hid HG6.out.cells
    have HS8:=hid (RB.cells (w:=putR w6 g (.string o6) (.float .f64 n6) (.string s6) (.slice x6 l6 c6) (.slice y4 m4 d4) (.bool bad2)) ((putR_other (fun h=>n1 h.symm)).trans HG6.out))
    have fr:=HI6.out.blk.fr
    have f0:=fr 0
    have f1:=fr 1
    have f2:=fr 2
    have f3:=fr 3
    have f4:=fr 4
    have f5:=fr 5
    clear q0 q1 q2 q3 q4 q5
    obtain ⟨q0,q1,q2,q3,q4,q5⟩:=HI6.out.blk.cells
    clear hv6 hb6 fr
    refine hK.out _ _ HS6.out (fun _=>?_)
    clear hK K
    try simp only [Act.put,zz1,zz2,zz3]
    refine tkH (i:=10) HS6.out ?_
    try simp only [Act.put,zz1]
    refine wpAnyH_ready (rs:=[11]) (by kernel_rfl) (by simp) ?_
    refine AllReadyH.cons rfl (fun K hK=>?_) AllReadyH.nil
    go_simp
    refine hK.out _ _ HS8.out (fun _=>?_)
    clear hK K
    try simp only [Act.put,zz1,zz2,zz3]
    refine wpAnyH_done (by kernel_rfl) ?_ _
    obtain ⟨gh2,hgh2,HTL2⟩:=HTL.out
    have HTL3:=hid HTL2
    clear HTL2
    go_wp2
    go_roundg gh2
    case measure=>exact hgh2
    case rel=>
     refine ⟨o6,n6,s6,x6,l6,c6,y4,m4,d4,bad2,two op t t2,hid (HI6.out.put HV6.out),hid (HTL3.out _ (fun b hb=>?_))⟩
     have h1:=HI7.out.lt
     have h2:=HB.out
     have h3:=HI1.out.bel.size
     have h4:=HB5.out.size
     have h5:=HB6.out.block b (by have:=HB6.out.size;have:=HW5.out.1;omega)
     have h6:=HW5.out.2.block b (by omega)
     have h7:(putR w6 g (.string o6) (.float .f64 n6) (.string s6) (.slice x6 l6 c6) (.slice y4 m4 d4) (.bool bad2)).heap[b]? = w6.heap[b]?:=putR_other (by omega)
     exact h7.trans (h5.trans h6)
  ·have HRN:Hid (res = none):=hid (by
    rcases HT1.out with ⟨_,h⟩ | ⟨h,_⟩
    ·exact h
    ·cases h)
   obtain ⟨z0,z1,z2,z3,z4,z5,hz⟩:=HI1.out.res
   obtain ⟨k0,k1,k2,k3,k4,k5⟩:=hz.cells
   have HZ:=hid hz
   have f0:=hz.fr 0
   have f1:=hz.fr 1
   have f2:=hz.fr 2
   have f3:=hz.fr 3
   have f4:=hz.fr 4
   have f5:=hz.fr 5
   clear hz
   go_wp2
   rw [HRN.out]
   exact bodyPost_ret (read_node _ rfl _ _ w.heap.size _ _ _ _ _ _ rfl HZ.out.put) rfl (HI1.out.done HB.out (.inl ⟨rfl,rfl⟩))
end Go.Proofs.YtpcbamcelpcigaaGreat
