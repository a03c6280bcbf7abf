/- Plain words of the rule language: pieces, trees, the parser, depth. No program in sight. -/
import Derived.Test.YtfalcmbjjlgoaaaGreatDoorH1
namespace Go.Proofs.YtfalcmbjjlgoaaaGreatDoor
def isDig (c : UInt8) : Bool := 48 ≤ c && c ≤ 57
def isLet (c : UInt8) : Bool := 97 ≤ c && c ≤ 122
def isWrd (c : UInt8) : Bool := isLet c || isDig c || c == 95
/-- A piece: 1 a number, 2 a word, 3 a text, 4 a sign. -/
structure Tok where
  k : Nat
  s : Bs
deriving DecidableEq
def cntDig (l : Bs) : Nat := (l.takeWhile isDig).length
def cntWrd (l : Bs) : Nat := (l.takeWhile isWrd).length
/-- How many bytes a number has, how many digits, how many of them behind the point. -/
def numLen (l : Bs) : Nat × Nat × Nat :=
  let a := cntDig l
  if l.getD a 0 = 46 ∧ isDig (l.getD (a + 1) 0) = true then (a + 1 + cntDig (l.drop (a + 1)), a + cntDig (l.drop (a + 1)), cntDig (l.drop (a + 1))) else (a, a, 0)
def isTwo (c d : UInt8) : Bool := d == 61 && (c == 33 || c == 60 || c == 62)
def isOne (c : UInt8) : Bool := c == 61 || c == 60 || c == 62 || c == 43 || c == 45 || c == 42 || c == 47 || c == 40 || c == 41 || c == 44
/-- A number's digits as a number, how many stand behind the point, is there one. -/
def valStep (x : Nat × Nat × Bool) (c : UInt8) : Nat × Nat × Bool := if c = 46 then (x.1, x.2.1, true) else (10 * x.1 + (c.toNat - 48), if x.2.2 = true then x.2.1 + 1 else x.2.1, x.2.2)
def valF (l : Bs) : Nat × Nat × Bool := l.foldl valStep (0, 0, false)
/-- A number's text. -/
def NumT (l : Bs) : Prop := (∀ c ∈ l, c = 46 ∨ isDig c = true) ∧ (valF l).2.1 ≤ 6 ∧ (l.filter (fun c => c != 46)).length ≤ 15 ∧ l.length ≤ 16
/-- How many bytes stand ahead of the first apostrophe. -/
def cntTxt (l : Bs) : Nat := (l.takeWhile (fun c => c != 39)).length
/-- The first piece of a text that begins with no blank, and how many bytes it takes. -/
def lex1 (l : Bs) : Option (Tok × Nat) :=
  match l with
  | [] => none
  | c :: t =>
    if isDig c = true then
      if (numLen l).2.1 ≤ 15 ∧ (numLen l).2.2 ≤ 6 then some (⟨1, l.take (numLen l).1⟩, (numLen l).1) else none
    else if isLet c = true then some (⟨2, l.take (1 + cntWrd t)⟩, 1 + cntWrd t)
    else if c = 39 then (if cntTxt t < t.length then some (⟨3, t.take (cntTxt t)⟩, cntTxt t + 2) else none)
    else if isTwo c (t.getD 0 0) = true then some (⟨4, l.take 2⟩, 2)
    else if isOne c = true then some (⟨4, l.take 1⟩, 1)
    else none
def cntBl (l : Bs) : Nat := (l.takeWhile (fun c => c == 32)).length
/-- The pieces of a text, and whether it has no fault. -/
def lexF : Nat → Bs → List Tok × Bool
  | 0, _ => ([], false)
  | n + 1, l =>
    let l' := l.drop (cntBl l)
    if l' = [] then ([], true) else
    match lex1 l' with
    | none => ([], false)
    | some (t, k) => (t :: (lexF n (l'.drop k)).1, (lexF n (l'.drop k)).2)
def lex (l : Bs) : List Tok × Bool := lexF (l.length + 1) l
inductive Tree where
  | mk (op : Bs) (n : Nat) (s : Bs) (l : List Tree)
def Tree.op : Tree → Bs | .mk o _ _ _ => o
def Tree.n : Tree → Nat | .mk _ n _ _ => n
def Tree.s : Tree → Bs | .mk _ _ s _ => s
def Tree.l : Tree → List Tree | .mk _ _ _ l => l
mutual
def depT : Tree → Nat
  | .mk _ _ _ l => depL l + 1
def depL : List Tree → Nat
  | [] => 0
  | t :: r => max (depT t) (depL r)
end
inductive Mode where
  | or | orT (t : Tree) | and | andT (t : Tree) | not | sum | sumT (t : Tree) | prod | prodT (t : Tree) | signed | atom
def wor : Bs := [111, 114]
def wand : Bs := [97, 110, 100]
def wnot : Bs := [110, 111, 116]
def wlen : Bs := [108, 101, 110]
def wabs : Bs := [97, 98, 115]
def whas : Bs := [104, 97, 115]
def wnum : Bs := [110, 117, 109]
def wtext : Bs := [116, 101, 120, 116]
def wname : Bs := [110, 97, 109, 101]
def wneg : Bs := [110, 101, 103]
def isTok (ts : List Tok) (k : Nat) (s : Bs) : Bool :=
  match ts with
  | [] => false
  | t :: _ => t.k == k && decide (t.s = s)
def isCmp (s : Bs) : Bool := decide (s = [61] ∨ s = [33, 61] ∨ s = [60] ∨ s = [60, 61] ∨ s = [62] ∨ s = [62, 61])
/-- The next piece; none: a fault stands there. -/
def adv (ok : Bool) (ts : List Tok) : Option (List Tok) :=
  match ts with
  | [] => none
  | _ :: r => if r = [] ∧ ok = false then none else some r
def must (ok : Bool) (s : Bs) (ts : List Tok) : Option (List Tok) := if isTok ts 4 s = true then adv ok ts else none
def two (op : Bs) (a b : Tree) : Tree := .mk op 0 [] [a, b]
def one (op : Bs) (a : Tree) : Tree := .mk op 0 [] [a]
/-- A rule in parentheses, read by R. -/
def inside (ok : Bool) (R : List Tok → Option (Tree × List Tok)) (ts : List Tok) : Option (Tree × List Tok) :=
  match must ok [40] ts with
  | none => none
  | some t1 => match R t1 with
    | none => none
    | some (a, t2) => match must ok [41] t2 with
      | none => none
      | some t3 => some (a, t3)
def hasP (ok : Bool) (R : List Tok → Option (Tree × List Tok)) (ts : List Tok) : Option (Tree × List Tok) :=
  match must ok [40] ts with
  | none => none
  | some t1 => match R t1 with
    | none => none
    | some (a, t2) => match must ok [44] t2 with
      | none => none
      | some t3 => match R t3 with
        | none => none
        | some (b, t4) => match must ok [41] t4 with
          | none => none
          | some t5 => some (two whas a b, t5)
/-- The parser; V: a number's value. -/
def P (V : Bs → Nat) (ok : Bool) : Nat → Mode → List Tok → Option (Tree × List Tok)
  | 0, _, _ => none
  | n + 1, .or, ts => match P V ok n .and ts with
    | none => none
    | some (a, r) => P V ok n (.orT a) r
  | n + 1, .orT a, ts => if isTok ts 2 wor = true then
      match adv ok ts with
      | none => none
      | some t1 => match P V ok n .and t1 with
        | none => none
        | some (b, r) => P V ok n (.orT (two wor a b)) r
    else some (a, ts)
  | n + 1, .and, ts => match P V ok n .not ts with
    | none => none
    | some (a, r) => P V ok n (.andT a) r
  | n + 1, .andT a, ts => if isTok ts 2 wand = true then
      match adv ok ts with
      | none => none
      | some t1 => match P V ok n .not t1 with
        | none => none
        | some (b, r) => P V ok n (.andT (two wand a b)) r
    else some (a, ts)
  | n + 1, .not, ts => if isTok ts 2 wnot = true then
      match adv ok ts with
      | none => none
      | some t1 => match P V ok n .not t1 with
        | none => none
        | some (b, r) => some (one wnot b, r)
    else match P V ok n .sum ts with
      | none => none
      | some (a, r) => match r with
        | [] => some (a, r)
        | t :: _ => if t.k = 4 ∧ isCmp t.s = true then
            match adv ok r with
            | none => none
            | some t1 => match P V ok n .sum t1 with
              | none => none
              | some (b, r') => some (two t.s a b, r')
          else some (a, r)
  | n + 1, .sum, ts => match P V ok n .prod ts with
    | none => none
    | some (a, r) => P V ok n (.sumT a) r
  | n + 1, .sumT a, ts => if isTok ts 4 [43] = true ∨ isTok ts 4 [45] = true then
      match adv ok ts with
      | none => none
      | some t1 => match P V ok n .prod t1 with
        | none => none
        | some (b, r) => P V ok n (.sumT (two ((ts.headD ⟨0, []⟩).s) a b)) r
    else some (a, ts)
  | n + 1, .prod, ts => match P V ok n .signed ts with
    | none => none
    | some (a, r) => P V ok n (.prodT a) r
  | n + 1, .prodT a, ts => if isTok ts 4 [42] = true ∨ isTok ts 4 [47] = true then
      match adv ok ts with
      | none => none
      | some t1 => match P V ok n .signed t1 with
        | none => none
        | some (b, r) => P V ok n (.prodT (two ((ts.headD ⟨0, []⟩).s) a b)) r
    else some (a, ts)
  | n + 1, .signed, ts => if isTok ts 4 [45] = true then
      match adv ok ts with
      | none => none
      | some t1 => match P V ok n .signed t1 with
        | none => none
        | some (b, r) => some (one wneg b, r)
    else P V ok n .atom ts
  | n + 1, .atom, ts =>
    match ts with
    | [] => none
    | t :: _ =>
      if t.k = 1 then (match adv ok ts with
        | none => none
        | some r => some (.mk wnum (V t.s) [] [], r))
      else if t.k = 3 then (match adv ok ts with
        | none => none
        | some r => some (.mk wtext 0 t.s [], r))
      else if t.k = 2 then
        if t.s = wor ∨ t.s = wand ∨ t.s = wnot then none
        else match adv ok ts with
        | none => none
        | some r =>
          if t.s = wlen ∨ t.s = wabs then (match inside ok (P V ok n .or) r with
            | none => none
            | some (a, r') => some (one t.s a, r'))
          else if t.s = whas then hasP ok (P V ok n .or) r
          else some (.mk wname 0 t.s [], r)
      else inside ok (P V ok n .or) ts
theorem adv_len {ok : Bool} {ts r : List Tok} (h : adv ok ts = some r) : r.length + 1 = ts.length ∧ (ok = false → r ≠ []) := by
  unfold adv at h
  split at h
  · cases h
  · split at h
    · cases h
    · rename_i hc
      cases h
      refine ⟨rfl, fun ho e => hc ⟨e, ho⟩⟩
theorem must_len {ok : Bool} {s : Bs} {ts r : List Tok} (h : must ok s ts = some r) : r.length + 1 = ts.length ∧ (ok = false → r ≠ []) := by
  unfold must at h
  split at h
  · exact adv_len h
  · cases h
/-- What is left of the pieces behind a part. -/
def Less (ok : Bool) (tail : Bool) (ts r : List Tok) : Prop := r.length ≤ ts.length ∧ (tail = false → r.length < ts.length) ∧ ((ok = false → ts ≠ []) → ok = false → r ≠ [])
theorem inside_len {ok : Bool} {R : List Tok → Option (Tree × List Tok)} {ts r : List Tok} {a : Tree} (hR : ∀ ts a r, R ts = some (a, r) → Less ok false ts r) (h : inside ok R ts = some (a, r)) : Less ok false ts r := by
  unfold inside at h
  split at h
  · cases h
  · rename_i t1 h1
    split at h
    · cases h
    · rename_i a2 t2 h2
      split at h
      · cases h
      · rename_i t3 h3
        cases h
        have := must_len h1
        have := (hR _ _ _ h2).1
        have := must_len h3
        exact ⟨by omega, fun _ => by omega, fun _ => this.2⟩
theorem hasP_len {ok : Bool} {R : List Tok → Option (Tree × List Tok)} {ts r : List Tok} {a : Tree} (hR : ∀ ts a r, R ts = some (a, r) → Less ok false ts r) (h : hasP ok R ts = some (a, r)) : Less ok false ts r := by
  unfold hasP at h
  split at h
  · cases h
  · rename_i t1 h1
    split at h
    · cases h
    · rename_i a2 t2 h2
      split at h
      · cases h
      · rename_i t3 h3
        split at h
        · cases h
        · rename_i b t4 h4
          split at h
          · cases h
          · rename_i t5 h5
            cases h
            have := must_len h1
            have := (hR _ _ _ h2).1
            have := must_len h3
            have := (hR _ _ _ h4).1
            have := must_len h5
            exact ⟨by omega, fun _ => by omega, fun _ => this.2⟩
def Mode.tail : Mode → Bool
  | .orT _ | .andT _ | .sumT _ | .prodT _ => true
  | _ => false
theorem less_adv {ok : Bool} {t : Bool} {ts t1 r : List Tok} (h : adv ok ts = some t1) (k : Less ok t t1 r) : Less ok false ts r := by
  have g := adv_len h
  exact ⟨by have := k.1; omega, fun _ => by have := k.1; omega, fun _ => k.2.2 g.2⟩
theorem less_adv0 {ok : Bool} {ts t1 : List Tok} (h : adv ok ts = some t1) : Less ok false ts t1 := by
  have g := adv_len h
  exact ⟨by omega, fun _ => by omega, fun _ => g.2⟩
theorem less_trans {ok a b : Bool} {ts t1 r : List Tok} (h : Less ok a ts t1) (k : Less ok b t1 r) : Less ok a ts r :=
  ⟨by have := h.1; have := k.1; omega, fun q => by have := h.2.1 q; have := k.1; omega, fun q => k.2.2 (h.2.2 q)⟩
theorem less_weak {ok : Bool} {a : Bool} {ts r : List Tok} (h : Less ok false ts r) : Less ok a ts r := ⟨h.1, fun _ => h.2.1 rfl, h.2.2⟩
/-- What is left is shorter, and not empty where a fault stands behind. -/
theorem P_len (V : Bs → Nat) (ok : Bool) : ∀ (n : Nat) (m : Mode) (ts : List Tok) (a : Tree) (r : List Tok), P V ok n m ts = some (a, r) → Less ok m.tail ts r := by
  intro n
  induction n with
  | zero => intro m ts a r h; cases h
  | succ n ih =>
    have chain : ∀ (m1 : Mode) (m2 : Tree → Mode) (ts r : List Tok) (a : Tree), m1.tail = false → (match P V ok n m1 ts with | none => none | some (a, r) => P V ok n (m2 a) r) = some (a, r) → Less ok false ts r := by
      intro m1 m2 ts r a hm h
      split at h
      · cases h
      · rename_i b t1 h1
        have g := ih _ _ _ _ h1
        rw [hm] at g
        exact less_trans g (ih _ _ _ _ h)
    have tailr : ∀ (c : Prop) [Decidable c] (m1 : Mode) (m2 : Tree → Mode) (ts r : List Tok) (a x : Tree), (if c then (match adv ok ts with | none => none | some t1 => match P V ok n m1 t1 with | none => none | some (b, r) => P V ok n (m2 b) r) else some (x, ts)) = some (a, r) → Less ok true ts r := by
      intro c _ m1 m2 ts r a x h
      split at h
      · split at h
        · cases h
        · rename_i t1 h1
          split at h
          · cases h
          · rename_i b t2 h2
            exact less_weak (less_adv h1 (less_trans (ih _ _ _ _ h2) (ih _ _ _ _ h)))
      · cases h; exact ⟨Nat.le_refl _, (fun h => by cases h), fun q => q⟩
    have hor : ∀ ts a r, P V ok n .or ts = some (a, r) → Less ok false ts r := fun ts a r h => ih _ _ _ _ h
    intro m ts a r h
    cases m with
    | or => exact chain .and Mode.orT ts r a rfl (by simpa only [P] using h)
    | and => exact chain .not Mode.andT ts r a rfl (by simpa only [P] using h)
    | sum => exact chain .prod Mode.sumT ts r a rfl (by simpa only [P] using h)
    | prod => exact chain .signed Mode.prodT ts r a rfl (by simpa only [P] using h)
    | orT x => exact tailr _ .and (fun b => Mode.orT (two wor x b)) ts r a x (by simpa only [P] using h)
    | andT x => exact tailr _ .not (fun b => Mode.andT (two wand x b)) ts r a x (by simpa only [P] using h)
    | sumT x => exact tailr _ .prod (fun b => Mode.sumT (two ((ts.headD ⟨0, []⟩).s) x b)) ts r a x (by simpa only [P] using h)
    | prodT x => exact tailr _ .signed (fun b => Mode.prodT (two ((ts.headD ⟨0, []⟩).s) x b)) ts r a x (by simpa only [P] using h)
    | not =>
      simp only [P] at h
      split at h
      · split at h
        · cases h
        · rename_i t1 h1
          split at h
          · cases h
          · rename_i b t2 h2
            cases h
            exact less_adv h1 (ih _ _ _ _ h2)
      · split at h
        · cases h
        · rename_i b t2 h2
          have g2 := ih _ _ _ _ h2
          split at h
          · cases h; exact g2
          · split at h
            · split at h
              · cases h
              · rename_i t3 h3
                split at h
                · cases h
                · rename_i c t4 h4
                  cases h
                  exact less_trans g2 (less_adv h3 (ih _ _ _ _ h4))
            · cases h; exact g2
    | signed =>
      simp only [P] at h
      split at h
      · split at h
        · cases h
        · rename_i t1 h1
          split at h
          · cases h
          · rename_i b t2 h2
            cases h
            exact less_adv h1 (ih _ _ _ _ h2)
      · have g := ih _ _ _ _ h
        exact g
    | atom =>
      cases ts with
      | nil => simp only [P] at h; cases h
      | cons t ts =>
        simp only [P] at h
        split at h
        · split at h
          · cases h
          · rename_i t1 h1
            cases h
            exact less_adv0 h1
        · split at h
          · split at h
            · cases h
            · rename_i t1 h1
              cases h
              exact less_adv0 h1
          · split at h
            · split at h
              · cases h
              · split at h
                · cases h
                · rename_i t1 h1
                  split at h
                  · split at h
                    · cases h
                    · rename_i b t2 h2
                      cases h
                      exact less_adv h1 (inside_len hor h2)
                  · split at h
                    · exact less_adv h1 (hasP_len hor h)
                    · cases h; exact less_adv0 h1
            · exact inside_len hor h
end Go.Proofs.YtfalcmbjjlgoaaaGreatDoor
